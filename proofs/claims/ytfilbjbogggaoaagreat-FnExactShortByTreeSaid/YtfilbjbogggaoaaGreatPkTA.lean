/- Contracts and lemmas, put together. -/
import Derived.BigQuiet
import Derived.Deep.QuietTactic
import Derived.Deep.RegionHeld3
import Derived.Test.YtfilbjbogggaoaaGreatPkA
import Derived.Test.YtfilbjbogggaoaaGreatPkVS
/- Contracts: the laws' own helpers over slices of integers and matrices. -/
namespace Go.Proofs.YtfilbjbogggaoaaGreat
set_option linter.unusedSimpArgs false
set_option linter.unusedVariables false
open Go.RowKit

theorem set_take (l m : List Int) (k : Nat) (h : k < l.length) (hm : m.length = l.length) (h1 : ∀ i, i < k → nth m i = nth l i) : ∀ i, i < k + 1 → nth (m.set k (nth l k)) i = nth l i := by
  intro i hi
  rw [nth_set _ _ _ _ (by omega)]
  by_cases e : i = k
  · rw [if_pos e, e]
  · rw [if_neg e]; exact h1 i (by omega)

set_option maxHeartbeats 400000 in
theorem toIntS_c (A : Option Addr) (l : List Int) (c : Nat) (w : World) (hr : Rd w A l) (hl : l.length ≤ 1048576) :
    Calls Tryz.prog 103 #[.slice A l.length c] w fun e w' => ∃ g, e = .returned (.slice (some ⟨g, 0, none⟩) l.length l.length) ∧ Own w' w.heap.size (.slice (some ⟨g, 0, none⟩) l.length l.length) l ∧ Grows w w' := by
  obtain ⟨i0, hi0, hz0, hz1, hz2⟩ := info_parts info_int
  go_enter Tryz.func103, Tryz.ntmps103
  go_wp2_with (at_make; refine wpList_make_full _ rfl (.tmp 6) (.tmp 6) 24 rfl w.heap.size 3 i0 (.int .i64 0) 1 Tryz.underlying24 hi0 hz0 hz1 .i64 .i64 _ _ l.length rfl rfl rfl rfl (by rw [hz2]; omega) (by unfold maxLen; omega) (Nat.le_refl _) ?_; intro w1 hown1 hg1)
  have hz : (w.heap.size : Nat) < w1.heap.size := hown1.lt _ rfl |>.2
  have hown : Own w1 w.heap.size (.slice (some ⟨w.heap.size, 0, none⟩) l.length l.length) (List.replicate l.length 0) := by
    unfold Own
    rw [List.length_replicate, List.map_replicate]
    have := hown1
    rw [show (Value.int IntKind.i64 0).cells = #[Value.int IntKind.i64 0] from rfl, Nat.mul_one, toList_madeCells_one] at this
    exact this
  have hb1 : Grows w w1 := (Below.refl _ _).grown hg1 (Nat.le_refl _) (by simp)
  have HB := Lib.hid hb1
  clear hown1 hg1 hb1
  go_loopw [4] (fun i wr => ∃ (k : Nat) (m : List Int), i = .int .i64 k ∧ k ≤ l.length ∧ m.length = l.length ∧ (∀ i, i < k → nth m i = nth l i) ∧ Own wr w.heap.size (.slice (some ⟨w.heap.size, 0, none⟩) l.length l.length) m ∧ Grows w wr) (fun i _ => l.length - (intOf i).toNat)
  case atStart => exact ⟨0, List.replicate l.length 0, rfl, Nat.zero_le _, by simp, by omega, hown, HB.out⟩
  case round =>
    obtain ⟨k, m, rfl, hk, hm, he, ho, hgr⟩ := hrel
    by_cases hlt : k < l.length
    · obtain ⟨b, off, rfl, hbs, hcell⟩ := (hr.grows hgr).at_ k hlt
      have hc2 := ho.cell k (by omega)
      have hf2 := ho.free k
      have HE := Lib.hid he
      have HM := Lib.hid hm
      clear he hm
      go_wp2
      go_round
      case rel => exact ⟨k + 1, m.set k (nth l k), by go_num, by omega, by rw [List.length_set, HM.out], set_take l m k hlt HM.out HE.out, by have := ho; rw [← HM.out] at this ⊢; exact this.set k _, hgr.setCell (Nat.le_refl _) _⟩
      case measure => simp [intOf]; omega
    · go_wp2
      go_ret
      obtain rfl : m = l := nth_ext hm (fun i hi => he i (by omega))
      exact ⟨_, rfl, ho, hgr⟩

theorem szIntS_c (A : Option Addr) (n c : Nat) (left : Int) (w : World) (hn : n ≤ 9223372036854775807) (h1 : 0 ≤ left) (h2 : left ≤ 1048576) :
    Calls Tryz.prog 100 #[.slice A n c, .int .i64 left] w fun e w' => e = .returned (.int .i64 (if left < n then -1 else left - n)) ∧ w = w' := by
  by_cases h : left < n
  · go_enter Tryz.func100, Tryz.ntmps100
    go_wp2
    go_ret
    exact ⟨by simp, rfl⟩
  · go_enter Tryz.func100, Tryz.ntmps100
    go_wp2
    go_ret
    exact ⟨by simp, rfl⟩

theorem szMatrix_c (r cl : Int) (A : Option Addr) (n c : Nat) (left : Int) (w : World) (hn : n ≤ 9223372036854775807) (h1 : 0 ≤ left) (h2 : left ≤ 1048576) :
    Calls Tryz.prog 31 #[.agg #[.int .i64 r, .int .i64 cl, .slice A n c], .int .i64 left] w fun e w' => e = .returned (.int .i64 (if left < n then -1 else left - n)) ∧ Grows w w' := by
  have c1 := fun w => szIntS_c A n c left w hn h1 h2
  by_cases h : left < n
  · simp only [if_pos h] at c1 ⊢
    have C := Lib.hid c1; clear c1
    go_enter Tryz.func31, Tryz.ntmps31
    go_wp2_with (go_at_call 100; refine (C.out _).mono ?_; rintro e w' ⟨rfl, rfl⟩)
    go_ret
    exact ⟨rfl, (Below.refl _ _).alloc (Nat.le_refl _) _⟩
  · simp only [if_neg h] at c1 ⊢
    have C := Lib.hid c1; clear c1
    go_enter Tryz.func31, Tryz.ntmps31
    go_wp2_with (go_at_call 100; refine (C.out _).mono ?_; rintro e w' ⟨rfl, rfl⟩)
    go_ret
    exact ⟨rfl, (Below.refl _ _).alloc (Nat.le_refl _) _⟩

set_option maxHeartbeats 400000 in
theorem eqIntS_yes (A B : Option Addr) (l : List Int) (c d : Nat) (w : World) (ha : Rd w A l) (hb : Rd w B l) (hl : l.length ≤ 1099511627776) :
    Calls Tryz.prog 104 #[.slice A l.length c, .slice B l.length d] w fun e w' => e = .returned (.bool true) ∧ Grows w w' := by
  go_enter Tryz.func104, Tryz.ntmps104
  go_wp2
  go_loopw [5] (fun i wr => ∃ (k : Nat), i = .int .i64 k ∧ k ≤ l.length ∧ ∃ n, wr = w.drewN n) (fun i _ => l.length - (intOf i).toNat)
  case atStart => exact ⟨0, rfl, Nat.zero_le _, 0, rfl⟩
  case round =>
    obtain ⟨k, rfl, hk, n, rfl⟩ := hrel
    by_cases hlt : k < l.length
    · obtain ⟨b, off, rfl, hbs, hcell⟩ := ha.at_ k hlt
      obtain ⟨b2, off2, rfl, hbs2, hcell2⟩ := hb.at_ k hlt
      have hk' : (k : Int) < (l.length : Int) := by omega
      go_wp2_with fail
      go_quiet (fail)
      go_wp2
      go_round
      case rel => exact ⟨k + 1, by go_num, by omega, _, rfl⟩
      case measure => simp [intOf]; omega
    · go_wp2
      go_ret
      exact ⟨rfl, ⟨rfl, rfl, rfl, Nat.le_refl _, fun _ _ => rfl⟩⟩
end Go.Proofs.YtfilbjbogggaoaaGreat

/- Contracts: the laws' own helpers over matrices, and marks. -/
namespace Go.Proofs.YtfilbjbogggaoaaGreat
set_option linter.unusedSimpArgs false
set_option linter.unusedVariables false
open Go.RowKit

set_option maxHeartbeats 400000 in
theorem eqMatrix_yes (r cl : Int) (A B : Option Addr) (l : List Int) (c d : Nat) (w : World) (ha : Rd w A l) (hb : Rd w B l) (hl : l.length ≤ 1099511627776) :
    Calls Tryz.prog 35 #[.agg #[.int .i64 r, .int .i64 cl, .slice A l.length c], .agg #[.int .i64 r, .int .i64 cl, .slice B l.length d]] w fun e w' => e = .returned (.bool true) ∧ Grows w w' := by
  go_enter Tryz.func35, Tryz.ntmps35
  go_wp2_with (go_at_call 104; refine (eqIntS_yes A B l c d _ ((ha.alloc _).alloc _) ((hb.alloc _).alloc _) hl).mono ?_; rintro e w1 ⟨rfl, hg1⟩)
  go_ret
  exact ⟨rfl, Grows.trans (((Below.refl _ _).alloc (Nat.le_refl _) _).alloc (by simp) _) hg1⟩


/-- k, k+1, .., n numbers. -/
def run (k : Int) (n : Nat) : List Int := (List.range n).map fun (i : Nat) => k + (i : Int)
theorem run_length (k : Int) (n : Nat) : (run k n).length = n := by simp [run]
theorem run_nth (k : Int) (n i : Nat) (h : i < n) : nth (run k n) i = k + i := by
  rw [nth_get _ _ (by rw [run_length]; exact h)]; simp [run]

theorem mark_step (k : Int) (n j : Nat) (m : List Int) (hj : j < n) (hm : m.length = n) (h1 : ∀ i, i < j → nth m i = k + i) : ∀ i, i < j + 1 → nth (m.set j (k + j)) i = k + i := by
  intro i hi
  rw [nth_set _ _ _ _ (by omega)]
  by_cases e : i = j
  · rw [if_pos e, e]
  · rw [if_neg e]; exact h1 i (by omega)

set_option maxHeartbeats 400000 in
theorem markIntS_c (B : Nat) (A : Option Addr) (l : List Int) (c : Nat) (k : Int) (w : World) (ho : Own w B (.slice A l.length c) l) (hl : l.length ≤ 1099511627776) (h0 : 0 ≤ k) (hk : k ≤ 1099511627776) :
    Calls Tryz.prog 105 #[.slice A l.length c, .int .i64 k] w fun e w' => e = .returned (.int .i64 (k + l.length)) ∧ Own w' B (.slice A l.length c) (run k l.length) ∧ w.grownBy w' (Value.slice A l.length c).ownBlock := by
  go_enter Tryz.func105, Tryz.ntmps105
  go_wp2
  go_loopw [1, 5] (fun q i wr => ∃ (j : Nat) (m : List Int), i = .int .i64 j ∧ q = .int .i64 (k + j) ∧ j ≤ l.length ∧ m.length = l.length ∧ (∀ i, i < j → nth m i = k + i) ∧ Own wr B (.slice A l.length c) m ∧ w.grownBy wr (Value.slice A l.length c).ownBlock) (fun _ i _ => l.length - (intOf i).toNat)
  case atStart => exact ⟨0, l, rfl, by simp, Nat.zero_le _, rfl, by omega, ho, World.grownBy.refl _ _⟩
  case round =>
    obtain ⟨j, m, rfl, rfl, hj, hm, he, hor, hgr⟩ := hrel
    by_cases hlt : j < l.length
    · have hor2 := hor
      rw [← hm] at hor2
      obtain ⟨g, cap, hv, hBg, hgs⟩ := hor2.form (by omega)
      simp only [Value.slice.injEq] at hv
      obtain ⟨rfl, _, rfl⟩ := hv
      have hc2 := hor.cell j (by omega)
      have hf2 := hor.free j
      have HE := Lib.hid he
      have HM := Lib.hid hm
      have HO := Lib.hid hor2
      clear he hm hor2
      go_wp2
      go_round
      case rel => exact ⟨j + 1, m.set j (k + j), by go_num, by go_num, by omega, by rw [List.length_set, HM.out], mark_step k l.length j m hlt HM.out HE.out, by have := HO.out.set j (k + j); rw [HM.out] at this; exact this, only_setCell (p := ⟨g, j, none⟩) hgr rfl _⟩
      case measure => simp [intOf]; omega
    · go_wp2
      go_ret
      obtain rfl : j = l.length := by omega
      obtain rfl : m = run k l.length := nth_ext (by rw [hm, run_length]) (fun i hi => by rw [he i (by omega), run_nth _ _ _ (by omega)])
      exact ⟨rfl, hor, hgr⟩


set_option maxHeartbeats 400000 in
theorem heldIntS_c (A : Option Addr) (n c : Nat) (k : Int) (w : World) (ha : Rd w A (run k n)) (hl : n ≤ 1099511627776) (h0 : 0 ≤ k) (hk : k ≤ 1099511627776) :
    Calls Tryz.prog 106 #[.slice A n c, .int .i64 k] w fun e w' => e = .returned (.int .i64 (k + n)) ∧ Grows w w' := by
  go_enter Tryz.func106, Tryz.ntmps106
  go_wp2
  go_loop [1, 5] (fun q i => ∃ (j : Nat), i = .int .i64 j ∧ q = .int .i64 (k + j) ∧ j ≤ n) (fun _ i => n - (intOf i).toNat)
  case atStart => exact ⟨0, rfl, by simp, Nat.zero_le _⟩
  case round =>
    obtain ⟨j, rfl, rfl, hj⟩ := hrel
    by_cases hlt : j < n
    · obtain ⟨b, off, rfl, hbs, hcell⟩ := ha.at_ j (by rw [run_length]; exact hlt)
      rw [run_nth _ _ _ hlt] at hcell
      go_wp2
      go_round
      case rel => exact ⟨j + 1, by go_num, by go_num, by omega⟩
      case measure => simp [intOf]; omega
    · go_wp2
      go_ret
      obtain rfl : j = n := by omega
      exact ⟨rfl, Grows.refl _⟩


set_option maxHeartbeats 400000 in
theorem markMatrix_c (B : Nat) (r cl : Int) (A : Option Addr) (l : List Int) (c : Nat) (k : Int) (w : World) (ho : Own w B (.slice A l.length c) l) (hl : l.length ≤ 1099511627776) (h0 : 0 ≤ k) (hk : k ≤ 1099511627776) :
    Calls Tryz.prog 36 #[.agg #[.int .i64 r, .int .i64 cl, .slice A l.length c], .int .i64 k] w fun e w' => e = .returned (.int .i64 (k + l.length)) ∧ Own w' B (.slice A l.length c) (run k l.length) ∧ w.grownBy w' (Value.slice A l.length c).ownBlock := by
  go_enter Tryz.func36, Tryz.ntmps36
  go_wp2_with (go_at_call 105; refine (markIntS_c B A l c k _ (ho.alloc _) hl h0 hk).mono ?_; rintro e w1 ⟨rfl, ho1, hg1⟩)
  go_ret
  exact ⟨rfl, ho1, only_alloc_left hg1⟩




set_option maxHeartbeats 400000 in
theorem toMatrix_c (r cl : Int) (A : Option Addr) (l : List Int) (c : Nat) (w : World) (hr : Rd w A l) (hl : l.length ≤ 1048576) :
    Calls Tryz.prog 33 #[.agg #[.int .i64 r, .int .i64 cl, .slice A l.length c]] w fun e w' => ∃ g, e = .returned (.agg #[.int .i64 r, .int .i64 cl, .slice (some ⟨g, 0, none⟩) l.length l.length]) ∧ Own w' w.heap.size (.slice (some ⟨g, 0, none⟩) l.length l.length) l ∧ Grows w w' := by
  go_enter Tryz.func33, Tryz.ntmps33
  go_wp2_with (go_at_call 103; refine (toIntS_c A l c _ (by exact (Rd.grows hr (by exact bel0))) hl).mono ?_; rintro e w1 ⟨g, rfl, ho1, hg1⟩; obtain ⟨hc, hf⟩ := bcell hg1)
  refine bodyPost_ret (v := .agg #[.int .i64 r, .int .i64 cl, .slice (some ⟨g, 0, none⟩) l.length l.length]) ?_ rfl ?_
  · simp [results, Tryz.results33, go_sem, hc]
  · exact ⟨g, rfl, by exact ownl ho1, by exact bel1 hg1⟩


theorem szMatrix_yes (r cl : Int) (A : Option Addr) (n c : Nat) (left : Int) (w : World) (hn : n ≤ 9223372036854775807) (h1 : 0 ≤ left) (h2 : left ≤ 1048576) (h : (n : Int) ≤ left) :
    Calls Tryz.prog 31 #[.agg #[.int .i64 r, .int .i64 cl, .slice A n c], .int .i64 left] w fun e w' => e = .returned (.int .i64 (left - n)) ∧ Grows w w' :=
  (szMatrix_c r cl A n c left w hn h1 h2).mono fun e w' ⟨he, hg⟩ => ⟨by rw [he, if_neg (by omega)], hg⟩
theorem szMatrix_no (r cl : Int) (A : Option Addr) (n c : Nat) (left : Int) (w : World) (hn : n ≤ 9223372036854775807) (h1 : 0 ≤ left) (h2 : left ≤ 1048576) (h : left < (n : Int)) :
    Calls Tryz.prog 31 #[.agg #[.int .i64 r, .int .i64 cl, .slice A n c], .int .i64 left] w fun e w' => e = .returned (.int .i64 (-1)) ∧ Grows w w' :=
  (szMatrix_c r cl A n c left w hn h1 h2).mono fun e w' ⟨he, hg⟩ => ⟨by rw [he, if_pos h], hg⟩
end Go.Proofs.YtfilbjbogggaoaaGreat

/- For the walks of the exact laws: what is read, with a bound on its blocks; marks. -/
namespace Go.Proofs.YtfilbjbogggaoaaGreat
set_option linter.unusedSimpArgs false
set_option linter.unusedVariables false
open Go.RowKit

theorem Own.rd {w : World} {B n c : Nat} {A : Option Addr} {l : List Int} (h : Own w B (.slice A n c) l) : Rd w A l := by
  obtain ⟨A', c', e, hr, _⟩ := h.val
  injection e with e1 _ _
  rw [e1]; exact hr
theorem two_boxes {w W : World} {b b' : Nat} {r c r' c' : Int} {v v' : Value} (h : MBox w b r c v) (h' : MBox w b' r' c' v') (g : Grows w W) :
    W.cell? ⟨b, 0, none⟩ = some (.int .i64 r) ∧ W.cell? ⟨b, 1, none⟩ = some (.int .i64 c) ∧ W.cell? ⟨b, 2, none⟩ = some v ∧
    W.cell? ⟨b', 0, none⟩ = some (.int .i64 r') ∧ W.cell? ⟨b', 1, none⟩ = some (.int .i64 c') ∧ W.cell? ⟨b', 2, none⟩ = some v' :=
  ⟨(h.grows g).c0, (h.grows g).c1, (h.grows g).c2, (h'.grows g).c0, (h'.grows g).c1, (h'.grows g).c2⟩

/-- l is read at A, from blocks below H. -/
def RdB (w : World) (H : Nat) (A : Option Addr) (l : List Int) : Prop := Rd w A l ∧ ∀ a, A = some a → 0 < l.length → a.block < H
/-- The slice value owns its row, in a block from B on and below H. -/
def OwnB (w : World) (B H : Nat) (v : Value) (l : List Int) : Prop := Own w B v l ∧ ∀ k, v.ownBlock = some k → k < H

section
variable {w w' : World} {B B0 H H0 : Nat} {A : Option Addr} {l l0 : List Int} {v v0 : Value}
theorem RdB.of (h : Rd w A l) : RdB w w.heap.size A l := ⟨h, fun a e hl => by
  obtain ⟨b, off, e', hb, _⟩ := h 0 hl
  rw [e] at e'
  injection e' with e'
  rw [e']; exact hb⟩
theorem OwnB.of (h : Own w B v l) : OwnB w B w.heap.size v l := ⟨h, fun k hk => (World.ownsRow.lt h k hk).2⟩
theorem RdB.rd (h : RdB w H A l) : Rd w A l := h.1
theorem OwnB.own (h : OwnB w B H v l) : Own w B v l := h.1
theorem OwnB.rd {n c : Nat} (h : OwnB w B H (.slice A n c) l) : Rd w A l := by
  obtain ⟨A', c', e, hr, _⟩ := h.1.val
  injection e with e1 _ _
  rw [e1]; exact hr
theorem RdB.grows (h : RdB w H A l) (g : Grows w w') : RdB w' H A l := ⟨h.1.grows g, h.2⟩
theorem OwnB.grows (h : OwnB w B H v l) (g : Grows w w') : OwnB w' B H v l := ⟨h.1.grows g, h.2⟩
theorem OwnB.base (h : OwnB w B H v l) (hB : B0 ≤ B) : OwnB w B0 H v l := ⟨h.1.less hB, h.2⟩
/-- A mark on a row from B0 to H0 leaves what lies below B0 .. -/
theorem RdB.mark (h : RdB w H A l) (o : OwnB w B0 H0 v0 l0) (g : w.grownBy w' v0.ownBlock) (hle : H ≤ B0) : RdB w' H A l := ⟨fun i hi => by
  obtain ⟨b, off, e, hb, hc⟩ := h.1 i hi
  have hH := h.2 _ e (by omega)
  refine ⟨b, off, e, Nat.lt_of_lt_of_le hb g.size, (World.cell?_of_block (g.block b hb (fun e' => ?_))).trans hc⟩
  have := (World.ownsRow.lt o.1 b e'.symm).1
  simp at hH
  omega, h.2⟩
theorem OwnB.mark_lo (h : OwnB w B H v l) (o : OwnB w B0 H0 v0 l0) (g : w.grownBy w' v0.ownBlock) (hle : H ≤ B0) : OwnB w' B H v l :=
  ⟨World.ownsRow.kept h.1 g (by
    rcases hv : v.ownBlock with _ | k
    · exact .inl rfl
    · refine .inr (fun e => ?_)
      have h1 := h.2 k hv
      have h2 := (World.ownsRow.lt o.1 k e.symm).1
      omega), h.2⟩
/-- .. and what lies from H0 on. -/
theorem OwnB.mark_hi (h : OwnB w B H v l) (o : OwnB w B0 H0 v0 l0) (g : w.grownBy w' v0.ownBlock) (hle : H0 ≤ B) : OwnB w' B H v l :=
  ⟨World.ownsRow.kept h.1 g (by
    rcases hv : v.ownBlock with _ | k
    · exact .inl rfl
    · refine .inr (fun e => ?_)
      have h1 := (World.ownsRow.lt h.1 k hv).1
      have h2 := o.2 k e.symm
      omega), h.2⟩
theorem MBox.mark {b : Nat} {r c : Int} (h : MBox w b r c v) (o : OwnB w B0 H0 v0 l0) (g : w.grownBy w' v0.ownBlock) (hle : b < B0 ∨ H0 ≤ b) : MBox w' b r c v := by
  have hne : some b ≠ v0.ownBlock := fun e => by
    have h1 := (World.ownsRow.lt o.1 b e.symm).1
    have h2 := o.2 b e.symm
    omega
  have hk := g.block b h.lt hne
  exact ⟨Nat.lt_of_lt_of_le h.lt g.size, (World.cell?_of_block hk).trans h.c0, (World.cell?_of_block hk).trans h.c1, (World.cell?_of_block hk).trans h.c2, fun o => (World.frozen?_of_block hk).trans (h.fz o)⟩
theorem below_mark {W : World} (hb : Below W.heap.size W w) (o : OwnB w B0 H0 v0 l0) (g : w.grownBy w' v0.ownBlock) (hle : W.heap.size ≤ B0) (hs : W.heap.size ≤ w.heap.size) : Below W.heap.size W w' :=
  hb.grown g hs fun k hk => Nat.le_trans hle (World.ownsRow.lt o.1 k hk).1
end
end Go.Proofs.YtfilbjbogggaoaaGreat

/- For the walks of the exact laws: slices of slices of integers. -/
namespace Go.Proofs.YtfilbjbogggaoaaGreat
set_option linter.unusedSimpArgs false
set_option linter.unusedVariables false
open Go.RowKit

/-- the lengths of the first i rows together -/
def offs (L : List (List Int)) : Nat → Int
  | 0 => 0
  | i + 1 => offs L i + ((L.getD i []).length : Int)
theorem getD_mem {L : List (List Int)} {i : Nat} (hi : i < L.length) : L.getD i [] ∈ L := by
  simp [List.getD, hi]
theorem offs_le {L : List (List Int)} (hx : ∀ x ∈ L, x.length ≤ 1024) {i : Nat} (hi : i ≤ L.length) : 0 ≤ offs L i ∧ offs L i ≤ 1024 * (i : Int) := by
  induction i with
  | zero => exact ⟨Int.le_refl _, Int.le_refl _⟩
  | succ i ih =>
    have := ih (by omega)
    have h1 := hx _ (getD_mem (L := L) (i := i) (by omega))
    rw [offs]
    omega
/-- the first j rows marked -/
def mkR (k : Int) (L : List (List Int)) : Nat → List (List Int)
  | 0 => L
  | j + 1 => (mkR k L j).set j (run (k + offs L j) (L.getD j []).length)
def runR (k : Int) (L : List (List Int)) : List (List Int) := mkR k L L.length
theorem mkR_length (k : Int) (L : List (List Int)) (j : Nat) : (mkR k L j).length = L.length := by
  induction j with
  | zero => rfl
  | succ j ih => rw [mkR, List.length_set, ih]
theorem runR_length (k : Int) (L : List (List Int)) : (runR k L).length = L.length := mkR_length _ _ _
theorem mkR_hi {k : Int} {L : List (List Int)} {i j : Nat} (h : j ≤ i) : (mkR k L j)[i]? = L[i]? := by
  induction j with
  | zero => rfl
  | succ j ih => rw [mkR, List.getElem?_set_ne (by omega), ih (by omega)]
theorem mkR_lo {k : Int} {L : List (List Int)} {i j : Nat} (h : i < j) (hj : j ≤ L.length) : (mkR k L j)[i]? = some (run (k + offs L i) (L.getD i []).length) := by
  induction j with
  | zero => omega
  | succ j ih =>
    rw [mkR]
    by_cases e : i = j
    · subst e
      rw [List.getElem?_set_self (by rw [mkR_length]; omega)]
    · rw [List.getElem?_set_ne (by omega), ih (by omega) (by omega)]
theorem runR_at {k : Int} {L : List (List Int)} {i : Nat} (h : i < L.length) : (runR k L)[i]? = some (run (k + offs L i) (L.getD i []).length) := mkR_lo h (Nat.le_refl _)

/-- a mark on one row -/
theorem RowsO.mark {w w' : World} {B : Nat} {v : Value} {vs : List Value} {L : List (List Int)} {j : Nat} {u : Value} {z : List Int} (h : RowsO w B v vs L) (hj : vs[j]? = some u) (hz : Own w' B u z) (hg : w.grownBy w' u.ownBlock) : RowsO w' B v vs (L.set j z) := by
  have hlt : j < L.length := by rw [← h.len]; exact (List.getElem?_eq_some_iff.1 hj).1
  refine ⟨by rw [List.length_set]; exact h.len, World.ownsRow.kept h.own hg ?_, fun i a x h1 h2 => ?_, h.far, h.nod⟩
  · cases e : v.ownBlock with
    | none => exact .inl rfl
    | some g => exact .inr fun e2 => h.far j u hj g e2.symm e
  · by_cases e : i = j
    · subst e
      rw [List.getElem?_set_self hlt] at h2
      rw [hj] at h1
      cases h1; cases h2
      exact hz
    · rw [List.getElem?_set_ne (fun h => e h.symm)] at h2
      refine World.ownsRow.kept (h.row i a x h1 h2) hg ?_
      cases e2 : a.ownBlock with
      | none => exact .inl rfl
      | some g => exact .inr fun e3 => h.nod i j a u h1 hj e g e2 e3.symm
theorem RowsO.mark_hi {w w' : World} {B B0 H0 : Nat} {v v0 : Value} {vs : List Value} {L : List (List Int)} {l0 : List Int} (h : RowsO w B v vs L) (o : OwnB w B0 H0 v0 l0) (g : w.grownBy w' v0.ownBlock) (hle : H0 ≤ B) : RowsO w' B v vs L := by
  refine h.other g (fun k hk e => ?_) (fun k hk i u hi e => ?_)
  · have h1 := (h.own.lt e).1
    have h2 := o.2 k hk
    omega
  · have h1 := (h.lt hi e).1
    have h2 := o.2 k hk
    omega
/-- rows that are read, from blocks below H -/
def RdRB (w : World) (H : Nat) (A : Option Addr) (L : List (List Int)) : Prop := ∃ w0, RdR RSI w0 A L ∧ w0.heap.size ≤ H ∧ Below w0.heap.size w0 w
section
variable {w w' : World} {B B0 H H0 : Nat} {A : Option Addr} {l l0 : List Int} {L : List (List Int)} {v v0 : Value}
theorem RdRB.of (h : RdR RSI w A L) : RdRB w w.heap.size A L := ⟨w, h, Nat.le_refl _, Below.refl _ _⟩
theorem RdRB.rd (h : RdRB w H A L) : RdR RSI w A L := by obtain ⟨w0, h1, _, h3⟩ := h; exact h1.grows RSI.good h3
theorem RdRB.grows (h : RdRB w H A L) (g : Grows w w') : RdRB w' H A L := by
  obtain ⟨w0, h1, h2, h3⟩ := h
  exact ⟨w0, h1, h2, Below.trans h3 (Below.mono g h3.size)⟩
theorem RdRB.mark (h : RdRB w H A L) (o : OwnB w B0 H0 v0 l0) (g : w.grownBy w' v0.ownBlock) (hle : H ≤ B0) : RdRB w' H A L := by
  obtain ⟨w0, h1, h2, h3⟩ := h
  exact ⟨w0, h1, h2, h3.grown g h3.size fun k hk => Nat.le_trans h2 (Nat.le_trans hle (World.ownsRow.lt o.1 k hk).1)⟩
/-- what lies below B keeps when all from B on may change -/
theorem RdRB.under (h : RdRB w H A L) (g : Below B w w') (hle : H ≤ B) : RdRB w' H A L := by
  obtain ⟨w0, h1, h2, h3⟩ := h
  exact ⟨w0, h1, h2, Below.trans h3 (Below.mono g (Nat.le_trans h2 hle))⟩
theorem RdB.under (h : RdB w H A l) (g : Below B w w') (hle : H ≤ B) : RdB w' H A l := ⟨fun i hi => by
  obtain ⟨b, off, e, hb, hc⟩ := h.1 i hi
  have hH := h.2 _ e (by omega)
  simp at hH
  exact ⟨b, off, e, Nat.lt_of_lt_of_le hb g.size, (g.cell (p := ⟨b, off + i, none⟩) (show b < B by omega)).trans hc⟩, h.2⟩
theorem OwnB.under (h : OwnB w B0 H v l) (g : Below B w w') (hle : H ≤ B) : OwnB w' B0 H v l := by
  refine ⟨⟨h.1.1, ?_⟩, h.2⟩
  rcases h.1.2 with hn | ⟨q, cap, cur, rfl, hb, hgg, rest⟩
  · exact .inl hn
  · have h2 : q < H := h.2 q rfl
    exact .inr ⟨q, cap, cur, rfl, hb, by rw [g.block q (by omega)]; exact hgg, rest⟩
end

section
set_option maxHeartbeats 1000000
theorem eqIntSS_yes (A B : Option Addr) (L : List (List Int)) (n c d : Nat) (w : World) (hn : L.length = n) (ha : RdR RSI w A L) (hb : RdR RSI w B L) (hl : n ≤ 1048576) (hx : ∀ x ∈ L, x.length ≤ 1024) :
    Calls Tryz.prog 34 #[.slice A n c, .slice B n d] w fun e w' => e = .returned (.bool true) ∧ Grows w w' := by
  go_enter Tryz.func34, Tryz.ntmps34
  go_wp2_with fail
  go_loopw [5] (fun i wr => ∃ (j : Nat), i = .int .i64 j ∧ j ≤ n ∧ Grows w wr) (fun i _ => n - (intOf i).toNat)
  case atStart => exact ⟨0, rfl, Nat.zero_le _, Grows.refl _⟩
  case round =>
    obtain ⟨j, rfl, hj, hg⟩ := hrel
    by_cases hlt : j < n
    · obtain ⟨b, off, u, rfl, hbs, hc1, A1, c1, rfl, hr1, _⟩ := (ha.grows RSI.good hg).at_ j (by omega)
      obtain ⟨b', off', u', rfl, hbs', hc2, A2, c2, rfl, hr2, _⟩ := (hb.grows RSI.good hg).at_ j (by omega)
      have x1 := ext_is hc1; have x2 := ext_is hc2
      have i1 : (j : Int) < (n : Int) := by omega
      have hzl : (L[j]'(by omega)).length ≤ 1024 := hx _ (List.getElem_mem _)
      generalize (L[j]'(by omega)) = z at *
      have CE := Lib.hid fun W h h' => eqIntS_yes A1 A2 z c1 c2 W h h' (by omega)
      clear hn ha hb hx
      go_wp2_with fail
      ((refine wp_region_ext (by kernel_rfl) (by kernel_rfl) ?_); (repeat (go_big_quiet_step ((go_at_call 104; with_reducible exact extC (CE.out _ (Rd.ext hr1 _) (Rd.ext hr2 _)))))); refine wpQuiet_nil ?_; rintro w3 ⟨w30, hw30⟩; have g3 := grows_of_ext hw30; clear hw30 w30)
      go_wp2_with fail
      go_round
      case rel => exact ⟨j + 1, by go_num, by omega, by exact bel2 g3 hg⟩
      case measure => simp [intOf]; omega
    · obtain rfl : j = n := by omega
      go_wp2_with fail
      go_ret
      exact ⟨rfl, hg⟩
theorem markIntSS_c (B : Nat) (A : Option Addr) (L : List (List Int)) (vs : List Value) (n c : Nat) (k : Int) (w : World) (hn : L.length = n) (ho : RowsO w B (.slice A n c) vs L) (hl : n ≤ 1048576) (hx : ∀ x ∈ L, x.length ≤ 1024) (h0 : 0 ≤ k) (hk : k ≤ 1048576) (hB : B ≤ w.heap.size) :
    Calls Tryz.prog 37 #[.slice A n c, .int .i64 k] w fun e w' => e = .returned (.int .i64 (k + offs L n)) ∧ RowsO w' B (.slice A n c) vs (runR k L) ∧ Below B w w' := by
  have HO := Lib.hid fun i (hi : i ≤ n) => offs_le hx (i := i) (by omega)
  have HX := Lib.hid hx
  have HN := Lib.hid hn
  clear hx hn
  go_enter Tryz.func37, Tryz.ntmps37
  go_wp2_with fail
  go_loopw [1, 5] (fun q i wr => ∃ (j : Nat), i = .int .i64 j ∧ q = .int .i64 (k + offs L j) ∧ j ≤ n ∧ RowsO wr B (.slice A n c) vs (mkR k L j) ∧ Below B w wr) (fun _ i _ => n - (intOf i).toNat)
  case atStart => exact ⟨0, rfl, by simp [offs], Nat.zero_le _, ho, Below.refl _ _⟩
  case round =>
    obtain ⟨j, rfl, rfl, hj, hor, hbl⟩ := hrel
    have hjo := HO.out j hj
    by_cases hlt : j < n
    · have hvl : j < vs.length := by rw [hor.len, mkR_length, HN.out]; exact hlt
      have hu : vs[j]? = some vs[j] := List.getElem?_eq_getElem hvl
      have hLj : L[j]? = some (L.getD j []) := by simp [List.getD, HN.out, hlt]
      have how := hor.row j _ (L.getD j []) hu (by rw [mkR_hi (Nat.le_refl _)]; exact hLj)
      obtain ⟨A', c', e, hr, hcap⟩ := how.val
      obtain ⟨b, off, rfl, hbs, hcell⟩ := hor.own.rd j _ hu
      rw [e] at how hu hcell
      have hzl : (L.getD j []).length ≤ 1024 := HX.out _ (getD_mem (by rw [HN.out]; exact hlt))
      have i1 : (j : Int) < (n : Int) := by omega
      have HNX := Lib.hid (show mkR k L (j + 1) = (mkR k L j).set j (run (k + offs L j) (L.getD j []).length) from rfl)
      have HOX := Lib.hid (show offs L (j + 1) = offs L j + ((L.getD j []).length : Int) from rfl)
      have hsz := hbl.size
      generalize L.getD j [] = z at *
      have CM := Lib.hid fun W h => markIntS_c B A' z c' (k + offs L j) W h (by omega) (by omega) (by omega)
      have HU := Lib.hid hu
      have HOR := Lib.hid hor
      generalize offs L j = f at *
      clear hLj hvl e hu hor
      go_wp2_with fail
      refine (CM.out _ how).mono ?_; rintro e w3 ⟨rfl, o3, g3⟩
      have hb3 : Below B wr w3 := below_app how (by omega) g3
      have hor3 := HOR.out.mark HU.out o3 g3
      go_wp2_with fail
      go_round
      case rel => exact ⟨j + 1, by go_num, by rw [HOX.out, Int.add_assoc], by omega, by rw [HNX.out]; exact hor3, Below.trans hbl hb3⟩
      case measure => simp [intOf]; omega
    · obtain rfl : j = n := by omega
      go_wp2_with fail
      go_ret
      have e : runR k L = mkR k L j := by unfold runR; rw [HN.out]
      exact ⟨rfl, by rw [e]; exact hor, hbl⟩
theorem heldIntSS_c (A : Option Addr) (L : List (List Int)) (n c : Nat) (k : Int) (w : World) (hn : L.length = n) (ha : RdR RSI w A (runR k L)) (hl : n ≤ 1048576) (hx : ∀ x ∈ L, x.length ≤ 1024) (h0 : 0 ≤ k) (hk : k ≤ 1048576) :
    Calls Tryz.prog 38 #[.slice A n c, .int .i64 k] w fun e w' => e = .returned (.int .i64 (k + offs L n)) ∧ Grows w w' := by
  have HO := Lib.hid fun i (hi : i ≤ n) => offs_le hx (i := i) (by omega)
  have HX := Lib.hid hx
  have HN := Lib.hid hn
  clear hx hn
  go_enter Tryz.func38, Tryz.ntmps38
  go_wp2_with fail
  go_loopw [1, 5] (fun q i wr => ∃ (j : Nat), i = .int .i64 j ∧ q = .int .i64 (k + offs L j) ∧ j ≤ n ∧ Grows w wr) (fun _ i _ => n - (intOf i).toNat)
  case atStart => exact ⟨0, rfl, by simp [offs], Nat.zero_le _, Below.refl _ _⟩
  case round =>
    obtain ⟨j, rfl, rfl, hj, hg⟩ := hrel
    have hjo := HO.out j hj
    by_cases hlt : j < n
    · have hat := runR_at (k := k) (L := L) (i := j) (by rw [HN.out]; exact hlt)
      obtain ⟨vs, hvl, hrv, hRv⟩ := ha.grows RSI.good hg
      have hj2 : j < vs.length := by rw [hvl, runR_length, HN.out]; exact hlt
      have hu : vs[j]? = some vs[j] := List.getElem?_eq_getElem hj2
      obtain ⟨A1, c1, e1, hr1, _⟩ := hRv j _ _ hu hat
      obtain ⟨b, off, rfl, hbs, hcell⟩ := hrv j _ hu
      rw [run_length] at e1
      rw [e1] at hcell
      have hzl : (L.getD j []).length ≤ 1024 := HX.out _ (getD_mem (by rw [HN.out]; exact hlt))
      have i1 : (j : Int) < (n : Int) := by omega
      have HOX := Lib.hid (show offs L (j + 1) = offs L j + ((L.getD j []).length : Int) from rfl)
      generalize L.getD j [] = z at *
      have CM := Lib.hid fun W h => heldIntS_c A1 z.length c1 (k + offs L j) W h (by omega) (by omega) (by omega)
      have hnn : 0 ≤ k + offs L j + (z.length : Int) := by omega
      generalize offs L j = f at *
      clear hat hvl hrv hRv hj2 hu e1
      go_wp2_with fail
      refine (CM.out _ hr1).mono ?_; rintro e w3 ⟨rfl, g3⟩
      go_wp2_with fail
      go_round
      case rel => exact ⟨j + 1, by go_num, by rw [HOX.out, Int.add_assoc], by omega, by exact bel2 g3 hg⟩
      case measure => simp [intOf]; omega
    · obtain rfl : j = n := by omega
      go_wp2_with fail
      go_ret
      exact ⟨rfl, hg⟩
end
end Go.Proofs.YtfilbjbogggaoaaGreat
