/- Contracts and lemmas, put together. -/
import Derived.Test.YtpfijhcjempfjaaPkD
import Derived.Test.YtpfijhcjempfjaaPkA
/- For the walks of the exact laws: fractions. -/
namespace Go.Proofs.Ytpfijhcjempfjaa
set_option linter.unusedSimpArgs false
set_option linter.unusedVariables false
open Go.RowKit

/-- The slice value owns its row of fractions, in a block from B on and below H. -/
def OwnQB (w : World) (B H : Nat) (v : Value) (l : List Q2) : Prop := OwnQ w B v l ∧ ∀ k, v.ownBlock = some k → k < H

section
variable {w w' : World} {B B0 H H0 : Nat} {A : Option Addr} {l : List Int} {q q0 : List Q2} {l0 : List Int} {v v0 : Value}
theorem OwnQB.of (h : OwnQ w B v q) : OwnQB w B w.heap.size v q := ⟨h, fun k hk => (World.ownsRow.lt h k hk).2⟩
theorem OwnQB.own (h : OwnQB w B H v q) : OwnQ w B v q := h.1
theorem OwnQB.rd {n c : Nat} (h : OwnQB w B H (.slice A n c) q) : RdQ w A q := OwnQ.rd h.1
theorem OwnQB.grows (h : OwnQB w B H v q) (g : Grows w w') : OwnQB w' B H v q := ⟨h.1.grows g, h.2⟩
theorem OwnQB.mark_lo (h : OwnQB w B H v q) (o : OwnB w B0 H0 v0 l0) (g : w.grownBy w' v0.ownBlock) (hle : H ≤ B0) : OwnQB w' B H v q :=
  ⟨ownsRow_other h.1 g (fun k hk hk2 => by
    have h1 := h.2 k hk2
    have h2 := (World.ownsRow.lt o.1 k hk).1
    omega), h.2⟩
theorem OwnQB.mark_hi (h : OwnQB w B H v q) (o : OwnB w B0 H0 v0 l0) (g : w.grownBy w' v0.ownBlock) (hle : H0 ≤ B) : OwnQB w' B H v q :=
  ⟨ownsRow_other h.1 g (fun k hk hk2 => by
    have h1 := (World.ownsRow.lt h.1 k hk2).1
    have h2 := o.2 k hk
    omega), h.2⟩
theorem OwnQB.mark_loQ (h : OwnQB w B H v q) (o : OwnQB w B0 H0 v0 q0) (g : w.grownBy w' v0.ownBlock) (hle : H ≤ B0) : OwnQB w' B H v q :=
  ⟨ownsRow_other h.1 g (fun k hk hk2 => by
    have h1 := h.2 k hk2
    have h2 := (World.ownsRow.lt o.1 k hk).1
    omega), h.2⟩
theorem OwnQB.mark_hiQ (h : OwnQB w B H v q) (o : OwnQB w B0 H0 v0 q0) (g : w.grownBy w' v0.ownBlock) (hle : H0 ≤ B) : OwnQB w' B H v q :=
  ⟨ownsRow_other h.1 g (fun k hk hk2 => by
    have h1 := (World.ownsRow.lt h.1 k hk2).1
    have h2 := o.2 k hk
    omega), h.2⟩
theorem OwnB.mark_loQ (h : OwnB w B H v l) (o : OwnQB w B0 H0 v0 q0) (g : w.grownBy w' v0.ownBlock) (hle : H ≤ B0) : OwnB w' B H v l :=
  ⟨ownsRow_other h.1 g (fun k hk hk2 => by
    have h1 := h.2 k hk2
    have h2 := (World.ownsRow.lt o.1 k hk).1
    omega), h.2⟩
theorem OwnB.mark_hiQ (h : OwnB w B H v l) (o : OwnQB w B0 H0 v0 q0) (g : w.grownBy w' v0.ownBlock) (hle : H0 ≤ B) : OwnB w' B H v l :=
  ⟨ownsRow_other h.1 g (fun k hk hk2 => by
    have h1 := (World.ownsRow.lt h.1 k hk2).1
    have h2 := o.2 k hk
    omega), h.2⟩
theorem RdB.markQ (h : RdB w H A l) (o : OwnQB w B0 H0 v0 q0) (g : w.grownBy w' v0.ownBlock) (hle : H ≤ B0) : RdB w' H A l := ⟨fun i hi => by
  obtain ⟨b, off, e, hb, hc⟩ := h.1 i hi
  have hH := h.2 _ e (by omega)
  refine ⟨b, off, e, Nat.lt_of_lt_of_le hb g.size, (World.cell?_of_block (g.block b hb (fun e' => ?_))).trans hc⟩
  have := (World.ownsRow.lt o.1 b e'.symm).1
  simp at hH
  omega, h.2⟩
theorem MBox.markQ {b : Nat} {r c : Int} (h : MBox w b r c v) (o : OwnQB w B0 H0 v0 q0) (g : w.grownBy w' v0.ownBlock) (hle : b < B0 ∨ H0 ≤ b) : MBox w' b r c v := by
  have hne : some b ≠ v0.ownBlock := fun e => by
    have h1 := (World.ownsRow.lt o.1 b e.symm).1
    have h2 := o.2 b e.symm
    omega
  have hk := g.block b h.lt hne
  exact ⟨Nat.lt_of_lt_of_le h.lt g.size, (World.cell?_of_block hk).trans h.c0, (World.cell?_of_block hk).trans h.c1, (World.cell?_of_block hk).trans h.c2, fun o => (World.frozen?_of_block hk).trans (h.fz o)⟩
theorem below_markQ {W : World} (hb : Below W.heap.size W w) (o : OwnQB w B0 H0 v0 q0) (g : w.grownBy w' v0.ownBlock) (hle : W.heap.size ≤ B0) (hs : W.heap.size ≤ w.heap.size) : Below W.heap.size W w' :=
  hb.grown g hs fun k hk => Nat.le_trans hle (World.ownsRow.lt o.1 k hk).1
end

/-- (k, k+1), (k+2, k+3), .. -/
def runQ (k : Int) (n : Nat) : List Q2 := (List.range n).map fun (i : Nat) => (k + 2 * (i : Int), k + 2 * (i : Int) + 1)
theorem runQ_length (k : Int) (n : Nat) : (runQ k n).length = n := by simp [runQ]
theorem runQ_nth (k : Int) (n i : Nat) (h : i < n) : nthQ (runQ k n) i = (k + 2 * i, k + 2 * i + 1) := by
  rw [nthQ_get _ _ (by rw [runQ_length]; exact h)]; simp [runQ]

section
set_option maxHeartbeats 1000000
theorem RdQ.at_ {w : World} {A : Option Addr} {l : List Q2} (h : RdQ w A l) (i : Nat) (hi : i < l.length) : ∃ b off, A = some ⟨b, off, none⟩ ∧ b < w.heap.size ∧ w.cell? ⟨b, off + i * 2, none⟩ = some (.int .i64 (nthQ l i).1) ∧ w.cell? ⟨b, off + i * 2 + 1, none⟩ = some (.int .i64 (nthQ l i).2) := h i hi
theorem eqRatio_yes (a : Q2) (w : World) : Calls Try.prog 40 #[.agg #[.int .i64 a.1, .int .i64 a.2], .agg #[.int .i64 a.1, .int .i64 a.2]] w fun e w' => e = .returned (.bool true) ∧ Grows w w' := by
  go_enter Try.func40, Try.ntmps40
  go_wp2_with fail
  go_ret
  exact ⟨rfl, by exact bel0⟩
theorem eqRatioS_yes (A B : Option Addr) (l : List Q2) (c d : Nat) (w : World) (ha : RdQ w A l) (hb : RdQ w B l) (hl : l.length ≤ 1099511627776) :
    Calls Try.prog 35 #[.slice A l.length c, .slice B l.length d] w fun e w' => e = .returned (.bool true) ∧ Grows w w' := by
  go_enter Try.func35, Try.ntmps35
  go_wp2_with fail
  go_loopw [5] (fun i wr => ∃ (j : Nat), i = .int .i64 j ∧ j ≤ l.length ∧ Grows w wr) (fun i _ => l.length - (intOf i).toNat)
  case atStart => exact ⟨0, rfl, Nat.zero_le _, Grows.refl _⟩
  case round =>
    obtain ⟨j, rfl, hj, hg⟩ := hrel
    by_cases hlt : j < l.length
    · obtain ⟨b, off, rfl, hbs, hc1, hc2⟩ := (ha.grows hg).at_ j hlt
      obtain ⟨b', off', rfl, hbs', hc3, hc4⟩ := (hb.grows hg).at_ j hlt
      have x1 := ext_is hc1; have x2 := ext_is hc2; have x3 := ext_is hc3; have x4 := ext_is hc4
      have i1 : (j : Int) < (l.length : Int) := by omega
      have CE := Lib.hid fun W => eqRatio_yes (nthQ l j) W
      generalize nthQ l j = z at *
      go_wp2_with fail
      ((refine wp_region_ext (by kernel_rfl) (by kernel_rfl) ?_); (repeat (go_big_quiet_step ((go_at_call 40; with_reducible exact extC (CE.out _))))); refine wpQuiet_nil ?_; rintro w3 ⟨w30, hw30⟩; have g3 := grows_of_ext hw30; clear hw30 w30)
      go_wp2_with fail
      go_round
      case rel => exact ⟨j + 1, by go_num, by omega, by exact bel2 g3 hg⟩
      case measure => simp [intOf]; omega
    · obtain rfl : j = l.length := by omega
      go_wp2_with fail
      go_ret
      exact ⟨rfl, hg⟩
theorem markRatioS_c (B : Nat) (A : Option Addr) (l : List Q2) (c : Nat) (k : Int) (w : World) (ho : OwnQ w B (.slice A l.length c) l) (hl : l.length ≤ 1099511627776) (h0 : 0 ≤ k) (hk : k ≤ 1099511627776) :
    Calls Try.prog 36 #[.slice A l.length c, .int .i64 k] w fun e w' => e = .returned (.int .i64 (k + 2 * l.length)) ∧ OwnQ w' B (.slice A l.length c) (runQ k l.length) ∧ w.grownBy w' (Value.slice A l.length c).ownBlock := by
  go_enter Try.func36, Try.ntmps36
  go_wp2
  go_loopw [1, 5] (fun q i wr => ∃ (j : Nat) (m : List Q2), i = .int .i64 j ∧ q = .int .i64 (k + 2 * j) ∧ j ≤ l.length ∧ m.length = l.length ∧ (∀ i, i < j → nthQ m i = (k + 2 * i, k + 2 * i + 1)) ∧ OwnQ wr B (.slice A l.length c) m ∧ w.grownBy wr (Value.slice A l.length c).ownBlock) (fun _ i _ => l.length - (intOf i).toNat)
  case atStart => exact ⟨0, l, rfl, by simp, Nat.zero_le _, rfl, by omega, ho, World.grownBy.refl _ _⟩
  case round =>
    obtain ⟨j, m, rfl, rfl, hj, hm, he, hor, hgr⟩ := hrel
    by_cases hlt : j < l.length
    · have hor2 := hor
      rw [← hm] at hor2
      obtain ⟨g, cap, hv, hBg, hgs⟩ := ownsRow_form hor2 (by omega)
      simp only [Value.slice.injEq] at hv
      obtain ⟨rfl, _, rfl⟩ := hv
      obtain ⟨b', off', e', hbs, hc1, hc2⟩ := hor.rd.at_ j (by omega)
      simp only [Option.some.injEq, Addr.mk.injEq, and_true] at e'
      obtain ⟨rfl, rfl⟩ := e'
      rw [Nat.zero_add] at hc1 hc2
      have hf1 := ownsRow_free hor2 (j * 2)
      have hf2 := ownsRow_free hor2 (j * 2 + 1)
      have o1 := hor2.set1 j (by omega) (k + 2 * j)
      have o2 := OwnQ.set2 (l := m.set j (k + 2 * (j : Int), (nthQ m j).2)) (by rw [List.length_set]; exact o1) j (by rw [List.length_set]; omega) (k + 2 * j + 1)
      have hm1 : m.length = l.length := hm
      have hset : (m.set j (k + 2 * (j : Int), (nthQ m j).2)).set j ((nthQ (m.set j (k + 2 * (j : Int), (nthQ m j).2)) j).1, k + 2 * (j : Int) + 1) = m.set j (k + 2 * (j : Int), k + 2 * (j : Int) + 1) := by
        rw [List.set_set, nthQ_set _ _ _ _ (by omega), if_pos rfl]
      rw [hset, List.length_set, hm] at o2
      have HE := Lib.hid (show ∀ i, i < j + 1 → nthQ (m.set j (k + 2 * (j : Int), k + 2 * (j : Int) + 1)) i = (k + 2 * i, k + 2 * i + 1) from fun i hi => by
        rw [nthQ_set _ _ _ _ (by omega)]
        by_cases e : i = j
        · rw [if_pos e, e]
        · rw [if_neg e]; exact he i (by omega))
      have HM := Lib.hid hm
      have HO := Lib.hid o2
      have hcd : (w : World) → w.heap.size = w.heap.size := fun _ => rfl
      clear he hm hor2 o1 o2 hset hcd
      have hlt' : (j : Int) < (l.length : Int) := by omega
      go_wp2
      go_round
      case rel => exact ⟨j + 1, _, by go_num, by go_num, by omega, by rw [List.length_set, HM.out], HE.out, HO.out, only_setCell (p := ⟨g, j * 2 + 1, none⟩) (only_setCell (p := ⟨g, j * 2, none⟩) hgr rfl _) rfl _⟩
      case measure => simp [intOf]; omega
    · go_wp2
      go_ret
      obtain rfl : j = l.length := by omega
      obtain rfl : m = runQ k l.length := nthQ_ext (by rw [hm, runQ_length]) (fun i hi => by rw [he i (by omega), runQ_nth _ _ _ (by omega)])
      exact ⟨rfl, hor, hgr⟩
theorem heldRatioS_c (A : Option Addr) (n c : Nat) (k : Int) (w : World) (ha : RdQ w A (runQ k n)) (hl : n ≤ 1099511627776) (h0 : 0 ≤ k) (hk : k ≤ 1099511627776) :
    Calls Try.prog 37 #[.slice A n c, .int .i64 k] w fun e w' => e = .returned (.int .i64 (k + 2 * n)) ∧ Grows w w' := by
  go_enter Try.func37, Try.ntmps37
  go_wp2
  go_loop [1, 5] (fun q i => ∃ (j : Nat), i = .int .i64 j ∧ q = .int .i64 (k + 2 * j) ∧ j ≤ n) (fun _ i => n - (intOf i).toNat)
  case atStart => exact ⟨0, rfl, by simp, Nat.zero_le _⟩
  case round =>
    obtain ⟨j, rfl, rfl, hj⟩ := hrel
    by_cases hlt : j < n
    · obtain ⟨b, off, rfl, hbs, hcell1, hcell2⟩ := ha.at_ j (by rw [runQ_length]; exact hlt)
      rw [runQ_nth _ _ _ hlt] at hcell1 hcell2
      have hlt' : (j : Int) < (n : Int) := by omega
      go_wp2
      go_round
      case rel => exact ⟨j + 1, by go_num, by go_num, by omega⟩
      case measure => simp [intOf]; omega
    · go_wp2
      go_ret
      obtain rfl : j = n := by omega
      exact ⟨rfl, Grows.refl _⟩
end
end Go.Proofs.Ytpfijhcjempfjaa
