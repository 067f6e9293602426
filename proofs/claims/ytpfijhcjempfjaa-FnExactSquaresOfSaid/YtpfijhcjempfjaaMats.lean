/- Contracts: the laws' own helpers over matrices, and marks. -/
import Derived.Test.YtpfijhcjempfjaaInts
namespace Go.Proofs.Ytpfijhcjempfjaa
open Go.RowKit

set_option maxHeartbeats 400000 in
theorem eqMatrix_yes (r cl : Int) (A B : Option Addr) (l : List Int) (c d : Nat) (w : World) (ha : Rd w A l) (hb : Rd w B l) (hl : l.length ≤ 1099511627776) :
    Calls Try.prog 19 #[.agg #[.int .i64 r, .int .i64 cl, .slice A l.length c], .agg #[.int .i64 r, .int .i64 cl, .slice B l.length d]] w fun e w' => e = .returned (.bool true) ∧ Grows w w' := by
  go_enter Try.func19, Try.ntmps19
  go_wp2_with (go_at_call 30; refine (eqIntS_yes A B l c d _ ((ha.alloc _).alloc _) ((hb.alloc _).alloc _) hl).mono ?_; rintro e w1 ⟨rfl, hg1⟩)
  go_ret
  exact ⟨rfl, Grows.trans (((Below.refl _ _).alloc (Nat.le_refl _) _).alloc (by simp) _) hg1⟩

/-- k, k+1, .., n numbers. -/
def run (k : Int) (n : Nat) : List Int := (List.range n).map fun (i : Nat) => k + (i : Int)
theorem run_length (k : Int) (n : Nat) : (run k n).length = n := by simp [run]
theorem run_nth (k : Int) (n i : Nat) (h : i < n) : nth (run k n) i = k + i := by
  rw [nth_get _ _ (by rw [run_length]; exact h)]; simp [run]

theorem mark_step (k : Int) (n j : Nat) (m : List Int) (hj : j < n) (hm : m.length = n) (h1 : ∀ i, i < j → nth m i = k + i) : ∀ i, i < j + 1 → nth (m.set j (k + j)) i = k + i := by
  intro i hi
  rw [nth_set _ _ _ _ (by omega)]
  by_cases e : i = j
  · rw [if_pos e, e]
  · rw [if_neg e]; exact h1 i (by omega)

set_option maxHeartbeats 400000 in
theorem markIntS_c (B : Nat) (A : Option Addr) (l : List Int) (c : Nat) (k : Int) (w : World) (ho : Own w B (.slice A l.length c) l) (hl : l.length ≤ 1099511627776) (h0 : 0 ≤ k) (hk : k ≤ 1099511627776) :
    Calls Try.prog 31 #[.slice A l.length c, .int .i64 k] w fun e w' => e = .returned (.int .i64 (k + l.length)) ∧ Own w' B (.slice A l.length c) (run k l.length) ∧ w.grownBy w' (Value.slice A l.length c).ownBlock := by
  go_enter Try.func31, Try.ntmps31
  go_wp2
  go_loopw [1, 5] (fun q i wr => ∃ (j : Nat) (m : List Int), i = .int .i64 j ∧ q = .int .i64 (k + j) ∧ j ≤ l.length ∧ m.length = l.length ∧ (∀ i, i < j → nth m i = k + i) ∧ Own wr B (.slice A l.length c) m ∧ w.grownBy wr (Value.slice A l.length c).ownBlock) (fun _ i _ => l.length - (intOf i).toNat)
  case atStart => exact ⟨0, l, rfl, by simp, Nat.zero_le _, rfl, by omega, ho, World.grownBy.refl _ _⟩
  case round =>
    obtain ⟨j, m, rfl, rfl, hj, hm, he, hor, hgr⟩ := hrel
    by_cases hlt : j < l.length
    · have hor2 := hor
      rw [← hm] at hor2
      obtain ⟨g, cap, hv, hBg, hgs⟩ := hor2.form (by omega)
      simp only [Value.slice.injEq] at hv
      obtain ⟨rfl, _, rfl⟩ := hv
      have hc2 := hor.cell j (by omega)
      have hf2 := hor.free j
      have HE := Lib.hid he
      have HM := Lib.hid hm
      have HO := Lib.hid hor2
      clear he hm hor2
      go_wp2
      go_round
      case rel => exact ⟨j + 1, m.set j (k + j), by go_num, by go_num, by omega, by rw [List.length_set, HM.out], mark_step k l.length j m hlt HM.out HE.out, by have := HO.out.set j (k + j); rw [HM.out] at this; exact this, only_setCell (p := ⟨g, j, none⟩) hgr rfl _⟩
      case measure => simp [intOf]; omega
    · go_wp2
      go_ret
      obtain rfl : j = l.length := by omega
      obtain rfl : m = run k l.length := nth_ext (by rw [hm, run_length]) (fun i hi => by rw [he i (by omega), run_nth _ _ _ (by omega)])
      exact ⟨rfl, hor, hgr⟩

set_option maxHeartbeats 400000 in
theorem heldIntS_c (A : Option Addr) (n c : Nat) (k : Int) (w : World) (ha : Rd w A (run k n)) (hl : n ≤ 1099511627776) (h0 : 0 ≤ k) (hk : k ≤ 1099511627776) :
    Calls Try.prog 32 #[.slice A n c, .int .i64 k] w fun e w' => e = .returned (.int .i64 (k + n)) ∧ Grows w w' := by
  go_enter Try.func32, Try.ntmps32
  go_wp2
  go_loop [1, 5] (fun q i => ∃ (j : Nat), i = .int .i64 j ∧ q = .int .i64 (k + j) ∧ j ≤ n) (fun _ i => n - (intOf i).toNat)
  case atStart => exact ⟨0, rfl, by simp, Nat.zero_le _⟩
  case round =>
    obtain ⟨j, rfl, rfl, hj⟩ := hrel
    by_cases hlt : j < n
    · obtain ⟨b, off, rfl, hbs, hcell⟩ := ha.at_ j (by rw [run_length]; exact hlt)
      rw [run_nth _ _ _ hlt] at hcell
      go_wp2
      go_round
      case rel => exact ⟨j + 1, by go_num, by go_num, by omega⟩
      case measure => simp [intOf]; omega
    · go_wp2
      go_ret
      obtain rfl : j = n := by omega
      exact ⟨rfl, Grows.refl _⟩

set_option maxHeartbeats 400000 in
theorem markMatrix_c (B : Nat) (r cl : Int) (A : Option Addr) (l : List Int) (c : Nat) (k : Int) (w : World) (ho : Own w B (.slice A l.length c) l) (hl : l.length ≤ 1099511627776) (h0 : 0 ≤ k) (hk : k ≤ 1099511627776) :
    Calls Try.prog 20 #[.agg #[.int .i64 r, .int .i64 cl, .slice A l.length c], .int .i64 k] w fun e w' => e = .returned (.int .i64 (k + l.length)) ∧ Own w' B (.slice A l.length c) (run k l.length) ∧ w.grownBy w' (Value.slice A l.length c).ownBlock := by
  go_enter Try.func20, Try.ntmps20
  go_wp2_with (go_at_call 31; refine (markIntS_c B A l c k _ (ho.alloc _) hl h0 hk).mono ?_; rintro e w1 ⟨rfl, ho1, hg1⟩)
  go_ret
  exact ⟨rfl, ho1, only_alloc_left hg1⟩

set_option maxHeartbeats 400000 in
theorem heldMatrix_c (r cl : Int) (A : Option Addr) (n c : Nat) (k : Int) (w : World) (ha : Rd w A (run k n)) (hl : n ≤ 1099511627776) (h0 : 0 ≤ k) (hk : k ≤ 1099511627776) :
    Calls Try.prog 21 #[.agg #[.int .i64 r, .int .i64 cl, .slice A n c], .int .i64 k] w fun e w' => e = .returned (.int .i64 (k + n)) ∧ Grows w w' := by
  go_enter Try.func21, Try.ntmps21
  go_wp2_with (go_at_call 32; refine (heldIntS_c A n c k _ (ha.alloc _) hl h0 hk).mono ?_; rintro e w1 ⟨rfl, hg1⟩)
  go_ret
  exact ⟨rfl, Grows.trans ((Below.refl _ _).alloc (Nat.le_refl _) _) hg1⟩

set_option maxHeartbeats 400000 in
theorem toMatrix_c (r cl : Int) (A : Option Addr) (l : List Int) (c : Nat) (w : World) (hr : Rd w A l) (hl : l.length ≤ 1048576) :
    Calls Try.prog 17 #[.agg #[.int .i64 r, .int .i64 cl, .slice A l.length c]] w fun e w' => ∃ g, e = .returned (.agg #[.int .i64 r, .int .i64 cl, .slice (some ⟨g, 0, none⟩) l.length l.length]) ∧ Own w' w.heap.size (.slice (some ⟨g, 0, none⟩) l.length l.length) l ∧ Grows w w' := by
  go_enter Try.func17, Try.ntmps17
  go_wp2_with (go_at_call 44; refine (toIntS_c A l c _ (by exact (Rd.grows hr (by ((repeat' (first | with_reducible exact Below.refl _ _ | with_reducible assumption | (with_reducible refine Below.setCell ?_ ?_ _) | (with_reducible refine Below.alloc ?_ ?_ _) | (with_reducible refine Below.drew ?_) | (with_reducible refine below_drewN ?_ _))); all_goals (first | omega | (simp; done) | (simp; omega) | (simp [*]; done) | (simp at *; omega)))))) hl).mono ?_; rintro e w1 ⟨g, rfl, ho1, hg1⟩; obtain ⟨hc, hf⟩ := bcell hg1)
  refine bodyPost_ret (v := .agg #[.int .i64 r, .int .i64 cl, .slice (some ⟨g, 0, none⟩) l.length l.length]) ?_ rfl ?_
  · simp [results, Try.results17, go_sem, hc]
  · exact ⟨g, rfl, by (refine Own.less (B := ?OB) ?_ ?_; (repeat' (first | with_reducible exact ho1 | with_reducible refine Own.alloc ?_ _ | with_reducible refine Own.drew ?_ | with_reducible refine Own.low ?_ ?_ _)); all_goals (first | omega | (simp; done) | (simp; omega) | (simp [*]; done) | (simp at *; omega))), by (have bz0 := Below.size (hg1); (try simp at bz0); (repeat' (first | with_reducible exact Below.refl _ _ | with_reducible assumption | (with_reducible refine Below.setCell ?_ ?_ _) | (with_reducible refine Below.alloc ?_ ?_ _) | (with_reducible refine Below.drew ?_) | (with_reducible refine below_drewN ?_ _) | (with_reducible refine Below.trans ?_ (Below.mono (hg1) ?_)))); all_goals (first | omega | (simp; done) | (simp; omega) | (simp [*]; done) | (simp at *; omega)))⟩

theorem szMatrix_yes (r cl : Int) (A : Option Addr) (n c : Nat) (left : Int) (w : World) (hn : n ≤ 9223372036854775807) (h1 : 0 ≤ left) (h2 : left ≤ 1048576) (h : (n : Int) ≤ left) :
    Calls Try.prog 15 #[.agg #[.int .i64 r, .int .i64 cl, .slice A n c], .int .i64 left] w fun e w' => e = .returned (.int .i64 (left - n)) ∧ Grows w w' :=
  (szMatrix_c r cl A n c left w hn h1 h2).mono fun e w' ⟨he, hg⟩ => ⟨by rw [he, if_neg (by omega)], hg⟩
theorem szMatrix_no (r cl : Int) (A : Option Addr) (n c : Nat) (left : Int) (w : World) (hn : n ≤ 9223372036854775807) (h1 : 0 ≤ left) (h2 : left ≤ 1048576) (h : left < (n : Int)) :
    Calls Try.prog 15 #[.agg #[.int .i64 r, .int .i64 cl, .slice A n c], .int .i64 left] w fun e w' => e = .returned (.int .i64 (-1)) ∧ Grows w w' :=
  (szMatrix_c r cl A n c left w hn h1 h2).mono fun e w' ⟨he, hg⟩ => ⟨by rw [he, if_pos h], hg⟩
end Go.Proofs.Ytpfijhcjempfjaa
