/- Contracts and lemmas, put together. -/
import Derived.Deep.DeepCutAuto
import Derived.Test.YtbfkpfdkndnhkaaPkA
/- Contract: a number of the diagonal. -/
namespace Go.Proofs.Ytbfkpfdkndnhkaa
set_option linter.unusedSimpArgs false
set_option linter.unusedVariables false
open Go.RowKit

section
set_option maxHeartbeats 4000000
set_option maxRecDepth 10000
theorem diag_c (R C : Nat) (A : Option Addr) (l : List Int) (n cap i : Nat) (w : World) (hn : l.length = n) (hlen : l.length = R * C) (hR : R ≤ 24) (hC : C ≤ 24) (hi : i < R) (hi2 : i < C) (ha : Rd w A l) :
    Calls Try.prog 65 #[.agg #[.int .i64 R, .int .i64 C, .slice A n cap], .int .i64 i] w fun e w' => e = .returned (.int .i64 (nth l (i * C + i))) ∧ Grows w w' := by
  have hRC : R * C ≤ 576 := Nat.mul_le_mul hR hC
  have hb : i * C ≤ 576 := by have := Nat.mul_le_mul_right C (Nat.le_of_lt hi); omega
  have CC := fun W h => at_c R C A l n cap i i W hn h (castMul i C) (by have := castMulLe hb; omega) (castPos i C i) (castLt (by rw [hlen]; exact idx_lt hi hi2)) (by omega)
  rw [castIdx] at CC
  have CC' := Lib.hid CC
  obtain ⟨w1, hw1⟩ : ∃ w1, w1 = w.alloc (.cells #[.int .i64 R, .int .i64 C, .slice A n cap] 26) := ⟨_, rfl⟩
  have mg : MBox w1 w.heap.size R C (.slice A n cap) := by rw [hw1]; exact MBox.mk_ _ _ _ _ _
  have HG : Grows w w1 := by rw [hw1]; exact bel0
  have HW1 := Lib.hid hw1
  have ha1 := ha.grows HG
  have i1 : (i : Int) < (R : Int) := by omega
  have i2 : (i : Int) < (C : Int) := by omega
  have i3 : ¬ (R : Int) ≤ (i : Int) := by omega
  have i4 : ¬ (C : Int) ≤ (i : Int) := by omega
  obtain ⟨b0, b1, b2⟩ := mg.cells
  clear CC hw1 hn hlen
  go_enter Try.func65, Try.ntmps65
  go_upto_region 1 with fail
  rw [← HW1.out]
  go_wp2_with fail
  refine (CC'.out _ ha1).mono ?_; rintro e w2 ⟨rfl, g2⟩
  go_wp2_with fail
  go_ret
  exact ⟨rfl, by exact bel2 g2 HG⟩
end
end Go.Proofs.Ytbfkpfdkndnhkaa
