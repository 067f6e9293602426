/- Contracts and lemmas, put together. -/
import Derived.Test.YticmopedbgoflaaPkC
import Derived.Test.YticmopedbgoflaaQVal
/- Plain: the value of a vector is the form's. -/
namespace Go.Proofs.Yticmopedbgoflaa
set_option linter.unusedSimpArgs false
set_option linter.unusedVariables false
open Go.RowKit

theorem dotTo_sum (a b : List Int) (K C i j n : Nat) : dotTo a b K C i j n = sumN n fun t => nth a (i * K + t) * nth b (t * C + j) := by
  induction n with
  | zero => rfl
  | succ n ih => rw [dotTo, sumN, ih]
theorem vOk_parts {r c : Int} {g x : List Int} (h : vOk r c g x = true) : isGram r c g = true ∧ (x.length : Int) = r ∧ mulOk 1 x.length x r c g = true ∧ mulOk (vR r c g x) (vC r c g x) (vP r c g x) x.length 1 x = true := by
  unfold vOk at h
  simp only [Bool.and_eq_true, beq_iff_eq] at h
  exact ⟨h.1.1.1, h.1.1.2, h.1.2, h.2⟩
theorem vVal_qf {R : Nat} {g x : List Int} (h : vOk R R g x = true) : vVal R R g x = qf R (fnOf R g) (nth x) := by
  obtain ⟨_, hx, h1, h2⟩ := vOk_parts h
  have hx' : x.length = R := by omega
  have e1 : vR R R g x = 1 := by unfold vR mulR; rw [h1]; rfl
  have e2 : vC R R g x = R := by unfold vC mulC; rw [h1]; rfl
  have e3 : vP R R g x = mulL 1 R R x g := by unfold vP mulV; rw [h1, if_pos rfl, hx']; simp
  have e4 : vQ R R g x = mulL 1 R 1 (mulL 1 R R x g) x := by unfold vQ mulV; rw [h2, if_pos rfl, e1, e2, e3]; simp
  unfold vVal ifN
  rw [h, if_pos rfl, e4]
  have t1 : nth (mulL 1 R 1 (mulL 1 R R x g) x) 0 = dotTo (mulL 1 R R x g) x R 1 0 0 R := by
    have := tab_nth (R := 1) (C := 1) (i := 0) (j := 0) (fun i j => dotTo (mulL 1 R R x g) x R 1 i j R) (by omega) (by omega)
    simpa [mulL] using this
  rw [t1, dotTo_sum]
  unfold qf
  rw [sumN_swap]
  apply sumN_congr
  intro j hj
  have t2 : nth (mulL 1 R R x g) (0 * R + j) = dotTo x g R R 0 j R := tab_nth (fun i j => dotTo x g R R i j R) (by omega) hj
  rw [t2, dotTo_sum, Int.mul_comm, ← sumN_mul]
  apply sumN_congr
  intro i hi
  unfold fnOf
  rw [Nat.zero_mul, Nat.zero_add, Nat.mul_one, Nat.add_zero, Int.mul_comm]
end Go.Proofs.Yticmopedbgoflaa
