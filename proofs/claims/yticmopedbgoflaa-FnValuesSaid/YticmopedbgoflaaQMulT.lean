/- Contracts and lemmas, put together. -/
import Derived.Test.YticmopedbgoflaaPkB
import Derived.Test.YticmopedbgoflaaPkC
/- Plain: the cells of a product of matrices. -/
namespace Go.Proofs.Yticmopedbgoflaa
set_option linter.unusedSimpArgs false
set_option linter.unusedVariables false
open Go.RowKit

/-- the cells of a product -/
theorem mulO_cells {R K C : Nat} {a b : List Int} {p : MX} (h : mulO ⟨R, K, a⟩ ⟨K, C, b⟩ = some p) : p.r = R ∧ p.c = C ∧ p.l.length = R * C ∧ ∀ i j, i < R → j < C → nth p.l (i * C + j) = sumN K fun k => nth a (i * K + k) * nth b (k * C + j) := by
  have e := mulO_eq ⟨R, K, a⟩ ⟨K, C, b⟩
  rw [h] at e
  obtain ⟨e1, e2, e3, e4⟩ := e
  have hok : mulOk R K a K C b = true := e4.symm
  have e1' : p.r = mulR R K a K C b := e1
  have e2' : p.c = mulC R K a K C b := e2
  have e3' : p.l = mulV R K a K C b := e3
  unfold mulR at e1'; unfold mulC at e2'; unfold mulV at e3'
  rw [hok] at e1' e2' e3'
  simp only [if_true, Int.toNat_natCast] at e1' e2' e3'
  refine ⟨e1', e2', by rw [e3', mulL_length], fun i j hi hj => ?_⟩
  rw [e3']
  have t := tab_nth (R := R) (C := C) (i := i) (j := j) (fun i j => dotTo a b K C i j K) hi hj
  refine Eq.trans t ?_
  have : ∀ n, dotTo a b K C i j n = sumN n fun t => nth a (i * K + t) * nth b (t * C + j) := fun n => by
    induction n with
    | zero => rfl
    | succ n ih => rw [dotTo, sumN, ih]
  exact this K
end Go.Proofs.Yticmopedbgoflaa
