/- Contracts and lemmas, put together. -/
import Derived.Test.YticmopedbgoflaaPkT
import Derived.Test.YticmopedbgoflaaQStk
/- Plain: two matrices span one lattice exactly if the rows of each are in the other's; small cells. -/
namespace Go.Proofs.Yticmopedbgoflaa
set_option linter.unusedSimpArgs false
set_option linter.unusedVariables false
open Go.RowKit

theorem eqL_iff (a b : List Int) : eqL a b = true ↔ a = b := by unfold eqL; exact decide_eq_true_iff
/-- all cells are small -/
def tameB (l : List Int) : Bool := l.all fun x => decide (-1000 ≤ x) && decide (x ≤ 1000)
theorem tameB_iff (l : List Int) : tameB l = true ↔ ∀ i, i < l.length → -1000 ≤ nth l i ∧ nth l i ≤ 1000 := by
  unfold tameB
  rw [List.all_eq_true]
  constructor
  · intro h i hi
    have := h l[i] (List.getElem_mem hi)
    rw [nth_get _ _ hi]
    simpa using this
  · intro h x hx
    obtain ⟨i, hi, rfl⟩ := List.getElem_of_mem hx
    have := h i hi
    rw [nth_get _ _ hi] at this
    simpa using this
theorem basO_mat {a x : MX} (h : basO a = some x) : ∃ (R C : Nat) (l : List Int), a = ⟨R, C, l⟩ ∧ isMat R C l = true := by
  obtain ⟨r, c, l⟩ := a
  unfold basO at h
  obtain ⟨y, h1, _⟩ := Option.map_eq_some_iff.1 h
  have hm : isMat r c l = true := by
    cases e : isMat r c l
    · have h0 := hermO_no (a := ⟨r, c, l⟩) e
      rw [h0] at h1; cases h1
    · rfl
  obtain ⟨R, C, e1, e2, _⟩ := isMat_nat hm
  subst e1 e2
  exact ⟨R, C, l, rfl, hm⟩
theorem MX.ext' {a b : MX} (h1 : a.r = b.r) (h2 : a.c = b.c) (h3 : a.l = b.l) : a = b := by
  cases a; cases b; simp only at h1 h2 h3; subst h1 h2 h3; rfl
theorem sml_law {a b x y : MX} (hx : basO a = some x) (hy : basO b = some y) (hc : a.c = b.c) : eqMat x.r x.c x.l y.r y.c y.l = ((crmO x y).isSome && (crmO y x).isSome) := by
  obtain ⟨R, C, la, rfl, hm⟩ := basO_mat hx
  obtain ⟨R', C', lb, rfl, hm'⟩ := basO_mat hy
  obtain rfl : C = C' := by simp only at hc; omega
  obtain ⟨T, _, B⟩ := basO_D hm hx
  obtain ⟨T', _, B'⟩ := basO_D hm' hy
  obtain ⟨xr, xc, xl⟩ := x
  obtain ⟨yr, yc, yl⟩ := y
  have e1 := B.r; have e2 := B.c; have e3 := B'.r; have e4 := B'.c
  simp only at e1 e2 e3 e4
  subst e1 e2 e3 e4
  have L1 := B.lat
  have L2 := B'.lat
  by_cases e : T = T' ∧ xl = yl
  · obtain ⟨rfl, rfl⟩ := e
    rw [crmO_self L1]
    simp [eqMat, (eqL_iff _ _).2 rfl]
  · have h1 : eqMat T C xl T' C yl = false := by
      cases h : eqMat T C xl T' C yl
      · rfl
      · unfold eqMat at h
        simp only [Bool.and_eq_true, beq_iff_eq] at h
        exact absurd ⟨by omega, (eqL_iff _ _).1 h.2.2⟩ e
    rw [h1]
    cases h2 : crmO ⟨T, C, xl⟩ ⟨T', C, yl⟩ with
    | none => rfl
    | some p =>
      cases h3 : crmO ⟨T', C, yl⟩ ⟨T, C, xl⟩ with
      | none => rfl
      | some q =>
        exfalso
        obtain ⟨_, _, _, c, _, _, _, hr⟩ := crmO_D h2
        obtain ⟨_, _, _, d, _, _, _, hr'⟩ := crmO_D h3
        refine e (her_eq B.len B'.len B.her B'.her fun v => ⟨fun h => h.trans fun i hi => ⟨_, fun j hj => hr' i hi j hj⟩, fun h => h.trans fun i hi => ⟨_, fun j hj => hr i hi j hj⟩⟩)
end Go.Proofs.Yticmopedbgoflaa
