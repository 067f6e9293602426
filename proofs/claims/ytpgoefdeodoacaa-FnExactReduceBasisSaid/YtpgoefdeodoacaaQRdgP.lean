/- Contracts and lemmas, put together. -/
import Derived.Test.YtpgoefdeodoacaaPkG
import Derived.Test.YtpgoefdeodoacaaQRed
import Derived.Test.YtpgoefdeodoacaaQSmithP
/- Plain: the reduction of a form, step by step; operations on columns are those on the rows of the transposed. -/
namespace Go.Proofs.Ytpgoefdeodoacaa
set_option linter.unusedSimpArgs false
set_option linter.unusedVariables false
open Go.RowKit

theorem trL_length (R C : Nat) (l : List Int) : (trL R C l).length = C * R := tab_length _ _ _
theorem trL_cell {R C i j : Nat} {l : List Int} (hi : i < R) (hj : j < C) : nth (trL R C l) (j * R + i) = nth l (i * C + j) := by
  unfold trL; rw [tab_nth _ hj hi]
theorem trL_trL {R C : Nat} {l : List Int} (h : l.length = R * C) : trL C R (trL R C l) = l := by
  refine (tab_ext h fun i j hi hj => ?_).symm
  exact (trL_cell hi hj).symm
theorem trL_num {R C : Nat} {l : List Int} (hl : l.length = R * C) (h : allNum l = true) : allNum (trL R C l) = true := by
  rw [allNum_iff] at *
  intro k hk
  rw [trL_length] at hk
  obtain ⟨h1, h2, h3⟩ := idx_split hk
  rw [h3, trL_cell h2 h1]
  exact h _ (by rw [hl]; exact idx_lt h2 h1)
theorem trL_num' {R C : Nat} {l : List Int} (hl : l.length = R * C) : allNum (trL R C l) = allNum l := by
  cases h : allNum l
  · cases h2 : allNum (trL R C l)
    · rfl
    · have := trL_num (trL_length R C l) h2
      rw [trL_trL hl, h] at this
      cases this
  · exact trL_num hl h
theorem trL_id (R : Nat) : trL R R (idL R) = idL R := by
  refine tab_ext (trL_length _ _ _) fun i j hi hj => ?_
  rw [trL_cell hj hi]
  unfold idL
  rw [tab_nth _ hj hi]
  by_cases e : i = j
  · rw [if_pos e, if_pos e.symm]
  · rw [if_neg e, if_neg fun h => e h.symm]
theorem addCT_tr {R C i j : Nat} {t : Int} {l : List Int} (hi : i < C) (hj : j < C) : trL C R (addT C R i j t (trL R C l)) = addCT R C i j t l := by
  unfold addCT
  refine tab_ext (trL_length _ _ _) fun a b ha hb => ?_
  rw [trL_cell hb ha]
  unfold addT
  rw [tab_nth _ hb ha, trL_cell ha hi, trL_cell ha hj, trL_cell ha hb]
theorem swpCT_tr {R C i j : Nat} {l : List Int} (hi : i < C) (hj : j < C) : trL C R (swpT C R i j (trL R C l)) = swpCT R C i j l := by
  unfold swpCT
  refine tab_ext (trL_length _ _ _) fun a b ha hb => ?_
  rw [trL_cell hb ha]
  unfold swpT
  rw [tab_nth _ hb ha, trL_cell ha hi, trL_cell ha hj, trL_cell ha hb]

/-! ### both rows and columns -/
def bothA (R i j : Nat) (t : Int) (s : LL) : Option LL := (addS R R i j t s).bind fun x => two (addCT R R i j t x.1) x.2
def bothW (R i j : Nat) (s : LL) : LL := (swpCT R R i j (swpT R R i j s.1), swpT R R i j s.2)
theorem bothA_two {R i j : Nat} {t : Int} {s : LL} (h : Ok2 R R s) : bothA R i j t s = two (addCT R R i j t (addT R R i j t s.1)) (addT R R i j t s.2) := by
  unfold bothA addS
  cases h1 : two (addT R R i j t s.1) (addT R R i j t s.2) with
  | none =>
    refine (none_two ?_).symm
    rcases two_none h1 with h2 | h2
    · exact .inl (addCT_stay (addT_length _ _ _ _ _ _) (addT_mkd h.l1 (mkd_of h.n1)) h2)
    · exact .inr h2
  | some x =>
    obtain ⟨rfl, _, _⟩ := two_some h1
    rfl
theorem bothA_ok {R i j : Nat} {t : Int} {s s' : LL} (h : bothA R i j t s = some s') : Ok2 R R s' := by
  unfold bothA at h
  obtain ⟨x, h1, h2⟩ := Option.bind_eq_some_iff.1 h
  have hx := addS_ok h1
  obtain ⟨rfl, h3, h4⟩ := two_some h2
  exact ⟨addCT_length _ _ _ _ _ _, hx.l2, h3, h4⟩
theorem bothW_ok {R i j : Nat} {s : LL} (h : Ok2 R R s) (hi : i < R) (hj : j < R) : Ok2 R R (bothW R i j s) :=
  ⟨swpCT_length _ _ _ _ _, swpT_length _ _ _ _ _, swpCT_num (swpT_length _ _ _ _ _) hi hj (swpT_num h.l1 hi hj h.n1), swpT_num h.l2 hi hj h.n2⟩

/-! ### a step -/
theorem round_num {q : Q2} (h : okQ q = true) : isNum (roundQ q) = true := by
  have hb := okQ_bd h
  unfold roundQ
  rw [h, if_pos rfl, isNum_iff]
  constructor
  · exact (Int.le_ediv_iff_mul_le (by omega)).2 (by omega)
  · exact Int.lt_add_one_iff.1 (Int.ediv_lt_of_lt_mul (by omega) (by omega))
/-- the last place before j whose coefficient is no ratio, or not nearest to 0 -/
def fstJ (row : List Q2) : Nat → Option Nat
  | 0 => none
  | j + 1 => if okQ (nthQ row j) && decide (roundQ (nthQ row j) = 0) then fstJ row j else some j
theorem fstJ_next {row : List Q2} {j : Nat} (h1 : okQ (nthQ row j) = true) (h2 : roundQ (nthQ row j) = 0) : fstJ row (j + 1) = fstJ row j := by rw [fstJ, h1, h2]; rfl
theorem fstJ_bad {row : List Q2} {j : Nat} (h1 : okQ (nthQ row j) = false) : fstJ row (j + 1) = some j := by rw [fstJ, h1]; rfl
theorem fstJ_here {row : List Q2} {j : Nat} (h1 : okQ (nthQ row j) = true) (h2 : roundQ (nthQ row j) ≠ 0) : fstJ row (j + 1) = some j := by rw [fstJ, h1]; simp [h2]
theorem fstJ_lt {row : List Q2} {k j : Nat} (h : fstJ row k = some j) : j < k := by
  induction k with
  | zero => cases h
  | succ k ih =>
    rw [fstJ] at h
    split at h
    · have := ih h; omega
    · cases h; omega
abbrev RS := LL × Nat
def redS (R : Nat) (mu : List (List Q2) × List Q2) (x : RS) : Option RS :=
  match fstJ (mu.1.getD x.2 []) x.2 with
  | some j => if okQ (nthQ (mu.1.getD x.2 []) j) then (bothA R x.2 j (-(roundQ (nthQ (mu.1.getD x.2 []) j))) x.1).map fun s => (s, x.2) else none
  | none => if ordS mu x.2 = 2 then none else if ordS mu x.2 = 0 ∨ ordS mu x.2 = 1 then some (x.1, x.2 + 1) else some (bothW R x.2 (x.2 - 1) x.1, max 1 (x.2 - 1))
theorem redS_bad {R k j : Nat} {mu : List (List Q2) × List Q2} {s : LL} (h : fstJ (mu.1.getD k []) k = some j) (h2 : okQ (nthQ (mu.1.getD k []) j) = false) : redS R mu (s, k) = none := by
  unfold redS; simp only [h, h2]; rfl
theorem redS_add {R k j : Nat} {mu : List (List Q2) × List Q2} {s : LL} (h : fstJ (mu.1.getD k []) k = some j) (h2 : okQ (nthQ (mu.1.getD k []) j) = true) : redS R mu (s, k) = (bothA R k j (-(roundQ (nthQ (mu.1.getD k []) j))) s).map fun s => (s, k) := by
  unfold redS; simp only [h, h2, if_true]
theorem redS_unknown {R k : Nat} {mu : List (List Q2) × List Q2} {s : LL} (h : fstJ (mu.1.getD k []) k = none) (h2 : ordS mu k = 2) : redS R mu (s, k) = none := by
  unfold redS; simp only [h, h2, if_true]
theorem redS_good {R k : Nat} {mu : List (List Q2) × List Q2} {s : LL} (h : fstJ (mu.1.getD k []) k = none) (h2 : ordS mu k = 0 ∨ ordS mu k = 1) : redS R mu (s, k) = some (s, k + 1) := by
  unfold redS; simp only [h]
  rw [if_neg (by omega), if_pos h2]
theorem redS_swap {R k : Nat} {mu : List (List Q2) × List Q2} {s : LL} (h : fstJ (mu.1.getD k []) k = none) (h2 : ordS mu k ≠ 2) (h3 : ¬ (ordS mu k = 0 ∨ ordS mu k = 1)) : redS R mu (s, k) = some (bothW R k (k - 1) s, max 1 (k - 1)) := by
  unfold redS; simp only [h]
  rw [if_neg h2, if_neg h3]
theorem redS_ok {R : Nat} {mu : List (List Q2) × List Q2} {x y : RS} (hx : Ok2 R R x.1) (h1 : 1 ≤ x.2) (h2 : x.2 < R) (h : redS R mu x = some y) : Ok2 R R y.1 ∧ 1 ≤ y.2 ∧ y.2 ≤ R := by
  obtain ⟨s, k⟩ := x
  simp only at hx h1 h2
  cases hf : fstJ (mu.1.getD k []) k with
  | some j =>
    cases ho : okQ (nthQ (mu.1.getD k []) j)
    · rw [redS_bad hf ho] at h; cases h
    · rw [redS_add hf ho] at h
      obtain ⟨s', h3, rfl⟩ := Option.map_eq_some_iff.1 h
      exact ⟨bothA_ok h3, h1, by simp only; omega⟩
  | none =>
    by_cases h3 : ordS mu k = 2
    · rw [redS_unknown hf h3] at h; cases h
    · by_cases h4 : ordS mu k = 0 ∨ ordS mu k = 1
      · rw [redS_good hf h4] at h; cases h
        exact ⟨hx, by simp only; omega, by simp only; omega⟩
      · rw [redS_swap hf h3 h4] at h; cases h
        exact ⟨bothW_ok hx h2 (by omega), by simp only; omega, by simp only; omega⟩

/-! ### all steps -/
def rdgF (R : Nat) : Nat → RS → Option LL
  | 0, x => if x.2 < R then none else some x.1
  | f + 1, x => if x.2 < R then (accF R x.1.1 R).bind fun mu => (redS R mu x).bind (rdgF R f) else some x.1
theorem rdgF_end {R f : Nat} {x : RS} (h : ¬ x.2 < R) : rdgF R f x = some x.1 := by cases f <;> (rw [rdgF, if_neg h])
theorem rdgF_out {R : Nat} {x : RS} (h : x.2 < R) : rdgF R 0 x = none := by rw [rdgF, if_pos h]
theorem rdgF_acc {R f : Nat} {x : RS} (h : x.2 < R) (h2 : accF R x.1.1 R = none) : rdgF R f x = none := by
  cases f
  · exact rdgF_out h
  · rw [rdgF, if_pos h, h2]; rfl
theorem rdgF_step {R f : Nat} {x : RS} {mu : List (List Q2) × List Q2} (h : x.2 < R) (h2 : accF R x.1.1 R = some mu) : rdgF R (f + 1) x = (redS R mu x).bind (rdgF R f) := by
  rw [rdgF, if_pos h, h2]; rfl
theorem rdgF_ok {R f : Nat} {x : RS} {s : LL} (hx : Ok2 R R x.1) (h1 : 1 ≤ x.2) (h : rdgF R f x = some s) : Ok2 R R s := by
  induction f generalizing x with
  | zero =>
    rw [rdgF] at h
    split at h
    · cases h
    · cases h; exact hx
  | succ f ih =>
    by_cases h2 : x.2 < R
    · cases h3 : accF R x.1.1 R with
      | none => rw [rdgF_acc h2 h3] at h; cases h
      | some mu =>
        rw [rdgF_step h2 h3] at h
        obtain ⟨y, h4, h5⟩ := Option.bind_eq_some_iff.1 h
        obtain ⟨h6, h7, _⟩ := redS_ok hx h1 h2 h4
        exact ih h6 h7 h5
    · rw [rdgF_end h2] at h; cases h; exact hx
def rdgO (g : MX) : Option (MX × MX) :=
  if isDef g.r g.c g.l then (rdgF g.r.toNat 200 ((g.l, idL g.r.toNat), 1)).map fun s => (⟨g.r, g.r, s.1⟩, ⟨g.r, g.r, s.2⟩) else none
theorem rdgO_no {g : MX} (h : isDef g.r g.c g.l = false) : rdgO g = none := by unfold rdgO; rw [h]; rfl
theorem rdgO_yes {R : Nat} {l : List Int} (h : isDef R R l = true) : rdgO ⟨R, R, l⟩ = (rdgF R 200 ((l, idL R), 1)).map fun s => (⟨R, R, s.1⟩, ⟨R, R, s.2⟩) := by
  unfold rdgO; simp only [h, if_true, Int.toNat_natCast]
theorem rdgO_ok {g : MX} {x : MX × MX} (h : rdgO g = some x) : ∃ (R : Nat) (s : LL), g.r = R ∧ g.c = R ∧ R ≤ 24 ∧ x = (⟨R, R, s.1⟩, ⟨R, R, s.2⟩) ∧ Ok2 R R s := by
  cases hd : isDef g.r g.c g.l
  · rw [rdgO_no hd] at h; cases h
  · obtain ⟨_, R, e1, e2, hR, hlen, hn⟩ := isSq_nat (isDef_sq hd)
    obtain ⟨r, c, l⟩ := g
    simp only at e1 e2 hlen hn hd
    subst e1 e2
    rw [rdgO_yes hd] at h
    obtain ⟨s, h1, rfl⟩ := Option.map_eq_some_iff.1 h
    exact ⟨R, s, rfl, rfl, by omega, rfl, rdgF_ok (x := ((l, idL R), 1)) ⟨hlen, idL_length R, (allNum_iff _).2 hn, idL_num R⟩ (Nat.le_refl _) h1⟩
end Go.Proofs.Ytpgoefdeodoacaa
