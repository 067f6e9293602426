/- Contracts and lemmas, put together. -/
import Derived.BigRegion
import Derived.Deep.LoopGhost
import Derived.Test.YtbfkpfdkndnhkaaGreatPkA
import Derived.Test.YtbfkpfdkndnhkaaGreatPkB
import Derived.Test.YtbfkpfdkndnhkaaGreatPkD
import Derived.Test.YtbfkpfdkndnhkaaGreatPkES
/- Contracts: a copy of a matrix; a matrix times a number. -/
namespace Go.Proofs.YtbfkpfdkndnhkaaGreat
set_option linter.unusedSimpArgs false
set_option linter.unusedVariables false
open Go.RowKit

def scL (k : Int) (l : List Int) : List Int := l.map (· * k)
def scO (a : MX) (k : Int) : Option MX := if a.ok && isNum k && allNum (scL k a.l) then some ⟨a.r, a.c, scL k a.l⟩ else none
theorem scO_no {a : MX} {k : Int} (h : a.ok = false ∨ isNum k = false) : scO a k = none := by
  unfold scO; rw [if_neg]; rcases h with h | h <;> simp [h]
theorem scL_nth (k : Int) (l : List Int) (i : Nat) (h : i < l.length) : nth (scL k l) i = nth l i * k := by
  rw [nth_get _ _ (by simp [scL]; exact h), nth_get _ _ h]; simp [scL]
/-- the first i cells are done -/
def ScD (k : Int) (l : List Int) (i : Nat) (m : List Int) : Prop := m.length = l.length ∧ ∀ j, j < i → nth m j = nth l j * k
theorem ScD.set {k : Int} {l m : List Int} {i : Nat} (h : ScD k l i m) (hi : i < l.length) : ScD k l (i + 1) (m.set i (nth l i * k)) := by
  refine ⟨by rw [List.length_set]; exact h.1, fun j hj => ?_⟩
  rw [nth_set _ _ _ _ (by rw [h.1]; exact hi)]
  split
  · rename_i e; rw [e]
  · exact h.2 j (by omega)
theorem ScD.all {k : Int} {l m : List Int} (h : ScD k l l.length m) : m = scL k l :=
  nth_ext (by rw [h.1]; simp [scL]) fun i hi => by rw [h.2 i (by rw [← h.1]; exact hi), scL_nth _ _ _ (by rw [← h.1]; exact hi)]
theorem scO_yes {R C : Nat} {k : Int} {l : List Int} (h : isMat R C l = true) (hk : isNum k = true) : isMat R C (scL k l) = allNum (scL k l) ∧ scO ⟨R, C, l⟩ k = if allNum (scL k l) then some ⟨R, C, scL k l⟩ else none := by
  obtain ⟨R', C', e1, e2, hR, hC, hl, hn⟩ := isMat_nat h
  obtain rfl : R = R' := by omega
  obtain rfl : C = C' := by omega
  refine ⟨isMat_made hR hC (by simp [scL, hl]), ?_⟩
  unfold scO MX.ok
  simp only [h, hk, Bool.true_and]
theorem scO_ok {a m : MX} {k : Int} (h : scO a k = some m) : m.ok = true := by
  unfold scO at h
  split at h
  · rename_i hh
    cases h
    simp only [Bool.and_eq_true] at hh
    obtain ⟨R, C, e1, e2, hR, hC, hl, hn⟩ := isMat_ok hh.1.1
    have := hh.1.1
    unfold MX.ok at this ⊢
    simp only [e1, e2] at this ⊢
    rw [(scO_yes this hh.1.2).1]; exact hh.2
  · cases h

section
set_option maxHeartbeats 1000000
/-- a lattice times n -/
def slO (a : MX) (k : Int) : Option MX := if latB a.r a.c a.l && decide (1 ≤ k) then scO a k else none
theorem slO_ok {a m : MX} {k : Int} (h : slO a k = some m) : m.ok = true := by
  unfold slO at h
  split at h
  · exact scO_ok h
  · cases h
end
end Go.Proofs.YtbfkpfdkndnhkaaGreat

/- The Hermite form as an algorithm on lists, and what is known of its result. -/
namespace Go.Proofs.YtbfkpfdkndnhkaaGreat
set_option linter.unusedSimpArgs false
set_option linter.unusedVariables false

/-! ### operations on rows; numbers that do not fit are marked -/
def addT (R C i j : Nat) (t : Int) (l : List Int) : List Int := tab R C fun a b => if a = i then addB (nth l (i * C + b)) (mulB (nth l (j * C + b)) t) else nth l (a * C + b)
def swpT (R C i j : Nat) (l : List Int) : List Int := tab R C fun a b => if a = i then nth l (j * C + b) else if a = j then nth l (i * C + b) else nth l (a * C + b)
def negT (R C i : Nat) (l : List Int) : List Int := tab R C fun a b => if a = i then mulB (nth l (i * C + b)) (-1) else nth l (a * C + b)
theorem addT_length (R C i j : Nat) (t : Int) (l : List Int) : (addT R C i j t l).length = R * C := tab_length _ _ _
theorem swpT_length (R C i j : Nat) (l : List Int) : (swpT R C i j l).length = R * C := tab_length _ _ _
theorem negT_length (R C i : Nat) (l : List Int) : (negT R C i l).length = R * C := tab_length _ _ _
theorem isNum_addB {x y t : Int} (h : isNum (addB x (mulB y t)) = true) : addB x (mulB y t) = x + y * t := by
  unfold addB at *
  by_cases hb : x = bad ∨ mulB y t = bad
  · rw [if_pos hb, bad_not] at h; cases h
  · rw [if_neg hb] at *
    have hm : mulB y t = y * t := by
      unfold mulB at *
      by_cases hb2 : y = bad ∨ t = bad
      · rw [if_pos hb2] at hb; exact absurd (Or.inr rfl) hb
      · rw [if_neg hb2] at *
        unfold fit at *
        split
        · rfl
        · rename_i hf; rw [if_neg hf] at hb; exact absurd (Or.inr rfl) hb
    rw [hm] at h ⊢
    unfold fit at *
    split
    · rfl
    · rename_i hf; rw [if_neg hf, bad_not] at h; cases h
theorem addT_other {R C i j a b : Nat} {t : Int} {l : List Int} (ha : a < R) (hb : b < C) (h : a ≠ i) : nth (addT R C i j t l) (a * C + b) = nth l (a * C + b) := by
  unfold addT; rw [tab_nth _ ha hb, if_neg h]
theorem addT_same {R C i j b : Nat} {t : Int} {l : List Int} (hi : i < R) (hb : b < C) (h : allNum (addT R C i j t l) = true) : nth (addT R C i j t l) (i * C + b) = nth l (i * C + b) + nth l (j * C + b) * t := by
  have := (allNum_iff _).1 h (i * C + b) (by rw [addT_length]; exact idx_lt hi hb)
  unfold addT at *
  rw [tab_nth _ hi hb, if_pos rfl] at *
  exact isNum_addB this
/-- every cell is a number within the limit or marked -/
def mkd (l : List Int) : Prop := ∀ i, i < l.length → nth l i = bad ∨ isNum (nth l i) = true
theorem mkd_of {l : List Int} (h : allNum l = true) : mkd l := fun i hi => .inr ((allNum_iff l).1 h i hi)
theorem fit_or' (n : Int) : fit n = bad ∨ isNum (fit n) = true := by
  cases h : isNum n
  · exact .inl (fit_no h)
  · right; rw [fit_yes h]; exact h
theorem addB_or' (a b : Int) : addB a b = bad ∨ isNum (addB a b) = true := by
  unfold addB
  split
  · exact .inl rfl
  · exact fit_or' _
theorem mulB_or' (a b : Int) : mulB a b = bad ∨ isNum (mulB a b) = true := by
  unfold mulB
  split
  · exact .inl rfl
  · exact fit_or' _
theorem mkd_tab {R C : Nat} {f : Nat → Nat → Int} (h : ∀ a b, a < R → b < C → f a b = bad ∨ isNum (f a b) = true) : mkd (tab R C f) := fun k hk => by
  rw [tab_length] at hk
  obtain ⟨h1, h2, h3⟩ := idx_split hk
  rw [h3, tab_nth _ h1 h2]
  exact h _ _ h1 h2
theorem mkd_nth {R C : Nat} {l : List Int} (hl : l.length = R * C) (h : mkd l) {a b : Nat} (ha : a < R) (hb : b < C) : nth l (a * C + b) = bad ∨ isNum (nth l (a * C + b)) = true := h _ (by rw [hl]; exact idx_lt ha hb)
theorem addT_mkd {R C i j : Nat} {t : Int} {l : List Int} (hl : l.length = R * C) (h : mkd l) : mkd (addT R C i j t l) := mkd_tab fun a b ha hb => by
  split
  · exact addB_or' _ _
  · exact mkd_nth hl h ha hb
theorem swpT_mkd {R C i j : Nat} {l : List Int} (hl : l.length = R * C) (h : mkd l) (hi : i < R) (hj : j < R) : mkd (swpT R C i j l) := mkd_tab fun a b ha hb => by
  split
  · exact mkd_nth hl h hj hb
  · split
    · exact mkd_nth hl h hi hb
    · exact mkd_nth hl h ha hb
theorem negT_mkd {R C i : Nat} {l : List Int} (hl : l.length = R * C) (h : mkd l) : mkd (negT R C i l) := mkd_tab fun a b ha hb => by
  split
  · exact mulB_or' _ _
  · exact mkd_nth hl h ha hb
theorem not_num {R C : Nat} {l : List Int} (hl : l.length = R * C) (h : allNum l = false) (hm : mkd l) : ∃ a b, a < R ∧ b < C ∧ nth l (a * C + b) = bad := by
  refine Classical.byContradiction fun hn => ?_
  have : allNum l = true := (allNum_iff _).2 fun k hk => by
    rcases hm k hk with e | e
    · rw [hl] at hk
      obtain ⟨h1, h2, h3⟩ := idx_split hk
      exact absurd ⟨k / C, k % C, h1, h2, by rw [← h3]; exact e⟩ hn
    · exact e
  rw [this] at h; cases h
theorem has_bad {l : List Int} {i : Nat} (hi : i < l.length) (h : nth l i = bad) : allNum l = false := allNum_no hi (by rw [h]; exact bad_not)
/-- a mark stays -/
theorem addT_stay {R C i j : Nat} {t : Int} {l : List Int} (hl : l.length = R * C) (hm : mkd l) (h : allNum l = false) : allNum (addT R C i j t l) = false := by
  obtain ⟨a, b, ha, hb, e⟩ := not_num hl h hm
  refine has_bad (i := a * C + b) (by rw [addT_length]; exact idx_lt ha hb) ?_
  by_cases he : a = i
  · subst he
    unfold addT; rw [tab_nth _ ha hb, if_pos rfl, e, addB_bad_left]
  · rw [addT_other ha hb he]; exact e
theorem swpT_stay {R C i j : Nat} {l : List Int} (hl : l.length = R * C) (hm : mkd l) (hi : i < R) (hj : j < R) (h : allNum l = false) : allNum (swpT R C i j l) = false := by
  obtain ⟨a, b, ha, hb, e⟩ := not_num hl h hm
  by_cases h1 : a = i
  · refine has_bad (i := j * C + b) (by rw [swpT_length]; exact idx_lt hj hb) ?_
    unfold swpT; rw [tab_nth _ hj hb]
    split
    · rename_i h2; rw [h2, ← h1, e]
    · rw [if_pos rfl, ← h1, e]
  · by_cases h2 : a = j
    · refine has_bad (i := i * C + b) (by rw [swpT_length]; exact idx_lt hi hb) ?_
      unfold swpT; rw [tab_nth _ hi hb, if_pos rfl, ← h2, e]
    · refine has_bad (i := a * C + b) (by rw [swpT_length]; exact idx_lt ha hb) ?_
      unfold swpT; rw [tab_nth _ ha hb, if_neg h1, if_neg h2, e]
theorem negT_stay {R C i : Nat} {l : List Int} (hl : l.length = R * C) (hm : mkd l) (h : allNum l = false) : allNum (negT R C i l) = false := by
  obtain ⟨a, b, ha, hb, e⟩ := not_num hl h hm
  refine has_bad (i := a * C + b) (by rw [negT_length]; exact idx_lt ha hb) ?_
  unfold negT; rw [tab_nth _ ha hb]
  split
  · rename_i he; rw [← he, e, mulB_bad_left]
  · exact e
theorem swpT_num {R C i j : Nat} {l : List Int} (hl : l.length = R * C) (hi : i < R) (hj : j < R) (h : allNum l = true) : allNum (swpT R C i j l) = true := by
  rw [allNum_iff] at *
  intro k hk
  rw [swpT_length] at hk
  obtain ⟨h1, h2, h3⟩ := idx_split hk
  rw [h3]; unfold swpT; rw [tab_nth _ h1 h2]
  split
  · exact h _ (by rw [hl]; exact idx_lt hj h2)
  · split
    · exact h _ (by rw [hl]; exact idx_lt hi h2)
    · exact h _ (by rw [hl]; exact idx_lt h1 h2)
theorem mulB_neg {x : Int} (h : isNum x = true) : mulB x (-1) = -x := by
  rw [mulB_num h (by decide), show x * -1 = -x by omega]
  exact fit_yes (by rw [isNum_iff] at *; omega)
theorem negT_num {R C i : Nat} {l : List Int} (hl : l.length = R * C) (hi : i < R) (h : allNum l = true) : allNum (negT R C i l) = true := by
  rw [allNum_iff] at *
  intro k hk
  rw [negT_length] at hk
  obtain ⟨h1, h2, h3⟩ := idx_split hk
  rw [h3]; unfold negT; rw [tab_nth _ h1 h2]
  have hx := h (i * C + k % C) (by rw [hl]; exact idx_lt hi h2)
  split
  · rw [mulB_neg hx]; rw [isNum_iff] at *; omega
  · exact h _ (by rw [hl]; exact idx_lt h1 h2)

/-! ### pairs: a matrix and that of the operations -/
abbrev LL := List Int × List Int
def two (a u : List Int) : Option LL := if allNum a && allNum u then some (a, u) else none
theorem two_some {a u : List Int} {s : LL} (h : two a u = some s) : s = (a, u) ∧ allNum a = true ∧ allNum u = true := by
  unfold two at h
  split at h
  · rename_i hh; rw [Bool.and_eq_true] at hh; cases h; exact ⟨rfl, hh.1, hh.2⟩
  · cases h
def addS (R C i j : Nat) (t : Int) (s : LL) : Option LL := two (addT R C i j t s.1) (addT R R i j t s.2)
def swpS (R C i j : Nat) (s : LL) : LL := (swpT R C i j s.1, swpT R R i j s.2)
def negS (R C i : Nat) (s : LL) : LL := (negT R C i s.1, negT R R i s.2)
/-- well made: lengths, numbers -/
structure Ok2 (R C : Nat) (s : LL) : Prop where
  l1 : s.1.length = R * C
  l2 : s.2.length = R * R
  n1 : allNum s.1 = true
  n2 : allNum s.2 = true
theorem addS_ok {R C i j : Nat} {t : Int} {s s' : LL} (h : addS R C i j t s = some s') : Ok2 R C s' := by
  obtain ⟨rfl, h1, h2⟩ := two_some h
  exact ⟨addT_length _ _ _ _ _ _, addT_length _ _ _ _ _ _, h1, h2⟩
theorem addS_fst {R C i j : Nat} {t : Int} {s s' : LL} (h : addS R C i j t s = some s') : s'.1 = addT R C i j t s.1 ∧ s'.2 = addT R R i j t s.2 := by
  obtain ⟨rfl, _, _⟩ := two_some h; exact ⟨rfl, rfl⟩
theorem swpS_ok {R C i j : Nat} {s : LL} (h : Ok2 R C s) (hi : i < R) (hj : j < R) : Ok2 R C (swpS R C i j s) :=
  ⟨swpT_length _ _ _ _ _, swpT_length _ _ _ _ _, swpT_num h.l1 hi hj h.n1, swpT_num h.l2 hi hj h.n2⟩
theorem negS_ok {R C i : Nat} {s : LL} (h : Ok2 R C s) (hi : i < R) : Ok2 R C (negS R C i s) :=
  ⟨negT_length _ _ _ _, negT_length _ _ _ _, negT_num h.l1 hi h.n1, negT_num h.l2 hi h.n2⟩
/-- the reference's lists x stand for the state s -/
structure Mks (R C : Nat) (x : LL) : Prop where
  l1 : x.1.length = R * C
  l2 : x.2.length = R * R
  m1 : mkd x.1
  m2 : mkd x.2
def Stands (R C : Nat) (s : Option LL) (x : LL) : Prop := Mks R C x ∧ s = two x.1 x.2
theorem Ok2.mks {R C : Nat} {s : LL} (h : Ok2 R C s) : Mks R C s := ⟨h.l1, h.l2, mkd_of h.n1, mkd_of h.n2⟩
theorem Ok2.two {R C : Nat} {s : LL} (h : Ok2 R C s) : Proofs.YtbfkpfdkndnhkaaGreat.two s.1 s.2 = some s := by unfold Proofs.YtbfkpfdkndnhkaaGreat.two; rw [h.n1, h.n2]; rfl
theorem Ok2.stands {R C : Nat} {s : LL} (h : Ok2 R C s) : Stands R C (some s) s := ⟨h.mks, h.two.symm⟩
theorem Stands.some_eq {R C : Nat} {s x : LL} (h : Stands R C (some s) x) : x = s ∧ Ok2 R C s := by
  obtain ⟨e, h1, h2⟩ := two_some h.2.symm
  obtain rfl : s = x := e
  exact ⟨rfl, h.1.l1, h.1.l2, h1, h2⟩
theorem two_none {a u : List Int} (h : two a u = none) : allNum a = false ∨ allNum u = false := by
  unfold two at h
  cases h1 : allNum a
  · exact .inl rfl
  · cases h2 : allNum u
    · exact .inr rfl
    · rw [h1, h2] at h; cases h
theorem none_two {a u : List Int} (h : allNum a = false ∨ allNum u = false) : two a u = none := by
  unfold two
  rcases h with h | h <;> simp [h]
theorem Mks.add {R C i j : Nat} {t : Int} {x : LL} (h : Mks R C x) : Mks R C (addT R C i j t x.1, addT R R i j t x.2) :=
  ⟨addT_length _ _ _ _ _ _, addT_length _ _ _ _ _ _, addT_mkd h.l1 h.m1, addT_mkd h.l2 h.m2⟩
theorem Stands.add {R C i j : Nat} {t : Int} {s : Option LL} {x : LL} (h : Stands R C s x) : Stands R C (s.bind (addS R C i j t)) (addT R C i j t x.1, addT R R i j t x.2) := by
  refine ⟨h.1.add, ?_⟩
  cases s with
  | some s => obtain ⟨rfl, _⟩ := h.some_eq; rfl
  | none =>
    refine (none_two ?_).symm
    rcases two_none h.2.symm with e | e
    · exact .inl (addT_stay h.1.l1 h.1.m1 e)
    · exact .inr (addT_stay h.1.l2 h.1.m2 e)
/-- a none stays, whatever is added -/
theorem Stands.add_none {R C i j : Nat} {t : Int} {x : LL} (h : Stands R C none x) : Stands R C none (addT R C i j t x.1, addT R R i j t x.2) := h.add (s := none)
theorem Stands.swp {R C i j : Nat} {s : Option LL} {x : LL} (h : Stands R C s x) (hi : i < R) (hj : j < R) : Stands R C (s.map (swpS R C i j)) (swpT R C i j x.1, swpT R R i j x.2) := by
  refine ⟨⟨swpT_length _ _ _ _ _, swpT_length _ _ _ _ _, swpT_mkd h.1.l1 h.1.m1 hi hj, swpT_mkd h.1.l2 h.1.m2 hi hj⟩, ?_⟩
  cases s with
  | some s => obtain ⟨rfl, ok⟩ := h.some_eq; exact (swpS_ok ok hi hj).two.symm
  | none =>
    refine (none_two ?_).symm
    rcases two_none h.2.symm with e | e
    · exact .inl (swpT_stay h.1.l1 h.1.m1 hi hj e)
    · exact .inr (swpT_stay h.1.l2 h.1.m2 hi hj e)
theorem Stands.neg {R C i : Nat} {s : Option LL} {x : LL} (h : Stands R C s x) (hi : i < R) : Stands R C (s.map (negS R C i)) (negT R C i x.1, negT R R i x.2) := by
  refine ⟨⟨negT_length _ _ _ _, negT_length _ _ _ _, negT_mkd h.1.l1 h.1.m1, negT_mkd h.1.l2 h.1.m2⟩, ?_⟩
  cases s with
  | some s => obtain ⟨rfl, ok⟩ := h.some_eq; exact (negS_ok ok hi).two.symm
  | none =>
    refine (none_two ?_).symm
    rcases two_none h.2.symm with e | e
    · exact .inl (negT_stay h.1.l1 h.1.m1 e)
    · exact .inr (negT_stay h.1.l2 h.1.m2 e)
end Go.Proofs.YtbfkpfdkndnhkaaGreat

/- The Hermite form: the algorithm, and what is known of its result. -/
namespace Go.Proofs.YtbfkpfdkndnhkaaGreat
set_option linter.unusedSimpArgs false
set_option linter.unusedVariables false

/-! ### the first of the least cells of a column -/
def leastF (C t j : Nat) (a : List Int) : Nat → Option Nat
  | 0 => none
  | k + 1 =>
    if nth a ((t + k) * C + j) = 0 then leastF C t j a k
    else match leastF C t j a k with
      | none => some (t + k)
      | some b => if absI (nth a ((t + k) * C + j)) < absI (nth a (b * C + j)) then some (t + k) else some b
def least (R C t j : Nat) (a : List Int) : Option Nat := leastF C t j a (R - t)
theorem leastF_none {C t j : Nat} {a : List Int} {k : Nat} (h : leastF C t j a k = none) : ∀ i, t ≤ i → i < t + k → nth a (i * C + j) = 0 := by
  induction k with
  | zero => intro i h1 h2; omega
  | succ k ih =>
    rw [leastF] at h
    split at h
    · rename_i hz
      intro i h1 h2
      by_cases e : i = t + k
      · rw [e, hz]
      · exact ih h i h1 (by omega)
    · split at h
      · cases h
      · split at h <;> cases h
theorem leastF_some {C t j : Nat} {a : List Int} {k p : Nat} (h : leastF C t j a k = some p) : t ≤ p ∧ p < t + k ∧ nth a (p * C + j) ≠ 0 ∧ ∀ i, t ≤ i → i < t + k → nth a (i * C + j) ≠ 0 → absI (nth a (p * C + j)) ≤ absI (nth a (i * C + j)) := by
  induction k generalizing p with
  | zero => cases h
  | succ k ih =>
    rw [leastF] at h
    split at h
    · rename_i hz
      obtain ⟨h1, h2, h3, h4⟩ := ih h
      refine ⟨h1, by omega, h3, fun i hi hi2 hne => ?_⟩
      by_cases e : i = t + k
      · rw [e] at hne; exact absurd hz hne
      · exact h4 i hi (by omega) hne
    · rename_i hz
      split at h
      · rename_i hn
        cases h
        refine ⟨by omega, by omega, hz, fun i hi hi2 hne => ?_⟩
        by_cases e : i = t + k
        · rw [e]; exact Int.le_refl _
        · exact absurd (leastF_none hn i hi (by omega)) hne
      · rename_i b hb
        obtain ⟨h1, h2, h3, h4⟩ := ih hb
        split at h
        · rename_i hlt
          cases h
          refine ⟨by omega, by omega, hz, fun i hi hi2 hne => ?_⟩
          by_cases e : i = t + k
          · rw [e]; exact Int.le_refl _
          · have := h4 i hi (by omega) hne; omega
        · rename_i hlt
          cases h
          refine ⟨h1, by omega, h3, fun i hi hi2 hne => ?_⟩
          by_cases e : i = t + k
          · rw [e]; omega
          · exact h4 i hi (by omega) hne
theorem least_none {R C t j : Nat} {a : List Int} (h : least R C t j a = none) : ∀ i, t ≤ i → i < R → nth a (i * C + j) = 0 := fun i h1 h2 => leastF_none h i h1 (by omega)
theorem least_some {R C t j : Nat} {a : List Int} {p : Nat} (h : least R C t j a = some p) : t ≤ p ∧ p < R ∧ nth a (p * C + j) ≠ 0 ∧ ∀ i, t ≤ i → i < R → nth a (i * C + j) ≠ 0 → absI (nth a (p * C + j)) ≤ absI (nth a (i * C + j)) := by
  obtain ⟨h1, h2, h3, h4⟩ := leastF_some h
  exact ⟨h1, by omega, h3, fun i hi hi2 => h4 i hi (by omega)⟩

/-! ### is another cell of the column not 0? -/
def othB (R C t j p : Nat) (a : List Int) : Bool := (List.range R).any fun i => decide (t ≤ i) && (i != p) && (nth a (i * C + j) != 0)
theorem othB_iff (R C t j p : Nat) (a : List Int) : othB R C t j p a = true ↔ ∃ i, t ≤ i ∧ i < R ∧ i ≠ p ∧ nth a (i * C + j) ≠ 0 := by
  unfold othB
  simp only [List.any_eq_true, List.mem_range, Bool.and_eq_true, decide_eq_true_eq, bne_iff_ne]
  constructor
  · rintro ⟨i, h1, ⟨h2, h3⟩, h4⟩; exact ⟨i, h2, h1, h3, h4⟩
  · rintro ⟨i, h2, h1, h3, h4⟩; exact ⟨i, h1, ⟨h2, h3⟩, h4⟩
theorem othB_no {R C t j p : Nat} {a : List Int} (h : ∀ i, t ≤ i → i < R → i ≠ p → nth a (i * C + j) = 0) : othB R C t j p a = false := by
  cases e : othB R C t j p a
  · rfl
  · obtain ⟨i, h1, h2, h3, h4⟩ := (othB_iff _ _ _ _ _ _).1 e; exact absurd (h i h1 h2 h3) h4

/-! ### one pass -/
def elimF (R C t j p : Nat) (s : LL) : Nat → Option LL
  | 0 => some s
  | k + 1 => (elimF R C t j p s k).bind fun s => if t + k = p ∨ nth s.1 ((t + k) * C + j) = 0 then some s else addS R C (t + k) p (-(nth s.1 ((t + k) * C + j) / nth s.1 (p * C + j))) s
structure EI (R C t j p k : Nat) (s s' : LL) : Prop where
  ok : Ok2 R C s'
  same : ∀ r b, r < R → b < C → (r < t ∨ t + k ≤ r ∨ r = p) → nth s'.1 (r * C + b) = nth s.1 (r * C + b)
  red : ∀ r, t ≤ r → r < t + k → r ≠ p → 0 ≤ nth s'.1 (r * C + j) ∧ nth s'.1 (r * C + j) < absI (nth s.1 (p * C + j))
  zero : ∀ b, b < C → (∀ r, t ≤ r → r < R → nth s.1 (r * C + b) = 0) → ∀ r, t ≤ r → r < R → nth s'.1 (r * C + b) = 0
theorem absI_natAbs (x : Int) : absI x = (x.natAbs : Int) := by unfold absI; split <;> omega
theorem red_step (x y : Int) (h : y ≠ 0) : 0 ≤ x + y * (-(x / y)) ∧ x + y * (-(x / y)) < absI y := by
  have e : x + y * (-(x / y)) = x % y := by rw [Int.emod_def, Int.mul_neg]; omega
  rw [e, absI_natAbs]
  exact ⟨Int.emod_nonneg _ h, Int.emod_lt x h⟩
theorem elimF_EI {R C t j p : Nat} {s : LL} (hs : Ok2 R C s) (hp : t ≤ p) (hpR : p < R) (hj : j < C) (hne : nth s.1 (p * C + j) ≠ 0) {k : Nat} (hk : t + k ≤ R) {s' : LL} (h : elimF R C t j p s k = some s') : EI R C t j p k s s' := by
  induction k generalizing s' with
  | zero => cases h; exact ⟨hs, fun _ _ _ _ _ => rfl, fun r h1 h2 => by omega, fun _ _ hz => hz⟩
  | succ k ih =>
    rw [elimF] at h
    obtain ⟨q, h1, h2⟩ := Option.bind_eq_some_iff.1 h
    have E := ih (by omega) h1
    have epv := E.same p j hpR hj (.inr (.inr rfl))
    split at h2
    · rename_i hc
      cases h2
      refine ⟨E.ok, fun r b hr hb hh => E.same r b hr hb (by omega), fun r h3 h4 h5 => ?_, E.zero⟩
      by_cases e : r = t + k
      · subst e
        rcases hc with hc | hc
        · exact absurd hc h5
        · rw [hc, absI_natAbs]
          exact ⟨Int.le_refl _, by omega⟩
      · exact E.red r h3 (by omega) h5
    · rename_i hc
      obtain ⟨e1, e2⟩ := addS_fst h2
      have ok := addS_ok h2
      have hkp : t + k ≠ p := fun e => hc (.inl e)
      have hna := ok.n1
      rw [e1] at hna
      refine ⟨ok, fun r b hr hb hh => ?_, fun r h3 h4 h5 => ?_, fun b hb hz r h3 h4 => ?_⟩
      · rw [e1, addT_other hr hb (by omega)]
        exact E.same r b hr hb (by omega)
      · rw [e1]
        by_cases e : r = t + k
        · subst e
          rw [addT_same (by omega) hj hna, epv]
          exact red_step _ _ hne
        · rw [addT_other (by omega) hj e]; exact E.red r h3 (by omega) h5
      · have hz' := E.zero b hb hz
        rw [e1]
        by_cases e : r = t + k
        · subst e
          rw [addT_same (by omega) hb hna, hz' _ h3 h4, hz' _ hp hpR]; simp
        · rw [addT_other h4 hb e]; exact hz' r h3 h4

/-! ### passes until the cell is alone -/
def redF (R C t j : Nat) : Nat → LL → Nat → Option (LL × Nat)
  | 0, _, _ => none
  | f + 1, s, p => if othB R C t j p s.1 then (elimF R C t j p s (R - t)).bind fun s' => match least R C t j s'.1 with
      | some p' => redF R C t j f s' p'
      | none => none
    else some (s, p)
def mu (R C t j p : Nat) (a : List Int) : Nat := (nth a (p * C + j)).natAbs + if othB R C t j p a then 1 else 0
/-- p is a least cell -/
structure Lst (R C t j p : Nat) (a : List Int) : Prop where
  lo : t ≤ p
  hi : p < R
  ne : nth a (p * C + j) ≠ 0
  le : ∀ i, t ≤ i → i < R → nth a (i * C + j) ≠ 0 → absI (nth a (p * C + j)) ≤ absI (nth a (i * C + j))
theorem Lst.of {R C t j p : Nat} {a : List Int} (h : least R C t j a = some p) : Lst R C t j p a := let ⟨h1, h2, h3, h4⟩ := least_some h; ⟨h1, h2, h3, h4⟩
theorem elim_least {R C t j p : Nat} {s s' : LL} (hs : Ok2 R C s) (hl : Lst R C t j p s.1) (hj : j < C) (h : elimF R C t j p s (R - t) = some s') : ∃ p', least R C t j s'.1 = some p' := by
  have E := elimF_EI hs hl.lo hl.hi hj hl.ne (by have := hl.lo; have := hl.hi; omega) h
  cases hq : least R C t j s'.1 with
  | some p' => exact ⟨p', rfl⟩
  | none =>
    have := least_none hq p hl.lo hl.hi
    rw [E.same p j hl.hi hj (.inr (.inr rfl))] at this
    exact absurd this hl.ne
theorem mu_less {R C t j p p' : Nat} {s s' : LL} (hs : Ok2 R C s) (hl : Lst R C t j p s.1) (hj : j < C) (ho : othB R C t j p s.1 = true) (h : elimF R C t j p s (R - t) = some s') (hp' : least R C t j s'.1 = some p') : mu R C t j p' s'.1 < mu R C t j p s.1 := by
  have E := elimF_EI hs hl.lo hl.hi hj hl.ne (by have := hl.lo; have := hl.hi; omega) h
  have L := Lst.of hp'
  have epv := E.same p j hl.hi hj (.inr (.inr rfl))
  have hle := L.le p hl.lo hl.hi (by rw [epv]; exact hl.ne)
  rw [epv, absI_natAbs, absI_natAbs] at hle
  unfold mu
  rw [ho, if_pos rfl]
  cases h' : othB R C t j p' s'.1
  · simp; omega
  · simp only [if_true]
    -- another cell is not 0: it is less than the old least one
    obtain ⟨i, h1, h2, h3, h4⟩ := (othB_iff _ _ _ _ _ _).1 h'
    have key : (nth s'.1 (p' * C + j)).natAbs < (nth s.1 (p * C + j)).natAbs := by
      by_cases e : p' = p
      · -- then the other cell i is reduced, and not less than the least one
        subst e
        have hr := E.red i h1 (by omega) h3
        have := L.le i h1 h2 h4
        rw [epv] at this
        rw [absI_natAbs] at this hr
        rw [absI_natAbs] at this
        omega
      · have hr := E.red p' L.lo (by have := L.hi; omega) e
        rw [absI_natAbs] at hr
        omega
    omega
theorem redF_fuel {R C t j : Nat} (hj : j < C) (m : Nat) : ∀ (s : LL) (p : Nat) (f f' : Nat), Ok2 R C s → Lst R C t j p s.1 → mu R C t j p s.1 ≤ m → mu R C t j p s.1 < f → mu R C t j p s.1 < f' → redF R C t j f s p = redF R C t j f' s p := by
  induction m with
  | zero =>
    intro s p f f' hs hl hm _ _
    have : (nth s.1 (p * C + j)).natAbs ≠ 0 := by have := hl.ne; omega
    unfold mu at hm; omega
  | succ m ih =>
    intro s p f f' hs hl hm hf hf'
    obtain ⟨f, rfl⟩ : ∃ x, f = x + 1 := ⟨f - 1, by omega⟩
    obtain ⟨f', rfl⟩ : ∃ x, f' = x + 1 := ⟨f' - 1, by omega⟩
    rw [redF, redF]
    cases ho : othB R C t j p s.1
    · rfl
    · simp only [if_true]
      cases he : elimF R C t j p s (R - t) with
      | none => rfl
      | some s' =>
        simp only [Option.bind_some]
        obtain ⟨p', hp'⟩ := elim_least hs hl hj he
        have hmu := mu_less hs hl hj ho he hp'
        have E := elimF_EI hs hl.lo hl.hi hj hl.ne (by have := hl.lo; have := hl.hi; omega) he
        rw [hp']
        exact ih s' p' f f' E.ok (Lst.of hp') (by omega) (by omega) (by omega)
def redM (R C t j : Nat) (s : LL) (p : Nat) : Option (LL × Nat) := redF R C t j (mu R C t j p s.1 + 1) s p
theorem redM_end {R C t j p : Nat} {s : LL} (ho : othB R C t j p s.1 = false) : redM R C t j s p = some (s, p) := by
  unfold redM; rw [redF, ho]; rfl
theorem redM_fail {R C t j p : Nat} {s : LL} (ho : othB R C t j p s.1 = true) (he : elimF R C t j p s (R - t) = none) : redM R C t j s p = none := by
  unfold redM; rw [redF, ho, he]; rfl
theorem redM_next {R C t j p p' : Nat} {s s' : LL} (hs : Ok2 R C s) (hl : Lst R C t j p s.1) (hj : j < C) (ho : othB R C t j p s.1 = true) (he : elimF R C t j p s (R - t) = some s') (hp' : least R C t j s'.1 = some p') : redM R C t j s p = redM R C t j s' p' := by
  have hmu := mu_less hs hl hj ho he hp'
  have E := elimF_EI hs hl.lo hl.hi hj hl.ne (by have := hl.lo; have := hl.hi; omega) he
  unfold redM
  rw [redF, ho, he]
  simp only [if_true, Option.bind_some]
  rw [hp']
  exact redF_fuel hj _ s' p' _ _ E.ok (Lst.of hp') (Nat.le_refl _) (by omega) (by omega)
/-- what is left behind the passes -/
structure RI (R C t j p : Nat) (s s' : LL) : Prop where
  ok : Ok2 R C s'
  lst : Lst R C t j p s'.1
  alone : ∀ i, t ≤ i → i < R → i ≠ p → nth s'.1 (i * C + j) = 0
  above : ∀ r b, r < t → b < C → nth s'.1 (r * C + b) = nth s.1 (r * C + b)
  zero : ∀ b, b < C → (∀ r, t ≤ r → r < R → nth s.1 (r * C + b) = 0) → ∀ r, t ≤ r → r < R → nth s'.1 (r * C + b) = 0
theorem redF_RI {R C t j : Nat} (hj : j < C) (f : Nat) : ∀ (s : LL) (p : Nat) (s' : LL) (p' : Nat), Ok2 R C s → Lst R C t j p s.1 → redF R C t j f s p = some (s', p') → RI R C t j p' s s' := by
  induction f with
  | zero => intro s p s' p' _ _ h; cases h
  | succ f ih =>
    intro s p s' p' hs hl h
    rw [redF] at h
    split at h
    · obtain ⟨q, h1, h2⟩ := Option.bind_eq_some_iff.1 h
      have E := elimF_EI hs hl.lo hl.hi hj hl.ne (by have := hl.lo; have := hl.hi; omega) h1
      split at h2
      · rename_i p2 hp2
        have I := ih q p2 s' p' E.ok (Lst.of hp2) h2
        refine ⟨I.ok, I.lst, I.alone, fun r b hr hb => ?_, fun b hb hz => I.zero b hb (E.zero b hb hz)⟩
        rw [I.above r b hr hb]; exact E.same r b (by have := hl.lo; have := hl.hi; omega) hb (.inl hr)
      · cases h2
    · rename_i ho
      cases h
      exact ⟨hs, hl, fun i h1 h2 h3 => by
        refine Classical.byContradiction fun hn => ho ?_
        exact (othB_iff _ _ _ _ _ _).2 ⟨i, h1, h2, h3, hn⟩, fun _ _ _ _ => rfl, fun _ _ hz => hz⟩
end Go.Proofs.YtbfkpfdkndnhkaaGreat

/- The Hermite form: columns; the rows of zeros come last. -/
namespace Go.Proofs.YtbfkpfdkndnhkaaGreat
set_option linter.unusedSimpArgs false
set_option linter.unusedVariables false

/-! ### the rows above -/
def upF (R C t j : Nat) (s : LL) : Nat → Option LL
  | 0 => some s
  | k + 1 => (upF R C t j s k).bind fun s => addS R C k t (-(nth s.1 (k * C + j) / nth s.1 (t * C + j))) s
structure UI (R C t j k : Nat) (s s' : LL) : Prop where
  ok : Ok2 R C s'
  same : ∀ r b, r < R → b < C → k ≤ r → nth s'.1 (r * C + b) = nth s.1 (r * C + b)
  keep : ∀ b, b < C → nth s.1 (t * C + b) = 0 → ∀ r, r < R → nth s'.1 (r * C + b) = nth s.1 (r * C + b)
  red : ∀ r, r < k → 0 ≤ nth s'.1 (r * C + j) ∧ nth s'.1 (r * C + j) < absI (nth s.1 (t * C + j))
theorem upF_UI {R C t j : Nat} {s : LL} (hs : Ok2 R C s) (ht : t < R) (hj : j < C) (hne : nth s.1 (t * C + j) ≠ 0) {k : Nat} (hk : k ≤ t) {s' : LL} (h : upF R C t j s k = some s') : UI R C t j k s s' := by
  induction k generalizing s' with
  | zero => cases h; exact ⟨hs, fun _ _ _ _ _ => rfl, fun _ _ _ _ _ => rfl, fun r h => by omega⟩
  | succ k ih =>
    rw [upF] at h
    obtain ⟨q, h1, h2⟩ := Option.bind_eq_some_iff.1 h
    have U := ih (by omega) h1
    obtain ⟨e1, e2⟩ := addS_fst h2
    have ok := addS_ok h2
    have hna := ok.n1
    rw [e1] at hna
    have ept := U.same t j ht hj (by omega)
    refine ⟨ok, fun r b hr hb hh => ?_, fun b hb hz r hr => ?_, fun r hr => ?_⟩
    · rw [e1, addT_other hr hb (by omega)]; exact U.same r b hr hb (by omega)
    · rw [e1]
      by_cases e : r = k
      · subst e
        rw [addT_same (by omega) hb hna, U.keep b hb hz _ (by omega), U.keep b hb hz t ht, hz]; simp
      · rw [addT_other hr hb e]; exact U.keep b hb hz r hr
    · rw [e1]
      by_cases e : r = k
      · subst e
        rw [addT_same (by omega) hj hna, ept]
        exact red_step _ _ hne
      · rw [addT_other (by omega) hj e]; exact U.red r (by omega)

/-! ### one column; all of them -/
def swapIf (R C p t : Nat) (s : LL) : LL := if p = t then s else swpS R C p t s
def negIf (R C t j : Nat) (s : LL) : LL := if nth s.1 (t * C + j) < 0 then negS R C t s else s
/-- t: the rows done so far -/
abbrev TS := Nat × LL
def colS (R C j : Nat) (x : TS) : Option TS :=
  if x.1 < R then match least R C x.1 j x.2.1 with
    | none => some x
    | some p => (redM R C x.1 j x.2 p).bind fun y => (upF R C x.1 j (negIf R C x.1 j (swapIf R C y.2 x.1 y.1)) x.1).map fun s => (x.1 + 1, s)
  else some x
def hermF (R C : Nat) (s : LL) : Nat → Option TS
  | 0 => some (0, s)
  | j + 1 => (hermF R C s j).bind (colS R C j)
def idL (R : Nat) : List Int := tab R R fun a b => if a = b then 1 else 0
theorem idL_length (R : Nat) : (idL R).length = R * R := tab_length _ _ _
theorem idL_num (R : Nat) : allNum (idL R) = true := (allNum_iff _).2 fun k hk => by
  rw [idL_length] at hk
  obtain ⟨h1, h2, h3⟩ := idx_split hk
  rw [h3]; unfold idL; rw [tab_nth _ h1 h2]; split <;> decide
def hermT (R C : Nat) (l : List Int) : Option TS := hermF R C (l, idL R) C
theorem hermF_none {R C : Nat} {s : LL} {j k : Nat} (h : hermF R C s j = none) (hk : j ≤ k) : hermF R C s k = none := by
  induction k with
  | zero => rw [show j = 0 by omega] at h; exact h
  | succ k ih =>
    by_cases e : j = k + 1
    · rw [← e]; exact h
    · rw [hermF, ih (by omega)]; rfl
/-- no column is left to do where all rows are done -/
theorem hermF_full {R C : Nat} {s : LL} {j k : Nat} {x : TS} (h : hermF R C s j = some x) (hx : ¬ x.1 < R) (hk : j ≤ k) : hermF R C s k = some x := by
  induction k with
  | zero => rw [show j = 0 by omega] at h; exact h
  | succ k ih =>
    by_cases e : j = k + 1
    · rw [← e]; exact h
    · rw [hermF, ih (by omega)]
      simp only [Option.bind_some, colS]
      rw [if_neg hx]

structure HI (R C j : Nat) (x : TS) : Prop where
  ok : Ok2 R C x.2
  tR : x.1 ≤ R
  full : ∀ i, i < x.1 → ∃ c, c < j ∧ nth x.2.1 (i * C + c) ≠ 0
  zero : ∀ r, x.1 ≤ r → r < R → ∀ c, c < j → nth x.2.1 (r * C + c) = 0
theorem swpT_cell {R C i j a b : Nat} {l : List Int} (ha : a < R) (hb : b < C) : nth (swpT R C i j l) (a * C + b) = if a = i then nth l (j * C + b) else if a = j then nth l (i * C + b) else nth l (a * C + b) := by
  unfold swpT; rw [tab_nth _ ha hb]
theorem negT_cell {R C i a b : Nat} {l : List Int} (hl : l.length = R * C) (hn : allNum l = true) (ha : a < R) (hb : b < C) : nth (negT R C i l) (a * C + b) = if a = i then - nth l (a * C + b) else nth l (a * C + b) := by
  unfold negT; rw [tab_nth _ ha hb]
  split
  · rename_i h; rw [← h]; exact mulB_neg ((allNum_iff _).1 hn _ (by rw [hl]; exact idx_lt ha hb))
  · rfl
theorem colS_HI {R C j : Nat} {x y : TS} (hj : j < C) (H : HI R C j x) (h : colS R C j x = some y) : HI R C (j + 1) y := by
  obtain ⟨t, s⟩ := x
  unfold colS at h
  simp only at h
  split at h
  · rename_i ht
    split at h
    · rename_i hn
      cases h
      refine ⟨H.ok, H.tR, fun i hi => ?_, fun r h1 h2 c hc => ?_⟩
      · obtain ⟨c, hc, e⟩ := H.full i hi; exact ⟨c, by omega, e⟩
      · by_cases e : c = j
        · rw [e]; exact least_none hn r h1 h2
        · exact H.zero r h1 h2 c (by omega)
    · rename_i p hp
      obtain ⟨⟨q, p'⟩, h1, h2⟩ := Option.bind_eq_some_iff.1 h
      obtain ⟨s3, h3, rfl⟩ := Option.map_eq_some_iff.1 h2
      simp only at h3 ⊢
      have I := redF_RI hj _ s p q p' H.ok (Lst.of hp) h1
      have hp'R := I.lst.hi
      -- behind the exchange
      have A : ∃ s1, s1 = swapIf R C p' t q ∧ Ok2 R C s1 ∧ nth s1.1 (t * C + j) ≠ 0 ∧ (∀ r, t < r → r < R → nth s1.1 (r * C + j) = 0) ∧ (∀ r b, r < t → b < C → nth s1.1 (r * C + b) = nth s.1 (r * C + b)) ∧ (∀ b, b < j → ∀ r, t ≤ r → r < R → nth s1.1 (r * C + b) = 0) := by
        refine ⟨_, rfl, ?_⟩
        have zq : ∀ b, b < j → ∀ r, t ≤ r → r < R → nth q.1 (r * C + b) = 0 := fun b hb => I.zero b (by omega) fun r h1 h2 => H.zero r h1 h2 b hb
        unfold swapIf
        by_cases e : p' = t
        · rw [if_pos e]
          subst e
          exact ⟨I.ok, I.lst.ne, fun r h1 h2 => I.alone r (by omega) h2 (by omega), I.above, zq⟩
        · rw [if_neg e]
          have hlo := I.lst.lo
          refine ⟨swpS_ok I.ok hp'R ht, ?_, fun r h1 h2 => ?_, fun r b hr hb => ?_, fun b hb r h1 h2 => ?_⟩
          · show nth (swpT R C p' t q.1) _ ≠ 0
            rw [swpT_cell ht hj, if_neg (Ne.symm e), if_pos rfl]; exact I.lst.ne
          · show nth (swpT R C p' t q.1) _ = 0
            rw [swpT_cell h2 hj]
            split
            · exact I.alone t (by omega) ht (Ne.symm e)
            · split
              · omega
              · rename_i h5 _; exact I.alone r (by omega) h2 h5
          · show nth (swpT R C p' t q.1) _ = _
            rw [swpT_cell (by omega) hb, if_neg (by omega), if_neg (by omega)]; exact I.above r b hr hb
          · show nth (swpT R C p' t q.1) _ = 0
            rw [swpT_cell h2 (by omega)]
            split
            · exact zq b hb t (by omega) ht
            · split
              · exact zq b hb p' hlo hp'R
              · exact zq b hb r h1 h2
      obtain ⟨s1, es1, ok1, ne1, col1, ab1, z1⟩ := A
      rw [← es1] at h3
      have B : ∃ s2, s2 = negIf R C t j s1 ∧ Ok2 R C s2 ∧ nth s2.1 (t * C + j) ≠ 0 ∧ (∀ r, t < r → r < R → nth s2.1 (r * C + j) = 0) ∧ (∀ r b, r < t → b < C → nth s2.1 (r * C + b) = nth s.1 (r * C + b)) ∧ (∀ b, b < j → ∀ r, t ≤ r → r < R → nth s2.1 (r * C + b) = 0) := by
        refine ⟨_, rfl, ?_⟩
        unfold negIf
        split
        · have cell : ∀ a b, a < R → b < C → nth (negS R C t s1).1 (a * C + b) = if a = t then - nth s1.1 (a * C + b) else nth s1.1 (a * C + b) := fun a b ha hb => negT_cell ok1.l1 ok1.n1 ha hb
          refine ⟨negS_ok ok1 ht, ?_, fun r h1 h2 => ?_, fun r b hr hb => ?_, fun b hb r h1 h2 => ?_⟩
          · rw [cell _ _ ht hj, if_pos rfl]; omega
          · rw [cell _ _ h2 hj, if_neg (by omega)]; exact col1 r h1 h2
          · rw [cell _ _ (by omega) hb, if_neg (by omega)]; exact ab1 r b hr hb
          · rw [cell _ _ h2 (by omega), z1 b hb r h1 h2]; simp
        · exact ⟨ok1, ne1, col1, ab1, z1⟩
      obtain ⟨s2, es2, ok2, ne2, col2, ab2, z2⟩ := B
      rw [← es2] at h3
      have U := upF_UI ok2 ht hj ne2 (Nat.le_refl t) h3
      refine ⟨U.ok, by omega, fun i hi => ?_, fun r h4 h5 c hc => ?_⟩
      · by_cases e : i = t
        · subst e; exact ⟨j, by omega, by rw [U.same i j ht hj (Nat.le_refl _)]; exact ne2⟩
        · obtain ⟨c, hc, hne⟩ := H.full i (show i < t by have : i < t + 1 := hi; omega)
          refine ⟨c, by omega, ?_⟩
          show nth s3.1 _ ≠ 0
          rw [U.keep c (by omega) (z2 c hc t (Nat.le_refl _) ht) i (by have : i < t + 1 := hi; omega), ab2 i c (by have : i < t + 1 := hi; omega) (by omega)]
          exact hne
      · have h4' : t < r := h4
        show nth s3.1 _ = 0
        rw [U.same r c h5 (by omega) (by omega)]
        by_cases e : c = j
        · subst e; exact col2 r h4' h5
        · exact z2 c (by omega) r (by omega) h5
  · rename_i ht
    cases h
    refine ⟨H.ok, H.tR, fun i hi => ?_, fun r h1 h2 c hc => ?_⟩
    · obtain ⟨c, hc, e⟩ := H.full i hi; exact ⟨c, by omega, e⟩
    · exact absurd (Nat.lt_of_le_of_lt h1 h2) ht
theorem hermF_HI {R C : Nat} {s : LL} (hs : Ok2 R C s) {j : Nat} (hj : j ≤ C) {x : TS} (h : hermF R C s j = some x) : HI R C j x := by
  induction j generalizing x with
  | zero => cases h; exact ⟨hs, Nat.zero_le _, fun i hi => absurd hi (Nat.not_lt_zero _), fun _ _ _ c hc => by omega⟩
  | succ j ih =>
    rw [hermF] at h
    obtain ⟨y, h1, h2⟩ := Option.bind_eq_some_iff.1 h
    exact colS_HI (by omega) (ih (by omega) h1) h2
end Go.Proofs.YtbfkpfdkndnhkaaGreat

/- Contracts: the reference's operation on the rows of a matrix. -/
namespace Go.Proofs.YtbfkpfdkndnhkaaGreat
set_option linter.unusedSimpArgs false
set_option linter.unusedVariables false
open Go.RowKit

/-! ### plain: column by column -/
/-- the columns before J are as f says, the others as in l -/
def ColD (R C : Nat) (f : Nat → Nat → Int) (l : List Int) (J : Nat) (m : List Int) : Prop := m.length = R * C ∧ ∀ a b, a < R → b < C → nth m (a * C + b) = if b < J then f a b else nth l (a * C + b)
theorem ColD.zero {R C : Nat} {f : Nat → Nat → Int} {l : List Int} (hl : l.length = R * C) : ColD R C f l 0 l := ⟨hl, fun a b _ _ => by simp⟩
theorem ColD.cell {R C : Nat} {f : Nat → Nat → Int} {l m : List Int} {J a : Nat} (h : ColD R C f l J m) (ha : a < R) (hJ : J < C) : nth m (a * C + J) = nth l (a * C + J) := by
  rw [h.2 a J ha hJ, if_neg (by omega)]
theorem ColD.set2 {R C : Nat} {f : Nat → Nat → Int} {l m : List Int} {J i j : Nat} (h : ColD R C f l J m) (hi : i < R) (hj : j < R) (hJ : J < C) (ho : ∀ a, a < R → a ≠ i → a ≠ j → f a J = nth l (a * C + J)) :
    ColD R C f l (J + 1) ((m.set (i * C + J) (f i J)).set (j * C + J) (f j J)) := by
  refine ⟨by rw [List.length_set, List.length_set]; exact h.1, fun a b ha hb => ?_⟩
  rw [nth_set _ _ _ _ (by rw [List.length_set, h.1]; exact idx_lt hj hJ), nth_set _ _ _ _ (by rw [h.1]; exact idx_lt hi hJ)]
  by_cases e1 : a * C + b = j * C + J
  · obtain ⟨rfl, rfl⟩ := idx_inj hb hJ e1
    rw [if_pos rfl, if_pos (by omega)]
  · rw [if_neg e1]
    by_cases e2 : a * C + b = i * C + J
    · obtain ⟨rfl, rfl⟩ := idx_inj hb hJ e2
      rw [if_pos rfl, if_pos (by omega)]
    · rw [if_neg e2, h.2 a b ha hb]
      by_cases e3 : b = J
      · subst e3
        rw [if_neg (by omega), if_pos (by omega), ho a ha (fun e => e2 (by rw [e])) (fun e => e1 (by rw [e]))]
      · by_cases e4 : b < J
        · rw [if_pos e4, if_pos (by omega)]
        · rw [if_neg e4, if_neg (by omega)]
theorem ColD.set1 {R C : Nat} {f : Nat → Nat → Int} {l m : List Int} {J i : Nat} (h : ColD R C f l J m) (hi : i < R) (hJ : J < C) (ho : ∀ a, a < R → a ≠ i → f a J = nth l (a * C + J)) :
    ColD R C f l (J + 1) (m.set (i * C + J) (f i J)) := by
  have := h.set2 hi hi hJ (fun a h1 h2 _ => ho a h1 h2)
  rwa [List.set_set] at this
theorem ColD.all {R C : Nat} {f : Nat → Nat → Int} {l m : List Int} (h : ColD R C f l C m) : m = tab R C f := tab_ext h.1 fun a b ha hb => by rw [h.2 a b ha hb, if_pos hb]

theorem Own.put {w : World} {B g n cap : Nat} {l : List Int} (h : Own w B (.slice (some ⟨g, 0, none⟩) n cap) l) (hn : l.length = n) (i : Nat) (x : Int) :
    Own (w.setCell ⟨g, i, none⟩ (.int .i64 x)) B (.slice (some ⟨g, 0, none⟩) n cap) (l.set i x) := by
  subst hn; exact h.set _ _
def addFn (C i j : Nat) (t : Int) (l : List Int) : Nat → Nat → Int := fun a b => if a = i then addB (nth l (i * C + b)) (mulB (nth l (j * C + b)) t) else nth l (a * C + b)
def swpFn (C i j : Nat) (l : List Int) : Nat → Nat → Int := fun a b => if a = i then nth l (j * C + b) else if a = j then nth l (i * C + b) else nth l (a * C + b)
def negFn (C i : Nat) (l : List Int) : Nat → Nat → Int := fun a b => if a = i then mulB (nth l (i * C + b)) (-1) else nth l (a * C + b)
theorem addFn_other {C i j a b : Nat} {t : Int} {l : List Int} (h : a ≠ i) : addFn C i j t l a b = nth l (a * C + b) := by unfold addFn; rw [if_neg h]
theorem addFn_same {C i j b : Nat} {t : Int} {l : List Int} : addFn C i j t l i b = addB (nth l (i * C + b)) (mulB (nth l (j * C + b)) t) := by unfold addFn; rw [if_pos rfl]
theorem negFn_other {C i a b : Nat} {l : List Int} (h : a ≠ i) : negFn C i l a b = nth l (a * C + b) := by unfold negFn; rw [if_neg h]
theorem negFn_same {C i b : Nat} {l : List Int} : negFn C i l i b = mulB (nth l (i * C + b)) (-1) := by unfold negFn; rw [if_pos rfl]
theorem swpFn_other {C i j a b : Nat} {l : List Int} (h : a ≠ i) (h2 : a ≠ j) : swpFn C i j l a b = nth l (a * C + b) := by unfold swpFn; rw [if_neg h, if_neg h2]
theorem swpFn_i {C i j b : Nat} {l : List Int} : swpFn C i j l i b = nth l (j * C + b) := by unfold swpFn; rw [if_pos rfl]
theorem swpFn_j {C i j b : Nat} {l : List Int} : swpFn C i j l j b = nth l (i * C + b) := by
  unfold swpFn
  split
  · rename_i h; rw [h]
  · rw [if_pos rfl]
/-- a variable that holds an operation -/
structure OBox (w : World) (b : Nat) (k i j t : Int) : Prop where
  lt : b < w.heap.size
  c0 : w.cell? ⟨b, 0, none⟩ = some (.int .i64 k)
  c1 : w.cell? ⟨b, 1, none⟩ = some (.int .i64 i)
  c2 : w.cell? ⟨b, 2, none⟩ = some (.int .i64 j)
  c3 : w.cell? ⟨b, 3, none⟩ = some (.int .i64 t)
theorem OBox.cells {w : World} {b : Nat} {k i j t : Int} (h : OBox w b k i j t) : w.cell? ⟨b, 0, none⟩ = some (.int .i64 k) ∧ w.cell? ⟨b, 1, none⟩ = some (.int .i64 i) ∧ w.cell? ⟨b, 2, none⟩ = some (.int .i64 j) ∧ w.cell? ⟨b, 3, none⟩ = some (.int .i64 t) := ⟨h.c0, h.c1, h.c2, h.c3⟩
theorem OBox.new_ (w : World) (k i j t : Int) (ty : TypeId) {b : Nat} (hb : w.heap.size = b) : OBox (w.alloc (.cells #[.int .i64 k, .int .i64 i, .int .i64 j, .int .i64 t] ty)) b k i j t := by
  subst hb
  exact ⟨by simp, by simp [go_sem], by simp [go_sem], by simp [go_sem], by simp [go_sem]⟩
theorem OBox.grows {w w' : World} {b : Nat} {k i j t : Int} (h : OBox w b k i j t) (g : Grows w w') : OBox w' b k i j t :=
  ⟨Nat.lt_of_lt_of_le h.lt g.size, (g.cell (p := ⟨b, 0, none⟩) h.lt).trans h.c0, (g.cell (p := ⟨b, 1, none⟩) h.lt).trans h.c1, (g.cell (p := ⟨b, 2, none⟩) h.lt).trans h.c2, (g.cell (p := ⟨b, 3, none⟩) h.lt).trans h.c3⟩
theorem OBox.own {w w' : World} {b : Nat} {k i j t : Int} {v : Value} (h : OBox w b k i j t) (hg : w.grownBy w' v.ownBlock) (hne : ∀ g, v.ownBlock = some g → g ≠ b) : OBox w' b k i j t := by
  have hk := hg.block b h.lt (fun e => hne b e.symm rfl)
  exact ⟨Nat.lt_of_lt_of_le h.lt hg.size, (World.cell?_of_block hk).trans h.c0, (World.cell?_of_block hk).trans h.c1, (World.cell?_of_block hk).trans h.c2, (World.cell?_of_block hk).trans h.c3⟩
theorem OBox.ext {w : World} {b : Nat} {k i j t : Int} (h : OBox w b k i j t) :
    (∀ W, (Proofs.YtbfkpfdkndnhkaaGreat.ext w W).cell? ⟨b, 0, none⟩ = some (.int .i64 k)) ∧ (∀ W, (Proofs.YtbfkpfdkndnhkaaGreat.ext w W).cell? ⟨b, 1, none⟩ = some (.int .i64 i)) ∧ (∀ W, (Proofs.YtbfkpfdkndnhkaaGreat.ext w W).cell? ⟨b, 2, none⟩ = some (.int .i64 j)) ∧ (∀ W, (Proofs.YtbfkpfdkndnhkaaGreat.ext w W).cell? ⟨b, 3, none⟩ = some (.int .i64 t)) :=
  ⟨ext_is h.c0, ext_is h.c1, ext_is h.c2, ext_is h.c3⟩
theorem grown_left {w w1 w' : World} {v : Value} (h : w1.grownBy w' v.ownBlock) (g : Grows w w1) : w.grownBy w' v.ownBlock := only_left g h
theorem grown_right {w w1 w' : World} {r : Option Nat} (h : w.grownBy w1 r) (g : Grows w1 w') : w.grownBy w' r := only_right h g

/-- the boxes of a function with a matrix and an operation -/
theorem mat_op (w : World) (r c : Int) (u : Value) (k i j t : Int) :
    ∃ w1, w1 = (w.alloc (.cells #[.int .i64 r, .int .i64 c, u] 26)).alloc (.cells #[.int .i64 k, .int .i64 i, .int .i64 j, .int .i64 t] 118) ∧
      MBox w1 w.heap.size r c u ∧ OBox w1 (w.heap.size + 1) k i j t ∧ w1.heap.size = w.heap.size + 2 ∧ Grows w w1 :=
  ⟨_, rfl, (MBox.mk_ _ _ _ _ _).grows ((Below.refl _ _).alloc (Nat.le_refl _) _), OBox.new_ _ _ _ _ _ _ (by simp), by simp, by exact bel0⟩

section
set_option maxHeartbeats 2000000
set_option maxRecDepth 100000
theorem l5Add_c (R C : Nat) (A : Option Addr) (l : List Int) (n cap i j B : Nat) (t : Int) (w : World) (hn : l.length = n) (hl : n = R * C) (hR : R ≤ 24) (hC : C ≤ 24) (ho : Own w B (.slice A n cap) l) (hm : mkd l) (hi : i < R) (hj : j < R) (ht : isNum t = true) :
    Calls Tryz.prog 114 #[.agg #[.int .i64 R, .int .i64 C, .slice A n cap], .agg #[.int .i64 2, .int .i64 i, .int .i64 j, .int .i64 t]] w fun e w' => e = .returned (.tuple #[]) ∧ Own w' B (.slice A n cap) (addT R C i j t l) ∧ w.grownBy w' (Value.slice A n cap).ownBlock := by
  obtain ⟨w1, hw1, mb, ob, hs1, g01⟩ := mat_op w R C (.slice A n cap) 2 i j t
  have HW1 := Lib.hid hw1
  have HS1 := Lib.hid hs1
  have ho1 := ho.grows g01
  have hne : ∀ g, (Value.slice A n cap).ownBlock = some g → g < w.heap.size := fun g h => (World.ownsRow.lt ho g h).2
  have HNE := Lib.hid hne
  have HL := Lib.hid hl
  have HN := Lib.hid hn
  have HMK := Lib.hid fun a b ha hb => mkd_nth (R := R) (C := C) (a := a) (b := b) (hn.trans hl) hm ha hb
  have HT := Lib.hid ht
  have htb := (isNum_iff t).1 ht
  have hRC : R * C ≤ 576 := Nat.mul_le_mul hR hC
  have HI : ∀ a, a < R → a * C ≤ 576 := fun a ha => by have := Nat.mul_le_mul_right C (Nat.le_of_lt ha); omega
  have k1 := castMul i C; have k2 := castMulLe (HI i hi); have k3 := castMul j C; have k4 := castMulLe (HI j hj)
  have e1 := Lib.hid (ColD.zero (f := addFn C i j t l) (hn.trans hl))
  clear hw1 hs1 hl hn hm ht hne ho HI
  go_enter Tryz.func114, Tryz.ntmps114
  go_wp2_with fail
  rw [← HW1.out]
  go_loopw [4] (fun k wr => ∃ (J : Nat) (m : List Int), k = .int .i64 J ∧ J ≤ C ∧ ColD R C (addFn C i j t l) l J m ∧ Own wr B (.slice A n cap) m ∧ w1.grownBy wr (Value.slice A n cap).ownBlock) (fun k _ => C - (intOf k).toNat)
  case atStart => exact ⟨0, l, rfl, Nat.zero_le _, e1.out, ho1, World.grownBy.refl _ _⟩
  case round =>
    clear ho1
    obtain ⟨J, m, rfl, hJ, hd, ho, hg⟩ := hrel
    have mb2 := mb.own hg (fun g h => Nat.ne_of_lt (HNE.out g h))
    have ob2 := ob.own hg (fun g h => by have := HNE.out g h; omega)
    by_cases hlt : J < C
    · have hml := hd.1
      have hlen : R * C = n := HL.out.symm
      obtain ⟨g, cap', e, hgB, hgw⟩ := ho.form (by rw [hml]; have := idx_lt hi hlt; omega)
      simp only [Value.slice.injEq] at e
      obtain ⟨rfl, hnm, rfl⟩ := e
      clear hnm
      have hg2 : g < w.heap.size := HNE.out g (by simp [Value.ownBlock])
      have l1 := idx_lt hi hlt
      have l2 := idx_lt hj hlt
      have c1 := ho.cell (i * C + J) (by rw [hml]; exact l1)
      have c2 := ho.cell (j * C + J) (by rw [hml]; exact l2)
      have cf := ho.free (i * C + J)
      rw [hd.cell hi hlt] at c1
      rw [hd.cell hj hlt] at c2
      have hnx := hd.set1 hi hlt (fun a ha hne => addFn_other hne)
      rw [addFn_same] at hnx
      have HNX := Lib.hid hnx
      have HMX := HMK.out i J hi hlt
      have HMY := HMK.out j J hj hlt
      have HML := Lib.hid (hml.trans hlen)
      have CM := Lib.hid fun W => l1Mul_c (nth l (j * C + J)) t W HMY (.inr HT.out)
      have CA := Lib.hid fun W => l1Add_c (nth l (i * C + J)) (mulB (nth l (j * C + J)) t) W HMX (mulB_or' _ _)
      have HD := Lib.hid hd
      have p1 := castPos i C J; have p2 := castLt (n := R * C) l1; have p3 := castPos j C J; have p4 := castLt (n := R * C) l2
      rw [hlen] at p2 p4
      have q1 : (J : Int) < (C : Int) := by omega
      have a1 := castIdx i C J
      have a2 := castIdx j C J
      clear hd hnx hml hlen l1 l2 HMX HMY
      obtain ⟨b0, b1, b2⟩ := mb2.cells
      obtain ⟨x0, x1, x2, x3⟩ := ob2.cells
      generalize mulB (nth l (j * C + J)) t = y at *
      generalize addB (nth l (i * C + J)) y = z at *
      generalize nth l (j * C + J) = y0 at *
      generalize nth l (i * C + J) = z0 at *
      go_wp2_with fail
      obtain ⟨d0, d1, d2⟩ := mb2.ext
      obtain ⟨f0, f1, f2, f3⟩ := ob2.ext
      ((refine wp_region_tail 16 (by kernel_rfl) (by kernel_rfl) ?_; simp only [List.take_succ_cons, List.take_zero, List.drop_succ_cons, List.drop_zero]); (repeat (go_big_quiet_step ((first | (go_at_call 50; with_reducible exact extS (CM.out _)) | (go_at_call 121; with_reducible exact extS (CA.out _)))))); refine wpQuiet_nil ?_; rintro w3 ⟨w30, hw30⟩; have g3 := grows_of_ext hw30; clear hw30 w30)
      have cf3 := (g3.frozen (p := ⟨g, i * C + J, none⟩) hgw).trans cf
      have c13 := (g3.cell (p := ⟨g, i * C + J, none⟩) hgw).trans c1
      clear d0 d1 d2 f0 f1 f2 f3 b0 b1 b2 x0 x1 x2 x3 c1 cf CM
      go_wp2_with fail
      go_round
      case rel => exact ⟨J + 1, _, by go_num, by omega, HNX.out, (ho.grows g3).put HML.out _ _, only_setCell (p := ⟨g, i * C + J, none⟩) (grown_right hg g3) rfl _⟩
      case measure => simp [intOf]; omega
    · obtain rfl : J = C := by omega
      obtain ⟨b0, b1, b2⟩ := mb2.cells
      go_wp2_with fail
      go_end0
      refine ⟨rfl, ?_, grown_left hg g01⟩
      have := hd.all
      subst this
      exact ho
theorem l5Swp_c (R C : Nat) (A : Option Addr) (l : List Int) (n cap i j B : Nat) (w : World) (hn : l.length = n) (hl : n = R * C) (hR : R ≤ 24) (hC : C ≤ 24) (ho : Own w B (.slice A n cap) l) (hi : i < R) (hj : j < R) (hij : i ≠ j) :
    Calls Tryz.prog 114 #[.agg #[.int .i64 R, .int .i64 C, .slice A n cap], .agg #[.int .i64 0, .int .i64 i, .int .i64 j, .int .i64 0]] w fun e w' => e = .returned (.tuple #[]) ∧ Own w' B (.slice A n cap) (swpT R C i j l) ∧ w.grownBy w' (Value.slice A n cap).ownBlock := by
  obtain ⟨w1, hw1, mb, ob, hs1, g01⟩ := mat_op w R C (.slice A n cap) 0 i j 0
  have HW1 := Lib.hid hw1
  have HS1 := Lib.hid hs1
  have ho1 := ho.grows g01
  have hne : ∀ g, (Value.slice A n cap).ownBlock = some g → g < w.heap.size := fun g h => (World.ownsRow.lt ho g h).2
  have HNE := Lib.hid hne
  have HL := Lib.hid hl
  have HN := Lib.hid hn
  have hRC : R * C ≤ 576 := Nat.mul_le_mul hR hC
  have HI : ∀ a, a < R → a * C ≤ 576 := fun a ha => by have := Nat.mul_le_mul_right C (Nat.le_of_lt ha); omega
  have k1 := castMul i C; have k2 := castMulLe (HI i hi); have k3 := castMul j C; have k4 := castMulLe (HI j hj)
  have e1 := Lib.hid (ColD.zero (f := swpFn C i j l) (hn.trans hl))
  clear hw1 hs1 hl hn hne ho HI
  go_enter Tryz.func114, Tryz.ntmps114
  go_wp2_with fail
  rw [← HW1.out]
  go_loopw [4] (fun k wr => ∃ (J : Nat) (m : List Int), k = .int .i64 J ∧ J ≤ C ∧ ColD R C (swpFn C i j l) l J m ∧ Own wr B (.slice A n cap) m ∧ w1.grownBy wr (Value.slice A n cap).ownBlock) (fun k _ => C - (intOf k).toNat)
  case atStart => exact ⟨0, l, rfl, Nat.zero_le _, e1.out, ho1, World.grownBy.refl _ _⟩
  case round =>
    clear ho1
    obtain ⟨J, m, rfl, hJ, hd, ho, hg⟩ := hrel
    have mb2 := mb.own hg (fun g h => Nat.ne_of_lt (HNE.out g h))
    have ob2 := ob.own hg (fun g h => by have := HNE.out g h; omega)
    by_cases hlt : J < C
    · have hml := hd.1
      have hlen : R * C = n := HL.out.symm
      obtain ⟨g, cap', e, hgB, hgw⟩ := ho.form (by rw [hml]; have := idx_lt hi hlt; omega)
      simp only [Value.slice.injEq] at e
      obtain ⟨rfl, hnm, rfl⟩ := e
      clear hnm
      have hg2 : g < w.heap.size := HNE.out g (by simp [Value.ownBlock])
      have l1 := idx_lt hi hlt
      have l2 := idx_lt hj hlt
      have c1 := ho.cell (i * C + J) (by rw [hml]; exact l1)
      have c2 := ho.cell (j * C + J) (by rw [hml]; exact l2)
      have cf := ho.free (i * C + J)
      rw [hd.cell hi hlt] at c1
      rw [hd.cell hj hlt] at c2
      have hnx := hd.set2 hi hj hlt (fun a ha h1 h2 => swpFn_other h1 h2)
      rw [swpFn_i, swpFn_j] at hnx
      have HNX := Lib.hid hnx
      have ho1 : ¬ (i * C + J = j * C + J) := fun e => hij (idx_inj hlt hlt e).1
      have ho2 : ¬ (j * C + J = i * C + J) := fun e => ho1 e.symm
      have cf2 := ho.free (j * C + J)
      have HML := Lib.hid (hml.trans hlen)
      have HD := Lib.hid hd
      have p1 := castPos i C J; have p2 := castLt (n := R * C) l1; have p3 := castPos j C J; have p4 := castLt (n := R * C) l2
      rw [hlen] at p2 p4
      have q1 : (J : Int) < (C : Int) := by omega
      have a1 := castIdx i C J
      have a2 := castIdx j C J
      clear hd hnx hml hlen l1 l2
      obtain ⟨b0, b1, b2⟩ := mb2.cells
      obtain ⟨x0, x1, x2, x3⟩ := ob2.cells
      generalize nth l (j * C + J) = y0 at *
      generalize nth l (i * C + J) = z0 at *
      go_wp2_with fail
      go_round
      case rel => exact ⟨J + 1, _, by go_num, by omega, HNX.out, (ho.put HML.out _ _).put (by rw [List.length_set]; exact HML.out) _ _, only_setCell (p := ⟨g, j * C + J, none⟩) (only_setCell (p := ⟨g, i * C + J, none⟩) hg rfl _) rfl _⟩
      case measure => simp [intOf]; omega
    · obtain rfl : J = C := by omega
      obtain ⟨b0, b1, b2⟩ := mb2.cells
      go_wp2_with fail
      go_end0
      refine ⟨rfl, ?_, grown_left hg g01⟩
      have := hd.all
      subst this
      exact ho
theorem l5Neg_c (R C : Nat) (A : Option Addr) (l : List Int) (n cap i B : Nat) (w : World) (hn : l.length = n) (hl : n = R * C) (hR : R ≤ 24) (hC : C ≤ 24) (ho : Own w B (.slice A n cap) l) (hm : mkd l) (hi : i < R) :
    Calls Tryz.prog 114 #[.agg #[.int .i64 R, .int .i64 C, .slice A n cap], .agg #[.int .i64 1, .int .i64 i, .int .i64 i, .int .i64 0]] w fun e w' => e = .returned (.tuple #[]) ∧ Own w' B (.slice A n cap) (negT R C i l) ∧ w.grownBy w' (Value.slice A n cap).ownBlock := by
  obtain ⟨w1, hw1, mb, ob, hs1, g01⟩ := mat_op w R C (.slice A n cap) 1 i i 0
  have HW1 := Lib.hid hw1
  have HS1 := Lib.hid hs1
  have ho1 := ho.grows g01
  have hne : ∀ g, (Value.slice A n cap).ownBlock = some g → g < w.heap.size := fun g h => (World.ownsRow.lt ho g h).2
  have HNE := Lib.hid hne
  have HL := Lib.hid hl
  have HN := Lib.hid hn
  have HMK := Lib.hid fun a b ha hb => mkd_nth (R := R) (C := C) (a := a) (b := b) (hn.trans hl) hm ha hb
  have hRC : R * C ≤ 576 := Nat.mul_le_mul hR hC
  have HI : ∀ a, a < R → a * C ≤ 576 := fun a ha => by have := Nat.mul_le_mul_right C (Nat.le_of_lt ha); omega
  have k1 := castMul i C; have k2 := castMulLe (HI i hi)
  have e1 := Lib.hid (ColD.zero (f := negFn C i l) (hn.trans hl))
  clear hw1 hs1 hl hn hm hne ho HI
  go_enter Tryz.func114, Tryz.ntmps114
  go_wp2_with fail
  rw [← HW1.out]
  go_loopw [4] (fun k wr => ∃ (J : Nat) (m : List Int), k = .int .i64 J ∧ J ≤ C ∧ ColD R C (negFn C i l) l J m ∧ Own wr B (.slice A n cap) m ∧ w1.grownBy wr (Value.slice A n cap).ownBlock) (fun k _ => C - (intOf k).toNat)
  case atStart => exact ⟨0, l, rfl, Nat.zero_le _, e1.out, ho1, World.grownBy.refl _ _⟩
  case round =>
    clear ho1
    obtain ⟨J, m, rfl, hJ, hd, ho, hg⟩ := hrel
    have mb2 := mb.own hg (fun g h => Nat.ne_of_lt (HNE.out g h))
    have ob2 := ob.own hg (fun g h => by have := HNE.out g h; omega)
    by_cases hlt : J < C
    · have hml := hd.1
      have hlen : R * C = n := HL.out.symm
      obtain ⟨g, cap', e, hgB, hgw⟩ := ho.form (by rw [hml]; have := idx_lt hi hlt; omega)
      simp only [Value.slice.injEq] at e
      obtain ⟨rfl, hnm, rfl⟩ := e
      clear hnm
      have hg2 : g < w.heap.size := HNE.out g (by simp [Value.ownBlock])
      have l1 := idx_lt hi hlt
      have c1 := ho.cell (i * C + J) (by rw [hml]; exact l1)
      have cf := ho.free (i * C + J)
      rw [hd.cell hi hlt] at c1
      have hnx := hd.set1 hi hlt (fun a ha hne => negFn_other hne)
      rw [negFn_same] at hnx
      have HNX := Lib.hid hnx
      have HMX := HMK.out i J hi hlt
      have HML := Lib.hid (hml.trans hlen)
      have CM := Lib.hid fun W => l1Mul_c (nth l (i * C + J)) (-1) W HMX (.inr (by decide))
      have HD := Lib.hid hd
      have p1 := castPos i C J; have p2 := castLt (n := R * C) l1
      rw [hlen] at p2
      have q1 : (J : Int) < (C : Int) := by omega
      have a1 := castIdx i C J
      clear hd hnx hml hlen l1 HMX
      obtain ⟨b0, b1, b2⟩ := mb2.cells
      obtain ⟨x0, x1, x2, x3⟩ := ob2.cells
      generalize mulB (nth l (i * C + J)) (-1) = z at *
      generalize nth l (i * C + J) = z0 at *
      go_wp2_with fail
      obtain ⟨d0, d1, d2⟩ := mb2.ext
      obtain ⟨f0, f1, f2, f3⟩ := ob2.ext
      ((refine wp_region_tail 12 (by kernel_rfl) (by kernel_rfl) ?_; simp only [List.take_succ_cons, List.take_zero, List.drop_succ_cons, List.drop_zero]); (repeat (go_big_quiet_step ((go_at_call 50; with_reducible exact extS (CM.out _))))); refine wpQuiet_nil ?_; rintro w3 ⟨w30, hw30⟩; have g3 := grows_of_ext hw30; clear hw30 w30)
      have cf3 := (g3.frozen (p := ⟨g, i * C + J, none⟩) hgw).trans cf
      have c13 := (g3.cell (p := ⟨g, i * C + J, none⟩) hgw).trans c1
      clear d0 d1 d2 f0 f1 f2 f3 b0 b1 b2 x0 x1 x2 x3 c1 cf CM
      go_wp2_with fail
      go_round
      case rel => exact ⟨J + 1, _, by go_num, by omega, HNX.out, (ho.grows g3).put HML.out _ _, only_setCell (p := ⟨g, i * C + J, none⟩) (grown_right hg g3) rfl _⟩
      case measure => simp [intOf]; omega
    · obtain rfl : J = C := by omega
      obtain ⟨b0, b1, b2⟩ := mb2.cells
      go_wp2_with fail
      go_end0
      refine ⟨rfl, ?_, grown_left hg g01⟩
      have := hd.all
      subst this
      exact ho

/-- two rows of the call's own, apart -/
structure Pr (w : World) (B : Nat) (A U : Option Addr) (n cap m cap2 : Nat) (a u : List Int) : Prop where
  oa : Own w B (.slice A n cap) a
  ou : Own w B (.slice U m cap2) u
  ne : ∀ g, (Value.slice A n cap).ownBlock = some g → (Value.slice U m cap2).ownBlock ≠ some g
section
variable {w w' : World} {B : Nat} {A U : Option Addr} {n cap m cap2 : Nat} {a u a' u' : List Int}
theorem Pr.grows (h : Pr w B A U n cap m cap2 a u) (g : Grows w w') : Pr w' B A U n cap m cap2 a u := ⟨h.oa.grows g, h.ou.grows g, h.ne⟩
theorem Pr.setA (h : Pr w B A U n cap m cap2 a u) (o : Own w' B (.slice A n cap) a') (g : w.grownBy w' (Value.slice A n cap).ownBlock) : Pr w' B A U n cap m cap2 a' u := ⟨o, h.ou.other g h.ne, h.ne⟩
theorem Pr.setU (h : Pr w B A U n cap m cap2 a u) (o : Own w' B (.slice U m cap2) u') (g : w.grownBy w' (Value.slice U m cap2).ownBlock) : Pr w' B A U n cap m cap2 a u' := ⟨h.oa.other g (fun g h1 h2 => h.ne g h2 h1), o, h.ne⟩
end
/-- what a call has changed: two rows at most; what is new -/
structure Grown2 (w w' : World) (r1 r2 : Option Nat) : Prop where
  os : w'.os = w.os
  tape : w'.tape = w.tape
  output : w'.output = w.output
  size : w.heap.size ≤ w'.heap.size
  block : ∀ i, i < w.heap.size → some i ≠ r1 → some i ≠ r2 → w'.heap[i]? = w.heap[i]?
section
variable {w w1 w2 : World} {r1 r2 : Option Nat}
theorem Grown2.refl (w : World) (r1 r2 : Option Nat) : Grown2 w w r1 r2 := ⟨rfl, rfl, rfl, Nat.le_refl _, fun _ _ _ _ => rfl⟩
theorem Grown2.of12 (h : w.grownBy w1 r1) (k : w1.grownBy w2 r2) : Grown2 w w2 r1 r2 := ⟨k.os.trans h.os, k.tape.trans h.tape, k.output.trans h.output, Nat.le_trans h.size k.size, fun i hi h1 h2 => (k.block i (Nat.lt_of_lt_of_le hi h.size) h2).trans (h.block i hi h1)⟩
theorem Grown2.trans (h : Grown2 w w1 r1 r2) (k : Grown2 w1 w2 r1 r2) : Grown2 w w2 r1 r2 := ⟨k.os.trans h.os, k.tape.trans h.tape, k.output.trans h.output, Nat.le_trans h.size k.size, fun i hi h1 h2 => (k.block i (Nat.lt_of_lt_of_le hi h.size) h1 h2).trans (h.block i hi h1 h2)⟩
theorem Grown2.left (h : Grows w w1) (k : Grown2 w1 w2 r1 r2) : Grown2 w w2 r1 r2 := ⟨k.os.trans h.os, k.tape.trans h.tape, k.output.trans h.output, Nat.le_trans h.size k.size, fun i hi h1 h2 => (k.block i (Nat.lt_of_lt_of_le hi h.size) h1 h2).trans (h.block i hi)⟩
theorem Grown2.right (h : Grown2 w w1 r1 r2) (k : Grows w1 w2) : Grown2 w w2 r1 r2 := ⟨k.os.trans h.os, k.tape.trans h.tape, k.output.trans h.output, Nat.le_trans h.size k.size, fun i hi h1 h2 => (k.block i (Nat.lt_of_lt_of_le hi h.size)).trans (h.block i hi h1 h2)⟩
theorem Grown2.below {B : Nat} (h : Grown2 w w1 r1 r2) (hB : B ≤ w.heap.size) (h1 : ∀ g, r1 = some g → B ≤ g) (h2 : ∀ g, r2 = some g → B ≤ g) : Below B w w1 :=
  ⟨h.os, h.tape, h.output, h.size, fun i hi => h.block i (by omega) (fun e => by have := h1 i e.symm; omega) (fun e => by have := h2 i e.symm; omega)⟩
theorem MBox.two {b : Nat} {r c : Int} {v : Value} (h : MBox w b r c v) (g : Grown2 w w1 r1 r2) (h1 : ∀ g, r1 = some g → g ≠ b) (h2 : ∀ g, r2 = some g → g ≠ b) : MBox w1 b r c v := by
  have hk := g.block b h.lt (fun e => h1 b e.symm rfl) (fun e => h2 b e.symm rfl)
  exact ⟨Nat.lt_of_lt_of_le h.lt g.size, (World.cell?_of_block hk).trans h.c0, (World.cell?_of_block hk).trans h.c1, (World.cell?_of_block hk).trans h.c2, fun o => (World.frozen?_of_block hk).trans (h.fz o)⟩
end
end
end Go.Proofs.YtbfkpfdkndnhkaaGreat

/- Contracts: the reference's search in a column. -/
namespace Go.Proofs.YtbfkpfdkndnhkaaGreat
set_option linter.unusedSimpArgs false
set_option linter.unusedVariables false
open Go.RowKit

def encO : Option Nat → Int
  | none => -1
  | some p => (p : Int)
theorem sub_up {t i : Nat} (h : t ≤ i) : i + 1 - t = (i - t) + 1 := by omega
theorem leastF_zero {C t j i : Nat} {a : List Int} (hi : t ≤ i) (h : nth a (i * C + j) = 0) : leastF C t j a (i + 1 - t) = leastF C t j a (i - t) := by
  rw [sub_up hi, leastF, show t + (i - t) = i by omega, if_pos h]
theorem leastF_first {C t j i : Nat} {a : List Int} (hi : t ≤ i) (h : nth a (i * C + j) ≠ 0) (h2 : leastF C t j a (i - t) = none) : leastF C t j a (i + 1 - t) = some i := by
  rw [sub_up hi, leastF, show t + (i - t) = i by omega, if_neg h, h2]
theorem leastF_less {C t j i b : Nat} {a : List Int} (hi : t ≤ i) (h : nth a (i * C + j) ≠ 0) (h2 : leastF C t j a (i - t) = some b) (h3 : absI (nth a (i * C + j)) < absI (nth a (b * C + j))) : leastF C t j a (i + 1 - t) = some i := by
  rw [sub_up hi, leastF, show t + (i - t) = i by omega, if_neg h, h2]; simp only; rw [if_pos h3]
theorem leastF_more {C t j i b : Nat} {a : List Int} (hi : t ≤ i) (h : nth a (i * C + j) ≠ 0) (h2 : leastF C t j a (i - t) = some b) (h3 : ¬ absI (nth a (i * C + j)) < absI (nth a (b * C + j))) : leastF C t j a (i + 1 - t) = some b := by
  rw [sub_up hi, leastF, show t + (i - t) = i by omega, if_neg h, h2]; simp only; rw [if_neg h3]
section
set_option maxHeartbeats 4000000
end
end Go.Proofs.YtbfkpfdkndnhkaaGreat

/- Contracts: the reference's Hermite form, in place. -/
namespace Go.Proofs.YtbfkpfdkndnhkaaGreat
set_option linter.unusedSimpArgs false
set_option linter.unusedVariables false
open Go.RowKit

def anyBad (l : List Int) : Bool := l.any fun x => x == bad
theorem anyBad_mkd {l : List Int} (h : mkd l) : anyBad l = !allNum l := by
  cases e : allNum l
  · cases e2 : anyBad l
    · exfalso
      have : allNum l = true := (allNum_iff l).2 fun i hi => by
        rcases h i hi with h1 | h1
        · have : anyBad l = true := List.any_eq_true.2 ⟨nth l i, by rw [nth_get l i hi]; exact List.getElem_mem hi, by simp [h1]⟩
          rw [this] at e2; cases e2
        · exact h1
      rw [this] at e; cases e
    · rfl
  · cases e2 : anyBad l
    · rfl
    · obtain ⟨x, hx, hb⟩ := List.any_eq_true.1 e2
      obtain ⟨i, hi, rfl⟩ := List.getElem_of_mem hx
      have := (allNum_iff l).1 e i hi
      rw [nth_get l i hi] at this
      rw [beq_iff_eq] at hb
      rw [hb, bad_not] at this; cases this
/-- of a pair: is one marked? -/
theorem anyBad_two {R C : Nat} {s : Option LL} {x : LL} (h : Stands R C s x) : (anyBad x.1 || anyBad x.2) = !s.isSome := by
  rw [anyBad_mkd h.1.m1, anyBad_mkd h.1.m2, h.2]
  unfold two
  cases allNum x.1 <;> cases allNum x.2 <;> rfl
theorem anyBad_one {l : List Int} : anyBad l = true → ∃ i, i < l.length ∧ nth l i = bad := fun h => by
  obtain ⟨x, hx, hb⟩ := List.any_eq_true.1 h
  obtain ⟨i, hi, rfl⟩ := List.getElem_of_mem hx
  exact ⟨i, hi, by rw [nth_get l i hi]; simpa using hb⟩

section
set_option maxHeartbeats 1000000
end
/-! ### plain: the steps of the walk -/
theorem elim_skip {R C t j p i : Nat} {s z : LL} (hi : t ≤ i) (h : Stands R C (elimF R C t j p s (i - t)) z) (hc : i = p ∨ nth z.1 (i * C + j) = 0) : Stands R C (elimF R C t j p s (i + 1 - t)) z := by
  rw [sub_up hi, elimF, show t + (i - t) = i by omega]
  cases e : elimF R C t j p s (i - t) with
  | none => rw [e] at h; exact h
  | some s' =>
    rw [e] at h
    obtain ⟨rfl, ok⟩ := h.some_eq
    simp only [Option.bind_some]
    rw [if_pos hc]; exact h
theorem elim_step {R C t j p i : Nat} {s z : LL} (hi : t ≤ i) (hs : Ok2 R C s) (hl : Lst R C t j p s.1) (hj : j < C) (hk : i < R) (h : Stands R C (elimF R C t j p s (i - t)) z) (h1 : i ≠ p) (h2 : nth z.1 (i * C + j) ≠ 0) :
    Stands R C (elimF R C t j p s (i + 1 - t)) (addT R C i p (-(flQ (nth z.1 (i * C + j)) (nth z.1 (p * C + j)))) z.1, addT R R i p (-(flQ (nth z.1 (i * C + j)) (nth z.1 (p * C + j)))) z.2) := by
  rw [sub_up hi, elimF, show t + (i - t) = i by omega]
  cases e : elimF R C t j p s (i - t) with
  | none => rw [e] at h; exact h.add_none
  | some s' =>
    rw [e] at h
    obtain ⟨rfl, ok⟩ := h.some_eq
    simp only [Option.bind_some]
    rw [if_neg (not_or.2 ⟨h1, h2⟩)]
    have E := elimF_EI hs hl.lo hl.hi hj hl.ne (by omega) e
    have epv := E.same p j hl.hi hj (.inr (.inr rfl))
    have hn := (allNum_iff _).1 ok.n1
    rw [flQ_yes (hn _ (by rw [ok.l1]; exact idx_lt hk hj)) (hn _ (by rw [ok.l1]; exact idx_lt hl.hi hj)) (by rw [epv]; exact hl.ne)]
    exact ok.stands.add
theorem up_step {R C t j k : Nat} {s z : LL} (hs : Ok2 R C s) (ht : t < R) (hj : j < C) (hne : nth s.1 (t * C + j) ≠ 0) (hk : k < t) (h : Stands R C (upF R C t j s k) z) :
    Stands R C (upF R C t j s (k + 1)) (addT R C k t (-(flQ (nth z.1 (k * C + j)) (nth z.1 (t * C + j)))) z.1, addT R R k t (-(flQ (nth z.1 (k * C + j)) (nth z.1 (t * C + j)))) z.2) := by
  rw [upF]
  cases e : upF R C t j s k with
  | none => rw [e] at h; exact h.add_none
  | some s' =>
    rw [e] at h
    obtain ⟨rfl, ok⟩ := h.some_eq
    simp only [Option.bind_some]
    have U := upF_UI hs ht hj hne (Nat.le_of_lt hk) e
    have epv := U.same t j ht hj (Nat.le_of_lt hk)
    have hn := (allNum_iff _).1 ok.n1
    rw [flQ_yes (hn _ (by rw [ok.l1]; exact idx_lt (by omega) hj)) (hn _ (by rw [ok.l1]; exact idx_lt ht hj)) (by rw [epv]; exact hne)]
    exact ok.stands.add
theorem swapIf_ok {R C p t : Nat} {y : LL} (ok : Ok2 R C y) (hp : p < R) (ht : t < R) : Ok2 R C (swapIf R C p t y) := by
  unfold swapIf; split
  · exact ok
  · exact swpS_ok ok hp ht
theorem swapIf_ne {R C j p t : Nat} {y : LL} (hl : Lst R C t j p y.1) (ht : t < R) (hj : j < C) : nth (swapIf R C p t y).1 (t * C + j) ≠ 0 := by
  unfold swapIf; split
  · rename_i h; rw [← h]; exact hl.ne
  · rename_i h
    show nth (swpT R C p t y.1) _ ≠ 0
    rw [swpT_cell ht hj, if_neg (Ne.symm h), if_pos rfl]; exact hl.ne
theorem negIf_ok {R C j t : Nat} {y : LL} (ok : Ok2 R C y) (ht : t < R) : Ok2 R C (negIf R C t j y) := by
  unfold negIf; split
  · exact negS_ok ok ht
  · exact ok
theorem negIf_ne {R C j t : Nat} {y : LL} (ok : Ok2 R C y) (ht : t < R) (hj : j < C) (h : nth y.1 (t * C + j) ≠ 0) : nth (negIf R C t j y).1 (t * C + j) ≠ 0 := by
  unfold negIf; split
  · show nth (negT R C t y.1) _ ≠ 0
    rw [negT_cell ok.l1 ok.n1 ht hj, if_pos rfl]; omega
  · exact h
theorem colS_none {R C j t : Nat} {x : LL} (ht : t < R) (h : least R C t j x.1 = none) : colS R C j (t, x) = some (t, x) := by
  unfold colS; simp only; rw [if_pos ht, h]
theorem colS_some {R C j t p0 : Nat} {x : LL} (ht : t < R) (h : least R C t j x.1 = some p0) : colS R C j (t, x) = (redM R C t j x p0).bind fun y => (upF R C t j (negIf R C t j (swapIf R C y.2 t y.1)) t).map fun s => (t + 1, s) := by
  unfold colS; simp only; rw [if_pos ht, h]
theorem colS_red {R C j t p0 p : Nat} {x y : LL} (ht : t < R) (h : least R C t j x.1 = some p0) (hr : redM R C t j x p0 = some (y, p)) : colS R C j (t, x) = (upF R C t j (negIf R C t j (swapIf R C p t y)) t).map fun s => (t + 1, s) := by
  rw [colS_some ht h, hr]; rfl
theorem hermF_next {R C j t : Nat} {s x : LL} (h : hermF R C s j = some (t, x)) : hermF R C s (j + 1) = colS R C j (t, x) := by
  rw [hermF, h]; rfl
theorem hermF_dead {R C j t : Nat} {s x : LL} (hj : j < C) (h : hermF R C s j = some (t, x)) (h2 : colS R C j (t, x) = none) : hermF R C s C = none :=
  hermF_none (j := j + 1) (by rw [hermF_next h, h2]) hj
/-- the two rows hold the result, if there is one -/
def HermRes (w : World) (B : Nat) (A U : Option Addr) (n cap m cap2 : Nat) (o : Option TS) : Prop := ∃ x : LL, Pr w B A U n cap m cap2 x.1 x.2 ∧ ∀ y, o = some y → y.2 = x
section
set_option maxHeartbeats 8000000
set_option maxRecDepth 4000
end
end Go.Proofs.YtbfkpfdkndnhkaaGreat

/- Contracts: the program's operation on the rows of a matrix. -/
namespace Go.Proofs.YtbfkpfdkndnhkaaGreat
set_option linter.unusedSimpArgs false
set_option linter.unusedVariables false
open Go.RowKit

/-! ### plain -/
theorem addB_parts {x y t : Int} (hx : isNum x = true) (hy : isNum y = true) (ht : isNum t = true) : (isNum (y * t) = true → isNum (x + y * t) = true → addB x (mulB y t) = x + y * t) ∧ ((isNum (y * t) = false ∨ isNum (x + y * t) = false) → isNum (addB x (mulB y t)) = false) := by
  have e1 := mulB_num hy ht
  constructor
  · intro h1 h2
    rw [e1, fit_yes h1, addB_num hx h1, fit_yes h2]
  · intro h
    rw [e1]
    by_cases h1 : isNum (y * t) = true
    · rw [fit_yes h1, addB_num hx h1]
      rcases h with h | h
      · rw [h] at h1; cases h1
      · rw [fit_no h]; exact bad_not
    · rw [fit_no (by simpa using h1), addB_bad_right]; exact bad_not
/-- the first J columns of row i fit -/
def ColN (C i j : Nat) (t : Int) (l : List Int) (J : Nat) : Prop := ∀ b, b < J → isNum (addFn C i j t l i b) = true
theorem ColN.step {C i j J : Nat} {t : Int} {l : List Int} (h : ColN C i j t l J) (h2 : isNum (addFn C i j t l i J) = true) : ColN C i j t l (J + 1) := fun b hb => by
  by_cases e : b = J
  · rw [e]; exact h2
  · exact h b (by omega)
theorem ColN.all {R C i j : Nat} {t : Int} {l : List Int} (hl : l.length = R * C) (hn : allNum l = true) (h : ColN C i j t l C) : allNum (addT R C i j t l) = true := by
  rw [allNum_iff] at *
  intro k hk
  rw [addT_length] at hk
  obtain ⟨h1, h2, h3⟩ := idx_split hk
  rw [h3]
  show isNum (nth (tab R C (addFn C i j t l)) _) = true
  rw [tab_nth _ h1 h2]
  by_cases e : k / C = i
  · rw [e]; exact h _ h2
  · rw [addFn_other e]; exact hn _ (by rw [hl]; exact idx_lt h1 h2)
theorem addT_no {R C i j J : Nat} {t : Int} {l : List Int} (hi : i < R) (hJ : J < C) (h : isNum (addFn C i j t l i J) = false) : allNum (addT R C i j t l) = false :=
  allNum_no (i := i * C + J) (by rw [addT_length]; exact idx_lt hi hJ) (by
    show isNum (nth (tab R C (addFn C i j t l)) _) = false
    rw [tab_nth _ hi hJ]; exact h)
/-- whether all numbers fit, and the row behind: as said, if they do -/
def OpRes (w : World) (B : Nat) (v : Value) (ok : Bool) (l1 : List Int) (e : Ending) (w' : World) : Prop := ∃ m, e = .returned (.bool ok) ∧ Own w' B v m ∧ (ok = true → m = l1) ∧ w.grownBy w' v.ownBlock

section
set_option maxHeartbeats 2000000
set_option maxRecDepth 100000
end
end Go.Proofs.YtbfkpfdkndnhkaaGreat
