/- Contracts and lemmas, put together. -/
import Derived.BigRegion
import Derived.Deep.LoopGhost
import Derived.Test.YthajmffhgbenpaaPkA
import Derived.Test.YthajmffhgbenpaaPkB
import Derived.Test.YthajmffhgbenpaaPkD
import Derived.Test.YthajmffhgbenpaaPkE
/- The Hermite form as an algorithm on lists, and what is known of its result. -/
namespace Go.Proofs.Ythajmffhgbenpaa
set_option linter.unusedSimpArgs false
set_option linter.unusedVariables false

/-! ### operations on rows; numbers that do not fit are marked -/
def addT (R C i j : Nat) (t : Int) (l : List Int) : List Int := tab R C fun a b => if a = i then addB (nth l (i * C + b)) (mulB (nth l (j * C + b)) t) else nth l (a * C + b)
def swpT (R C i j : Nat) (l : List Int) : List Int := tab R C fun a b => if a = i then nth l (j * C + b) else if a = j then nth l (i * C + b) else nth l (a * C + b)
def negT (R C i : Nat) (l : List Int) : List Int := tab R C fun a b => if a = i then mulB (nth l (i * C + b)) (-1) else nth l (a * C + b)
theorem addT_length (R C i j : Nat) (t : Int) (l : List Int) : (addT R C i j t l).length = R * C := tab_length _ _ _
theorem swpT_length (R C i j : Nat) (l : List Int) : (swpT R C i j l).length = R * C := tab_length _ _ _
theorem negT_length (R C i : Nat) (l : List Int) : (negT R C i l).length = R * C := tab_length _ _ _
theorem isNum_addB {x y t : Int} (h : isNum (addB x (mulB y t)) = true) : addB x (mulB y t) = x + y * t := by
  unfold addB at *
  by_cases hb : x = bad ∨ mulB y t = bad
  · rw [if_pos hb, bad_not] at h; cases h
  · rw [if_neg hb] at *
    have hm : mulB y t = y * t := by
      unfold mulB at *
      by_cases hb2 : y = bad ∨ t = bad
      · rw [if_pos hb2] at hb; exact absurd (Or.inr rfl) hb
      · rw [if_neg hb2] at *
        unfold fit at *
        split
        · rfl
        · rename_i hf; rw [if_neg hf] at hb; exact absurd (Or.inr rfl) hb
    rw [hm] at h ⊢
    unfold fit at *
    split
    · rfl
    · rename_i hf; rw [if_neg hf, bad_not] at h; cases h
theorem addT_other {R C i j a b : Nat} {t : Int} {l : List Int} (ha : a < R) (hb : b < C) (h : a ≠ i) : nth (addT R C i j t l) (a * C + b) = nth l (a * C + b) := by
  unfold addT; rw [tab_nth _ ha hb, if_neg h]
theorem addT_same {R C i j b : Nat} {t : Int} {l : List Int} (hi : i < R) (hb : b < C) (h : allNum (addT R C i j t l) = true) : nth (addT R C i j t l) (i * C + b) = nth l (i * C + b) + nth l (j * C + b) * t := by
  have := (allNum_iff _).1 h (i * C + b) (by rw [addT_length]; exact idx_lt hi hb)
  unfold addT at *
  rw [tab_nth _ hi hb, if_pos rfl] at *
  exact isNum_addB this
/-- every cell is a number within the limit or marked -/
def mkd (l : List Int) : Prop := ∀ i, i < l.length → nth l i = bad ∨ isNum (nth l i) = true
theorem mkd_of {l : List Int} (h : allNum l = true) : mkd l := fun i hi => .inr ((allNum_iff l).1 h i hi)
theorem fit_or' (n : Int) : fit n = bad ∨ isNum (fit n) = true := by
  cases h : isNum n
  · exact .inl (fit_no h)
  · right; rw [fit_yes h]; exact h
theorem addB_or' (a b : Int) : addB a b = bad ∨ isNum (addB a b) = true := by
  unfold addB
  split
  · exact .inl rfl
  · exact fit_or' _
theorem mulB_or' (a b : Int) : mulB a b = bad ∨ isNum (mulB a b) = true := by
  unfold mulB
  split
  · exact .inl rfl
  · exact fit_or' _
theorem mkd_tab {R C : Nat} {f : Nat → Nat → Int} (h : ∀ a b, a < R → b < C → f a b = bad ∨ isNum (f a b) = true) : mkd (tab R C f) := fun k hk => by
  rw [tab_length] at hk
  obtain ⟨h1, h2, h3⟩ := idx_split hk
  rw [h3, tab_nth _ h1 h2]
  exact h _ _ h1 h2
theorem mkd_nth {R C : Nat} {l : List Int} (hl : l.length = R * C) (h : mkd l) {a b : Nat} (ha : a < R) (hb : b < C) : nth l (a * C + b) = bad ∨ isNum (nth l (a * C + b)) = true := h _ (by rw [hl]; exact idx_lt ha hb)
theorem addT_mkd {R C i j : Nat} {t : Int} {l : List Int} (hl : l.length = R * C) (h : mkd l) : mkd (addT R C i j t l) := mkd_tab fun a b ha hb => by
  split
  · exact addB_or' _ _
  · exact mkd_nth hl h ha hb
theorem swpT_mkd {R C i j : Nat} {l : List Int} (hl : l.length = R * C) (h : mkd l) (hi : i < R) (hj : j < R) : mkd (swpT R C i j l) := mkd_tab fun a b ha hb => by
  split
  · exact mkd_nth hl h hj hb
  · split
    · exact mkd_nth hl h hi hb
    · exact mkd_nth hl h ha hb
theorem negT_mkd {R C i : Nat} {l : List Int} (hl : l.length = R * C) (h : mkd l) : mkd (negT R C i l) := mkd_tab fun a b ha hb => by
  split
  · exact mulB_or' _ _
  · exact mkd_nth hl h ha hb
theorem not_num {R C : Nat} {l : List Int} (hl : l.length = R * C) (h : allNum l = false) (hm : mkd l) : ∃ a b, a < R ∧ b < C ∧ nth l (a * C + b) = bad := by
  refine Classical.byContradiction fun hn => ?_
  have : allNum l = true := (allNum_iff _).2 fun k hk => by
    rcases hm k hk with e | e
    · rw [hl] at hk
      obtain ⟨h1, h2, h3⟩ := idx_split hk
      exact absurd ⟨k / C, k % C, h1, h2, by rw [← h3]; exact e⟩ hn
    · exact e
  rw [this] at h; cases h
theorem has_bad {l : List Int} {i : Nat} (hi : i < l.length) (h : nth l i = bad) : allNum l = false := allNum_no hi (by rw [h]; exact bad_not)
/-- a mark stays -/
theorem addT_stay {R C i j : Nat} {t : Int} {l : List Int} (hl : l.length = R * C) (hm : mkd l) (h : allNum l = false) : allNum (addT R C i j t l) = false := by
  obtain ⟨a, b, ha, hb, e⟩ := not_num hl h hm
  refine has_bad (i := a * C + b) (by rw [addT_length]; exact idx_lt ha hb) ?_
  by_cases he : a = i
  · subst he
    unfold addT; rw [tab_nth _ ha hb, if_pos rfl, e, addB_bad_left]
  · rw [addT_other ha hb he]; exact e
theorem swpT_stay {R C i j : Nat} {l : List Int} (hl : l.length = R * C) (hm : mkd l) (hi : i < R) (hj : j < R) (h : allNum l = false) : allNum (swpT R C i j l) = false := by
  obtain ⟨a, b, ha, hb, e⟩ := not_num hl h hm
  by_cases h1 : a = i
  · refine has_bad (i := j * C + b) (by rw [swpT_length]; exact idx_lt hj hb) ?_
    unfold swpT; rw [tab_nth _ hj hb]
    split
    · rename_i h2; rw [h2, ← h1, e]
    · rw [if_pos rfl, ← h1, e]
  · by_cases h2 : a = j
    · refine has_bad (i := i * C + b) (by rw [swpT_length]; exact idx_lt hi hb) ?_
      unfold swpT; rw [tab_nth _ hi hb, if_pos rfl, ← h2, e]
    · refine has_bad (i := a * C + b) (by rw [swpT_length]; exact idx_lt ha hb) ?_
      unfold swpT; rw [tab_nth _ ha hb, if_neg h1, if_neg h2, e]
theorem negT_stay {R C i : Nat} {l : List Int} (hl : l.length = R * C) (hm : mkd l) (h : allNum l = false) : allNum (negT R C i l) = false := by
  obtain ⟨a, b, ha, hb, e⟩ := not_num hl h hm
  refine has_bad (i := a * C + b) (by rw [negT_length]; exact idx_lt ha hb) ?_
  unfold negT; rw [tab_nth _ ha hb]
  split
  · rename_i he; rw [← he, e, mulB_bad_left]
  · exact e
theorem swpT_num {R C i j : Nat} {l : List Int} (hl : l.length = R * C) (hi : i < R) (hj : j < R) (h : allNum l = true) : allNum (swpT R C i j l) = true := by
  rw [allNum_iff] at *
  intro k hk
  rw [swpT_length] at hk
  obtain ⟨h1, h2, h3⟩ := idx_split hk
  rw [h3]; unfold swpT; rw [tab_nth _ h1 h2]
  split
  · exact h _ (by rw [hl]; exact idx_lt hj h2)
  · split
    · exact h _ (by rw [hl]; exact idx_lt hi h2)
    · exact h _ (by rw [hl]; exact idx_lt h1 h2)
theorem mulB_neg {x : Int} (h : isNum x = true) : mulB x (-1) = -x := by
  rw [mulB_num h (by decide), show x * -1 = -x by omega]
  exact fit_yes (by rw [isNum_iff] at *; omega)
theorem negT_num {R C i : Nat} {l : List Int} (hl : l.length = R * C) (hi : i < R) (h : allNum l = true) : allNum (negT R C i l) = true := by
  rw [allNum_iff] at *
  intro k hk
  rw [negT_length] at hk
  obtain ⟨h1, h2, h3⟩ := idx_split hk
  rw [h3]; unfold negT; rw [tab_nth _ h1 h2]
  have hx := h (i * C + k % C) (by rw [hl]; exact idx_lt hi h2)
  split
  · rw [mulB_neg hx]; rw [isNum_iff] at *; omega
  · exact h _ (by rw [hl]; exact idx_lt h1 h2)

/-! ### pairs: a matrix and that of the operations -/
abbrev LL := List Int × List Int
def two (a u : List Int) : Option LL := if allNum a && allNum u then some (a, u) else none
theorem two_some {a u : List Int} {s : LL} (h : two a u = some s) : s = (a, u) ∧ allNum a = true ∧ allNum u = true := by
  unfold two at h
  split at h
  · rename_i hh; rw [Bool.and_eq_true] at hh; cases h; exact ⟨rfl, hh.1, hh.2⟩
  · cases h
def addS (R C i j : Nat) (t : Int) (s : LL) : Option LL := two (addT R C i j t s.1) (addT R R i j t s.2)
def swpS (R C i j : Nat) (s : LL) : LL := (swpT R C i j s.1, swpT R R i j s.2)
def negS (R C i : Nat) (s : LL) : LL := (negT R C i s.1, negT R R i s.2)
/-- well made: lengths, numbers -/
structure Ok2 (R C : Nat) (s : LL) : Prop where
  l1 : s.1.length = R * C
  l2 : s.2.length = R * R
  n1 : allNum s.1 = true
  n2 : allNum s.2 = true
theorem addS_ok {R C i j : Nat} {t : Int} {s s' : LL} (h : addS R C i j t s = some s') : Ok2 R C s' := by
  obtain ⟨rfl, h1, h2⟩ := two_some h
  exact ⟨addT_length _ _ _ _ _ _, addT_length _ _ _ _ _ _, h1, h2⟩
theorem addS_fst {R C i j : Nat} {t : Int} {s s' : LL} (h : addS R C i j t s = some s') : s'.1 = addT R C i j t s.1 ∧ s'.2 = addT R R i j t s.2 := by
  obtain ⟨rfl, _, _⟩ := two_some h; exact ⟨rfl, rfl⟩
theorem swpS_ok {R C i j : Nat} {s : LL} (h : Ok2 R C s) (hi : i < R) (hj : j < R) : Ok2 R C (swpS R C i j s) :=
  ⟨swpT_length _ _ _ _ _, swpT_length _ _ _ _ _, swpT_num h.l1 hi hj h.n1, swpT_num h.l2 hi hj h.n2⟩
theorem negS_ok {R C i : Nat} {s : LL} (h : Ok2 R C s) (hi : i < R) : Ok2 R C (negS R C i s) :=
  ⟨negT_length _ _ _ _, negT_length _ _ _ _, negT_num h.l1 hi h.n1, negT_num h.l2 hi h.n2⟩
/-- the reference's lists x stand for the state s -/
structure Mks (R C : Nat) (x : LL) : Prop where
  l1 : x.1.length = R * C
  l2 : x.2.length = R * R
  m1 : mkd x.1
  m2 : mkd x.2
def Stands (R C : Nat) (s : Option LL) (x : LL) : Prop := Mks R C x ∧ s = two x.1 x.2
theorem Ok2.mks {R C : Nat} {s : LL} (h : Ok2 R C s) : Mks R C s := ⟨h.l1, h.l2, mkd_of h.n1, mkd_of h.n2⟩
theorem Ok2.two {R C : Nat} {s : LL} (h : Ok2 R C s) : Proofs.Ythajmffhgbenpaa.two s.1 s.2 = some s := by unfold Proofs.Ythajmffhgbenpaa.two; rw [h.n1, h.n2]; rfl
theorem Ok2.stands {R C : Nat} {s : LL} (h : Ok2 R C s) : Stands R C (some s) s := ⟨h.mks, h.two.symm⟩
theorem Stands.some_eq {R C : Nat} {s x : LL} (h : Stands R C (some s) x) : x = s ∧ Ok2 R C s := by
  obtain ⟨e, h1, h2⟩ := two_some h.2.symm
  obtain rfl : s = x := e
  exact ⟨rfl, h.1.l1, h.1.l2, h1, h2⟩
theorem two_none {a u : List Int} (h : two a u = none) : allNum a = false ∨ allNum u = false := by
  unfold two at h
  cases h1 : allNum a
  · exact .inl rfl
  · cases h2 : allNum u
    · exact .inr rfl
    · rw [h1, h2] at h; cases h
theorem none_two {a u : List Int} (h : allNum a = false ∨ allNum u = false) : two a u = none := by
  unfold two
  rcases h with h | h <;> simp [h]
theorem Mks.add {R C i j : Nat} {t : Int} {x : LL} (h : Mks R C x) : Mks R C (addT R C i j t x.1, addT R R i j t x.2) :=
  ⟨addT_length _ _ _ _ _ _, addT_length _ _ _ _ _ _, addT_mkd h.l1 h.m1, addT_mkd h.l2 h.m2⟩
theorem Stands.add {R C i j : Nat} {t : Int} {s : Option LL} {x : LL} (h : Stands R C s x) : Stands R C (s.bind (addS R C i j t)) (addT R C i j t x.1, addT R R i j t x.2) := by
  refine ⟨h.1.add, ?_⟩
  cases s with
  | some s => obtain ⟨rfl, _⟩ := h.some_eq; rfl
  | none =>
    refine (none_two ?_).symm
    rcases two_none h.2.symm with e | e
    · exact .inl (addT_stay h.1.l1 h.1.m1 e)
    · exact .inr (addT_stay h.1.l2 h.1.m2 e)
/-- a none stays, whatever is added -/
theorem Stands.add_none {R C i j : Nat} {t : Int} {x : LL} (h : Stands R C none x) : Stands R C none (addT R C i j t x.1, addT R R i j t x.2) := h.add (s := none)
theorem Stands.swp {R C i j : Nat} {s : Option LL} {x : LL} (h : Stands R C s x) (hi : i < R) (hj : j < R) : Stands R C (s.map (swpS R C i j)) (swpT R C i j x.1, swpT R R i j x.2) := by
  refine ⟨⟨swpT_length _ _ _ _ _, swpT_length _ _ _ _ _, swpT_mkd h.1.l1 h.1.m1 hi hj, swpT_mkd h.1.l2 h.1.m2 hi hj⟩, ?_⟩
  cases s with
  | some s => obtain ⟨rfl, ok⟩ := h.some_eq; exact (swpS_ok ok hi hj).two.symm
  | none =>
    refine (none_two ?_).symm
    rcases two_none h.2.symm with e | e
    · exact .inl (swpT_stay h.1.l1 h.1.m1 hi hj e)
    · exact .inr (swpT_stay h.1.l2 h.1.m2 hi hj e)
theorem Stands.neg {R C i : Nat} {s : Option LL} {x : LL} (h : Stands R C s x) (hi : i < R) : Stands R C (s.map (negS R C i)) (negT R C i x.1, negT R R i x.2) := by
  refine ⟨⟨negT_length _ _ _ _, negT_length _ _ _ _, negT_mkd h.1.l1 h.1.m1, negT_mkd h.1.l2 h.1.m2⟩, ?_⟩
  cases s with
  | some s => obtain ⟨rfl, ok⟩ := h.some_eq; exact (negS_ok ok hi).two.symm
  | none =>
    refine (none_two ?_).symm
    rcases two_none h.2.symm with e | e
    · exact .inl (negT_stay h.1.l1 h.1.m1 e)
    · exact .inr (negT_stay h.1.l2 h.1.m2 e)
end Go.Proofs.Ythajmffhgbenpaa

/- The Hermite form: the algorithm, and what is known of its result. -/
namespace Go.Proofs.Ythajmffhgbenpaa
set_option linter.unusedSimpArgs false
set_option linter.unusedVariables false

/-! ### the first of the least cells of a column -/
def leastF (C t j : Nat) (a : List Int) : Nat → Option Nat
  | 0 => none
  | k + 1 =>
    if nth a ((t + k) * C + j) = 0 then leastF C t j a k
    else match leastF C t j a k with
      | none => some (t + k)
      | some b => if absI (nth a ((t + k) * C + j)) < absI (nth a (b * C + j)) then some (t + k) else some b
def least (R C t j : Nat) (a : List Int) : Option Nat := leastF C t j a (R - t)
theorem leastF_none {C t j : Nat} {a : List Int} {k : Nat} (h : leastF C t j a k = none) : ∀ i, t ≤ i → i < t + k → nth a (i * C + j) = 0 := by
  induction k with
  | zero => intro i h1 h2; omega
  | succ k ih =>
    rw [leastF] at h
    split at h
    · rename_i hz
      intro i h1 h2
      by_cases e : i = t + k
      · rw [e, hz]
      · exact ih h i h1 (by omega)
    · split at h
      · cases h
      · split at h <;> cases h
theorem leastF_some {C t j : Nat} {a : List Int} {k p : Nat} (h : leastF C t j a k = some p) : t ≤ p ∧ p < t + k ∧ nth a (p * C + j) ≠ 0 ∧ ∀ i, t ≤ i → i < t + k → nth a (i * C + j) ≠ 0 → absI (nth a (p * C + j)) ≤ absI (nth a (i * C + j)) := by
  induction k generalizing p with
  | zero => cases h
  | succ k ih =>
    rw [leastF] at h
    split at h
    · rename_i hz
      obtain ⟨h1, h2, h3, h4⟩ := ih h
      refine ⟨h1, by omega, h3, fun i hi hi2 hne => ?_⟩
      by_cases e : i = t + k
      · rw [e] at hne; exact absurd hz hne
      · exact h4 i hi (by omega) hne
    · rename_i hz
      split at h
      · rename_i hn
        cases h
        refine ⟨by omega, by omega, hz, fun i hi hi2 hne => ?_⟩
        by_cases e : i = t + k
        · rw [e]; exact Int.le_refl _
        · exact absurd (leastF_none hn i hi (by omega)) hne
      · rename_i b hb
        obtain ⟨h1, h2, h3, h4⟩ := ih hb
        split at h
        · rename_i hlt
          cases h
          refine ⟨by omega, by omega, hz, fun i hi hi2 hne => ?_⟩
          by_cases e : i = t + k
          · rw [e]; exact Int.le_refl _
          · have := h4 i hi (by omega) hne; omega
        · rename_i hlt
          cases h
          refine ⟨h1, by omega, h3, fun i hi hi2 hne => ?_⟩
          by_cases e : i = t + k
          · rw [e]; omega
          · exact h4 i hi (by omega) hne
theorem least_none {R C t j : Nat} {a : List Int} (h : least R C t j a = none) : ∀ i, t ≤ i → i < R → nth a (i * C + j) = 0 := fun i h1 h2 => leastF_none h i h1 (by omega)
theorem least_some {R C t j : Nat} {a : List Int} {p : Nat} (h : least R C t j a = some p) : t ≤ p ∧ p < R ∧ nth a (p * C + j) ≠ 0 ∧ ∀ i, t ≤ i → i < R → nth a (i * C + j) ≠ 0 → absI (nth a (p * C + j)) ≤ absI (nth a (i * C + j)) := by
  obtain ⟨h1, h2, h3, h4⟩ := leastF_some h
  exact ⟨h1, by omega, h3, fun i hi hi2 => h4 i hi (by omega)⟩

/-! ### is another cell of the column not 0? -/
def othB (R C t j p : Nat) (a : List Int) : Bool := (List.range R).any fun i => decide (t ≤ i) && (i != p) && (nth a (i * C + j) != 0)
theorem othB_iff (R C t j p : Nat) (a : List Int) : othB R C t j p a = true ↔ ∃ i, t ≤ i ∧ i < R ∧ i ≠ p ∧ nth a (i * C + j) ≠ 0 := by
  unfold othB
  simp only [List.any_eq_true, List.mem_range, Bool.and_eq_true, decide_eq_true_eq, bne_iff_ne]
  constructor
  · rintro ⟨i, h1, ⟨h2, h3⟩, h4⟩; exact ⟨i, h2, h1, h3, h4⟩
  · rintro ⟨i, h2, h1, h3, h4⟩; exact ⟨i, h1, ⟨h2, h3⟩, h4⟩
theorem othB_no {R C t j p : Nat} {a : List Int} (h : ∀ i, t ≤ i → i < R → i ≠ p → nth a (i * C + j) = 0) : othB R C t j p a = false := by
  cases e : othB R C t j p a
  · rfl
  · obtain ⟨i, h1, h2, h3, h4⟩ := (othB_iff _ _ _ _ _ _).1 e; exact absurd (h i h1 h2 h3) h4

/-! ### one pass -/
def elimF (R C t j p : Nat) (s : LL) : Nat → Option LL
  | 0 => some s
  | k + 1 => (elimF R C t j p s k).bind fun s => if t + k = p ∨ nth s.1 ((t + k) * C + j) = 0 then some s else addS R C (t + k) p (-(nth s.1 ((t + k) * C + j) / nth s.1 (p * C + j))) s
structure EI (R C t j p k : Nat) (s s' : LL) : Prop where
  ok : Ok2 R C s'
  same : ∀ r b, r < R → b < C → (r < t ∨ t + k ≤ r ∨ r = p) → nth s'.1 (r * C + b) = nth s.1 (r * C + b)
  red : ∀ r, t ≤ r → r < t + k → r ≠ p → 0 ≤ nth s'.1 (r * C + j) ∧ nth s'.1 (r * C + j) < absI (nth s.1 (p * C + j))
  zero : ∀ b, b < C → (∀ r, t ≤ r → r < R → nth s.1 (r * C + b) = 0) → ∀ r, t ≤ r → r < R → nth s'.1 (r * C + b) = 0
theorem absI_natAbs (x : Int) : absI x = (x.natAbs : Int) := by unfold absI; split <;> omega
theorem red_step (x y : Int) (h : y ≠ 0) : 0 ≤ x + y * (-(x / y)) ∧ x + y * (-(x / y)) < absI y := by
  have e : x + y * (-(x / y)) = x % y := by rw [Int.emod_def, Int.mul_neg]; omega
  rw [e, absI_natAbs]
  exact ⟨Int.emod_nonneg _ h, Int.emod_lt x h⟩
theorem elimF_EI {R C t j p : Nat} {s : LL} (hs : Ok2 R C s) (hp : t ≤ p) (hpR : p < R) (hj : j < C) (hne : nth s.1 (p * C + j) ≠ 0) {k : Nat} (hk : t + k ≤ R) {s' : LL} (h : elimF R C t j p s k = some s') : EI R C t j p k s s' := by
  induction k generalizing s' with
  | zero => cases h; exact ⟨hs, fun _ _ _ _ _ => rfl, fun r h1 h2 => by omega, fun _ _ hz => hz⟩
  | succ k ih =>
    rw [elimF] at h
    obtain ⟨q, h1, h2⟩ := Option.bind_eq_some_iff.1 h
    have E := ih (by omega) h1
    have epv := E.same p j hpR hj (.inr (.inr rfl))
    split at h2
    · rename_i hc
      cases h2
      refine ⟨E.ok, fun r b hr hb hh => E.same r b hr hb (by omega), fun r h3 h4 h5 => ?_, E.zero⟩
      by_cases e : r = t + k
      · subst e
        rcases hc with hc | hc
        · exact absurd hc h5
        · rw [hc, absI_natAbs]
          exact ⟨Int.le_refl _, by omega⟩
      · exact E.red r h3 (by omega) h5
    · rename_i hc
      obtain ⟨e1, e2⟩ := addS_fst h2
      have ok := addS_ok h2
      have hkp : t + k ≠ p := fun e => hc (.inl e)
      have hna := ok.n1
      rw [e1] at hna
      refine ⟨ok, fun r b hr hb hh => ?_, fun r h3 h4 h5 => ?_, fun b hb hz r h3 h4 => ?_⟩
      · rw [e1, addT_other hr hb (by omega)]
        exact E.same r b hr hb (by omega)
      · rw [e1]
        by_cases e : r = t + k
        · subst e
          rw [addT_same (by omega) hj hna, epv]
          exact red_step _ _ hne
        · rw [addT_other (by omega) hj e]; exact E.red r h3 (by omega) h5
      · have hz' := E.zero b hb hz
        rw [e1]
        by_cases e : r = t + k
        · subst e
          rw [addT_same (by omega) hb hna, hz' _ h3 h4, hz' _ hp hpR]; simp
        · rw [addT_other h4 hb e]; exact hz' r h3 h4

/-! ### passes until the cell is alone -/
def redF (R C t j : Nat) : Nat → LL → Nat → Option (LL × Nat)
  | 0, _, _ => none
  | f + 1, s, p => if othB R C t j p s.1 then (elimF R C t j p s (R - t)).bind fun s' => match least R C t j s'.1 with
      | some p' => redF R C t j f s' p'
      | none => none
    else some (s, p)
def mu (R C t j p : Nat) (a : List Int) : Nat := (nth a (p * C + j)).natAbs + if othB R C t j p a then 1 else 0
/-- p is a least cell -/
structure Lst (R C t j p : Nat) (a : List Int) : Prop where
  lo : t ≤ p
  hi : p < R
  ne : nth a (p * C + j) ≠ 0
  le : ∀ i, t ≤ i → i < R → nth a (i * C + j) ≠ 0 → absI (nth a (p * C + j)) ≤ absI (nth a (i * C + j))
theorem Lst.of {R C t j p : Nat} {a : List Int} (h : least R C t j a = some p) : Lst R C t j p a := let ⟨h1, h2, h3, h4⟩ := least_some h; ⟨h1, h2, h3, h4⟩
theorem elim_least {R C t j p : Nat} {s s' : LL} (hs : Ok2 R C s) (hl : Lst R C t j p s.1) (hj : j < C) (h : elimF R C t j p s (R - t) = some s') : ∃ p', least R C t j s'.1 = some p' := by
  have E := elimF_EI hs hl.lo hl.hi hj hl.ne (by have := hl.lo; have := hl.hi; omega) h
  cases hq : least R C t j s'.1 with
  | some p' => exact ⟨p', rfl⟩
  | none =>
    have := least_none hq p hl.lo hl.hi
    rw [E.same p j hl.hi hj (.inr (.inr rfl))] at this
    exact absurd this hl.ne
theorem mu_less {R C t j p p' : Nat} {s s' : LL} (hs : Ok2 R C s) (hl : Lst R C t j p s.1) (hj : j < C) (ho : othB R C t j p s.1 = true) (h : elimF R C t j p s (R - t) = some s') (hp' : least R C t j s'.1 = some p') : mu R C t j p' s'.1 < mu R C t j p s.1 := by
  have E := elimF_EI hs hl.lo hl.hi hj hl.ne (by have := hl.lo; have := hl.hi; omega) h
  have L := Lst.of hp'
  have epv := E.same p j hl.hi hj (.inr (.inr rfl))
  have hle := L.le p hl.lo hl.hi (by rw [epv]; exact hl.ne)
  rw [epv, absI_natAbs, absI_natAbs] at hle
  unfold mu
  rw [ho, if_pos rfl]
  cases h' : othB R C t j p' s'.1
  · simp; omega
  · simp only [if_true]
    -- another cell is not 0: it is less than the old least one
    obtain ⟨i, h1, h2, h3, h4⟩ := (othB_iff _ _ _ _ _ _).1 h'
    have key : (nth s'.1 (p' * C + j)).natAbs < (nth s.1 (p * C + j)).natAbs := by
      by_cases e : p' = p
      · -- then the other cell i is reduced, and not less than the least one
        subst e
        have hr := E.red i h1 (by omega) h3
        have := L.le i h1 h2 h4
        rw [epv] at this
        rw [absI_natAbs] at this hr
        rw [absI_natAbs] at this
        omega
      · have hr := E.red p' L.lo (by have := L.hi; omega) e
        rw [absI_natAbs] at hr
        omega
    omega
theorem redF_fuel {R C t j : Nat} (hj : j < C) (m : Nat) : ∀ (s : LL) (p : Nat) (f f' : Nat), Ok2 R C s → Lst R C t j p s.1 → mu R C t j p s.1 ≤ m → mu R C t j p s.1 < f → mu R C t j p s.1 < f' → redF R C t j f s p = redF R C t j f' s p := by
  induction m with
  | zero =>
    intro s p f f' hs hl hm _ _
    have : (nth s.1 (p * C + j)).natAbs ≠ 0 := by have := hl.ne; omega
    unfold mu at hm; omega
  | succ m ih =>
    intro s p f f' hs hl hm hf hf'
    obtain ⟨f, rfl⟩ : ∃ x, f = x + 1 := ⟨f - 1, by omega⟩
    obtain ⟨f', rfl⟩ : ∃ x, f' = x + 1 := ⟨f' - 1, by omega⟩
    rw [redF, redF]
    cases ho : othB R C t j p s.1
    · rfl
    · simp only [if_true]
      cases he : elimF R C t j p s (R - t) with
      | none => rfl
      | some s' =>
        simp only [Option.bind_some]
        obtain ⟨p', hp'⟩ := elim_least hs hl hj he
        have hmu := mu_less hs hl hj ho he hp'
        have E := elimF_EI hs hl.lo hl.hi hj hl.ne (by have := hl.lo; have := hl.hi; omega) he
        rw [hp']
        exact ih s' p' f f' E.ok (Lst.of hp') (by omega) (by omega) (by omega)
def redM (R C t j : Nat) (s : LL) (p : Nat) : Option (LL × Nat) := redF R C t j (mu R C t j p s.1 + 1) s p
theorem redM_end {R C t j p : Nat} {s : LL} (ho : othB R C t j p s.1 = false) : redM R C t j s p = some (s, p) := by
  unfold redM; rw [redF, ho]; rfl
theorem redM_fail {R C t j p : Nat} {s : LL} (ho : othB R C t j p s.1 = true) (he : elimF R C t j p s (R - t) = none) : redM R C t j s p = none := by
  unfold redM; rw [redF, ho, he]; rfl
theorem redM_next {R C t j p p' : Nat} {s s' : LL} (hs : Ok2 R C s) (hl : Lst R C t j p s.1) (hj : j < C) (ho : othB R C t j p s.1 = true) (he : elimF R C t j p s (R - t) = some s') (hp' : least R C t j s'.1 = some p') : redM R C t j s p = redM R C t j s' p' := by
  have hmu := mu_less hs hl hj ho he hp'
  have E := elimF_EI hs hl.lo hl.hi hj hl.ne (by have := hl.lo; have := hl.hi; omega) he
  unfold redM
  rw [redF, ho, he]
  simp only [if_true, Option.bind_some]
  rw [hp']
  exact redF_fuel hj _ s' p' _ _ E.ok (Lst.of hp') (Nat.le_refl _) (by omega) (by omega)
/-- what is left behind the passes -/
structure RI (R C t j p : Nat) (s s' : LL) : Prop where
  ok : Ok2 R C s'
  lst : Lst R C t j p s'.1
  alone : ∀ i, t ≤ i → i < R → i ≠ p → nth s'.1 (i * C + j) = 0
  above : ∀ r b, r < t → b < C → nth s'.1 (r * C + b) = nth s.1 (r * C + b)
  zero : ∀ b, b < C → (∀ r, t ≤ r → r < R → nth s.1 (r * C + b) = 0) → ∀ r, t ≤ r → r < R → nth s'.1 (r * C + b) = 0
theorem redF_RI {R C t j : Nat} (hj : j < C) (f : Nat) : ∀ (s : LL) (p : Nat) (s' : LL) (p' : Nat), Ok2 R C s → Lst R C t j p s.1 → redF R C t j f s p = some (s', p') → RI R C t j p' s s' := by
  induction f with
  | zero => intro s p s' p' _ _ h; cases h
  | succ f ih =>
    intro s p s' p' hs hl h
    rw [redF] at h
    split at h
    · obtain ⟨q, h1, h2⟩ := Option.bind_eq_some_iff.1 h
      have E := elimF_EI hs hl.lo hl.hi hj hl.ne (by have := hl.lo; have := hl.hi; omega) h1
      split at h2
      · rename_i p2 hp2
        have I := ih q p2 s' p' E.ok (Lst.of hp2) h2
        refine ⟨I.ok, I.lst, I.alone, fun r b hr hb => ?_, fun b hb hz => I.zero b hb (E.zero b hb hz)⟩
        rw [I.above r b hr hb]; exact E.same r b (by have := hl.lo; have := hl.hi; omega) hb (.inl hr)
      · cases h2
    · rename_i ho
      cases h
      exact ⟨hs, hl, fun i h1 h2 h3 => by
        refine Classical.byContradiction fun hn => ho ?_
        exact (othB_iff _ _ _ _ _ _).2 ⟨i, h1, h2, h3, hn⟩, fun _ _ _ _ => rfl, fun _ _ hz => hz⟩
end Go.Proofs.Ythajmffhgbenpaa

/- The Hermite form: columns; the rows of zeros come last. -/
namespace Go.Proofs.Ythajmffhgbenpaa
set_option linter.unusedSimpArgs false
set_option linter.unusedVariables false

/-! ### the rows above -/
def upF (R C t j : Nat) (s : LL) : Nat → Option LL
  | 0 => some s
  | k + 1 => (upF R C t j s k).bind fun s => addS R C k t (-(nth s.1 (k * C + j) / nth s.1 (t * C + j))) s
structure UI (R C t j k : Nat) (s s' : LL) : Prop where
  ok : Ok2 R C s'
  same : ∀ r b, r < R → b < C → k ≤ r → nth s'.1 (r * C + b) = nth s.1 (r * C + b)
  keep : ∀ b, b < C → nth s.1 (t * C + b) = 0 → ∀ r, r < R → nth s'.1 (r * C + b) = nth s.1 (r * C + b)
  red : ∀ r, r < k → 0 ≤ nth s'.1 (r * C + j) ∧ nth s'.1 (r * C + j) < absI (nth s.1 (t * C + j))
theorem upF_UI {R C t j : Nat} {s : LL} (hs : Ok2 R C s) (ht : t < R) (hj : j < C) (hne : nth s.1 (t * C + j) ≠ 0) {k : Nat} (hk : k ≤ t) {s' : LL} (h : upF R C t j s k = some s') : UI R C t j k s s' := by
  induction k generalizing s' with
  | zero => cases h; exact ⟨hs, fun _ _ _ _ _ => rfl, fun _ _ _ _ _ => rfl, fun r h => by omega⟩
  | succ k ih =>
    rw [upF] at h
    obtain ⟨q, h1, h2⟩ := Option.bind_eq_some_iff.1 h
    have U := ih (by omega) h1
    obtain ⟨e1, e2⟩ := addS_fst h2
    have ok := addS_ok h2
    have hna := ok.n1
    rw [e1] at hna
    have ept := U.same t j ht hj (by omega)
    refine ⟨ok, fun r b hr hb hh => ?_, fun b hb hz r hr => ?_, fun r hr => ?_⟩
    · rw [e1, addT_other hr hb (by omega)]; exact U.same r b hr hb (by omega)
    · rw [e1]
      by_cases e : r = k
      · subst e
        rw [addT_same (by omega) hb hna, U.keep b hb hz _ (by omega), U.keep b hb hz t ht, hz]; simp
      · rw [addT_other hr hb e]; exact U.keep b hb hz r hr
    · rw [e1]
      by_cases e : r = k
      · subst e
        rw [addT_same (by omega) hj hna, ept]
        exact red_step _ _ hne
      · rw [addT_other (by omega) hj e]; exact U.red r (by omega)

/-! ### one column; all of them -/
def swapIf (R C p t : Nat) (s : LL) : LL := if p = t then s else swpS R C p t s
def negIf (R C t j : Nat) (s : LL) : LL := if nth s.1 (t * C + j) < 0 then negS R C t s else s
/-- t: the rows done so far -/
abbrev TS := Nat × LL
def colS (R C j : Nat) (x : TS) : Option TS :=
  if x.1 < R then match least R C x.1 j x.2.1 with
    | none => some x
    | some p => (redM R C x.1 j x.2 p).bind fun y => (upF R C x.1 j (negIf R C x.1 j (swapIf R C y.2 x.1 y.1)) x.1).map fun s => (x.1 + 1, s)
  else some x
def hermF (R C : Nat) (s : LL) : Nat → Option TS
  | 0 => some (0, s)
  | j + 1 => (hermF R C s j).bind (colS R C j)
def idL (R : Nat) : List Int := tab R R fun a b => if a = b then 1 else 0
theorem idL_length (R : Nat) : (idL R).length = R * R := tab_length _ _ _
theorem idL_num (R : Nat) : allNum (idL R) = true := (allNum_iff _).2 fun k hk => by
  rw [idL_length] at hk
  obtain ⟨h1, h2, h3⟩ := idx_split hk
  rw [h3]; unfold idL; rw [tab_nth _ h1 h2]; split <;> decide
def hermT (R C : Nat) (l : List Int) : Option TS := hermF R C (l, idL R) C
theorem hermF_none {R C : Nat} {s : LL} {j k : Nat} (h : hermF R C s j = none) (hk : j ≤ k) : hermF R C s k = none := by
  induction k with
  | zero => rw [show j = 0 by omega] at h; exact h
  | succ k ih =>
    by_cases e : j = k + 1
    · rw [← e]; exact h
    · rw [hermF, ih (by omega)]; rfl
/-- no column is left to do where all rows are done -/
theorem hermF_full {R C : Nat} {s : LL} {j k : Nat} {x : TS} (h : hermF R C s j = some x) (hx : ¬ x.1 < R) (hk : j ≤ k) : hermF R C s k = some x := by
  induction k with
  | zero => rw [show j = 0 by omega] at h; exact h
  | succ k ih =>
    by_cases e : j = k + 1
    · rw [← e]; exact h
    · rw [hermF, ih (by omega)]
      simp only [Option.bind_some, colS]
      rw [if_neg hx]

structure HI (R C j : Nat) (x : TS) : Prop where
  ok : Ok2 R C x.2
  tR : x.1 ≤ R
  full : ∀ i, i < x.1 → ∃ c, c < j ∧ nth x.2.1 (i * C + c) ≠ 0
  zero : ∀ r, x.1 ≤ r → r < R → ∀ c, c < j → nth x.2.1 (r * C + c) = 0
theorem swpT_cell {R C i j a b : Nat} {l : List Int} (ha : a < R) (hb : b < C) : nth (swpT R C i j l) (a * C + b) = if a = i then nth l (j * C + b) else if a = j then nth l (i * C + b) else nth l (a * C + b) := by
  unfold swpT; rw [tab_nth _ ha hb]
theorem negT_cell {R C i a b : Nat} {l : List Int} (hl : l.length = R * C) (hn : allNum l = true) (ha : a < R) (hb : b < C) : nth (negT R C i l) (a * C + b) = if a = i then - nth l (a * C + b) else nth l (a * C + b) := by
  unfold negT; rw [tab_nth _ ha hb]
  split
  · rename_i h; rw [← h]; exact mulB_neg ((allNum_iff _).1 hn _ (by rw [hl]; exact idx_lt ha hb))
  · rfl
theorem colS_HI {R C j : Nat} {x y : TS} (hj : j < C) (H : HI R C j x) (h : colS R C j x = some y) : HI R C (j + 1) y := by
  obtain ⟨t, s⟩ := x
  unfold colS at h
  simp only at h
  split at h
  · rename_i ht
    split at h
    · rename_i hn
      cases h
      refine ⟨H.ok, H.tR, fun i hi => ?_, fun r h1 h2 c hc => ?_⟩
      · obtain ⟨c, hc, e⟩ := H.full i hi; exact ⟨c, by omega, e⟩
      · by_cases e : c = j
        · rw [e]; exact least_none hn r h1 h2
        · exact H.zero r h1 h2 c (by omega)
    · rename_i p hp
      obtain ⟨⟨q, p'⟩, h1, h2⟩ := Option.bind_eq_some_iff.1 h
      obtain ⟨s3, h3, rfl⟩ := Option.map_eq_some_iff.1 h2
      simp only at h3 ⊢
      have I := redF_RI hj _ s p q p' H.ok (Lst.of hp) h1
      have hp'R := I.lst.hi
      -- behind the exchange
      have A : ∃ s1, s1 = swapIf R C p' t q ∧ Ok2 R C s1 ∧ nth s1.1 (t * C + j) ≠ 0 ∧ (∀ r, t < r → r < R → nth s1.1 (r * C + j) = 0) ∧ (∀ r b, r < t → b < C → nth s1.1 (r * C + b) = nth s.1 (r * C + b)) ∧ (∀ b, b < j → ∀ r, t ≤ r → r < R → nth s1.1 (r * C + b) = 0) := by
        refine ⟨_, rfl, ?_⟩
        have zq : ∀ b, b < j → ∀ r, t ≤ r → r < R → nth q.1 (r * C + b) = 0 := fun b hb => I.zero b (by omega) fun r h1 h2 => H.zero r h1 h2 b hb
        unfold swapIf
        by_cases e : p' = t
        · rw [if_pos e]
          subst e
          exact ⟨I.ok, I.lst.ne, fun r h1 h2 => I.alone r (by omega) h2 (by omega), I.above, zq⟩
        · rw [if_neg e]
          have hlo := I.lst.lo
          refine ⟨swpS_ok I.ok hp'R ht, ?_, fun r h1 h2 => ?_, fun r b hr hb => ?_, fun b hb r h1 h2 => ?_⟩
          · show nth (swpT R C p' t q.1) _ ≠ 0
            rw [swpT_cell ht hj, if_neg (Ne.symm e), if_pos rfl]; exact I.lst.ne
          · show nth (swpT R C p' t q.1) _ = 0
            rw [swpT_cell h2 hj]
            split
            · exact I.alone t (by omega) ht (Ne.symm e)
            · split
              · omega
              · rename_i h5 _; exact I.alone r (by omega) h2 h5
          · show nth (swpT R C p' t q.1) _ = _
            rw [swpT_cell (by omega) hb, if_neg (by omega), if_neg (by omega)]; exact I.above r b hr hb
          · show nth (swpT R C p' t q.1) _ = 0
            rw [swpT_cell h2 (by omega)]
            split
            · exact zq b hb t (by omega) ht
            · split
              · exact zq b hb p' hlo hp'R
              · exact zq b hb r h1 h2
      obtain ⟨s1, es1, ok1, ne1, col1, ab1, z1⟩ := A
      rw [← es1] at h3
      have B : ∃ s2, s2 = negIf R C t j s1 ∧ Ok2 R C s2 ∧ nth s2.1 (t * C + j) ≠ 0 ∧ (∀ r, t < r → r < R → nth s2.1 (r * C + j) = 0) ∧ (∀ r b, r < t → b < C → nth s2.1 (r * C + b) = nth s.1 (r * C + b)) ∧ (∀ b, b < j → ∀ r, t ≤ r → r < R → nth s2.1 (r * C + b) = 0) := by
        refine ⟨_, rfl, ?_⟩
        unfold negIf
        split
        · have cell : ∀ a b, a < R → b < C → nth (negS R C t s1).1 (a * C + b) = if a = t then - nth s1.1 (a * C + b) else nth s1.1 (a * C + b) := fun a b ha hb => negT_cell ok1.l1 ok1.n1 ha hb
          refine ⟨negS_ok ok1 ht, ?_, fun r h1 h2 => ?_, fun r b hr hb => ?_, fun b hb r h1 h2 => ?_⟩
          · rw [cell _ _ ht hj, if_pos rfl]; omega
          · rw [cell _ _ h2 hj, if_neg (by omega)]; exact col1 r h1 h2
          · rw [cell _ _ (by omega) hb, if_neg (by omega)]; exact ab1 r b hr hb
          · rw [cell _ _ h2 (by omega), z1 b hb r h1 h2]; simp
        · exact ⟨ok1, ne1, col1, ab1, z1⟩
      obtain ⟨s2, es2, ok2, ne2, col2, ab2, z2⟩ := B
      rw [← es2] at h3
      have U := upF_UI ok2 ht hj ne2 (Nat.le_refl t) h3
      refine ⟨U.ok, by omega, fun i hi => ?_, fun r h4 h5 c hc => ?_⟩
      · by_cases e : i = t
        · subst e; exact ⟨j, by omega, by rw [U.same i j ht hj (Nat.le_refl _)]; exact ne2⟩
        · obtain ⟨c, hc, hne⟩ := H.full i (show i < t by have : i < t + 1 := hi; omega)
          refine ⟨c, by omega, ?_⟩
          show nth s3.1 _ ≠ 0
          rw [U.keep c (by omega) (z2 c hc t (Nat.le_refl _) ht) i (by have : i < t + 1 := hi; omega), ab2 i c (by have : i < t + 1 := hi; omega) (by omega)]
          exact hne
      · have h4' : t < r := h4
        show nth s3.1 _ = 0
        rw [U.same r c h5 (by omega) (by omega)]
        by_cases e : c = j
        · subst e; exact col2 r h4' h5
        · exact z2 c (by omega) r (by omega) h5
  · rename_i ht
    cases h
    refine ⟨H.ok, H.tR, fun i hi => ?_, fun r h1 h2 c hc => ?_⟩
    · obtain ⟨c, hc, e⟩ := H.full i hi; exact ⟨c, by omega, e⟩
    · exact absurd (Nat.lt_of_le_of_lt h1 h2) ht
theorem hermF_HI {R C : Nat} {s : LL} (hs : Ok2 R C s) {j : Nat} (hj : j ≤ C) {x : TS} (h : hermF R C s j = some x) : HI R C j x := by
  induction j generalizing x with
  | zero => cases h; exact ⟨hs, Nat.zero_le _, fun i hi => absurd hi (Nat.not_lt_zero _), fun _ _ _ c hc => by omega⟩
  | succ j ih =>
    rw [hermF] at h
    obtain ⟨y, h1, h2⟩ := Option.bind_eq_some_iff.1 h
    exact colS_HI (by omega) (ih (by omega) h1) h2
end Go.Proofs.Ythajmffhgbenpaa

/- Contracts: the reference's operation on the rows of a matrix. -/
namespace Go.Proofs.Ythajmffhgbenpaa
set_option linter.unusedSimpArgs false
set_option linter.unusedVariables false
open Go.RowKit

/-! ### plain: column by column -/
/-- the columns before J are as f says, the others as in l -/
def ColD (R C : Nat) (f : Nat → Nat → Int) (l : List Int) (J : Nat) (m : List Int) : Prop := m.length = R * C ∧ ∀ a b, a < R → b < C → nth m (a * C + b) = if b < J then f a b else nth l (a * C + b)
theorem ColD.zero {R C : Nat} {f : Nat → Nat → Int} {l : List Int} (hl : l.length = R * C) : ColD R C f l 0 l := ⟨hl, fun a b _ _ => by simp⟩
theorem ColD.cell {R C : Nat} {f : Nat → Nat → Int} {l m : List Int} {J a : Nat} (h : ColD R C f l J m) (ha : a < R) (hJ : J < C) : nth m (a * C + J) = nth l (a * C + J) := by
  rw [h.2 a J ha hJ, if_neg (by omega)]
theorem ColD.set2 {R C : Nat} {f : Nat → Nat → Int} {l m : List Int} {J i j : Nat} (h : ColD R C f l J m) (hi : i < R) (hj : j < R) (hJ : J < C) (ho : ∀ a, a < R → a ≠ i → a ≠ j → f a J = nth l (a * C + J)) :
    ColD R C f l (J + 1) ((m.set (i * C + J) (f i J)).set (j * C + J) (f j J)) := by
  refine ⟨by rw [List.length_set, List.length_set]; exact h.1, fun a b ha hb => ?_⟩
  rw [nth_set _ _ _ _ (by rw [List.length_set, h.1]; exact idx_lt hj hJ), nth_set _ _ _ _ (by rw [h.1]; exact idx_lt hi hJ)]
  by_cases e1 : a * C + b = j * C + J
  · obtain ⟨rfl, rfl⟩ := idx_inj hb hJ e1
    rw [if_pos rfl, if_pos (by omega)]
  · rw [if_neg e1]
    by_cases e2 : a * C + b = i * C + J
    · obtain ⟨rfl, rfl⟩ := idx_inj hb hJ e2
      rw [if_pos rfl, if_pos (by omega)]
    · rw [if_neg e2, h.2 a b ha hb]
      by_cases e3 : b = J
      · subst e3
        rw [if_neg (by omega), if_pos (by omega), ho a ha (fun e => e2 (by rw [e])) (fun e => e1 (by rw [e]))]
      · by_cases e4 : b < J
        · rw [if_pos e4, if_pos (by omega)]
        · rw [if_neg e4, if_neg (by omega)]
theorem ColD.set1 {R C : Nat} {f : Nat → Nat → Int} {l m : List Int} {J i : Nat} (h : ColD R C f l J m) (hi : i < R) (hJ : J < C) (ho : ∀ a, a < R → a ≠ i → f a J = nth l (a * C + J)) :
    ColD R C f l (J + 1) (m.set (i * C + J) (f i J)) := by
  have := h.set2 hi hi hJ (fun a h1 h2 _ => ho a h1 h2)
  rwa [List.set_set] at this
theorem ColD.all {R C : Nat} {f : Nat → Nat → Int} {l m : List Int} (h : ColD R C f l C m) : m = tab R C f := tab_ext h.1 fun a b ha hb => by rw [h.2 a b ha hb, if_pos hb]

theorem Own.put {w : World} {B g n cap : Nat} {l : List Int} (h : Own w B (.slice (some ⟨g, 0, none⟩) n cap) l) (hn : l.length = n) (i : Nat) (x : Int) :
    Own (w.setCell ⟨g, i, none⟩ (.int .i64 x)) B (.slice (some ⟨g, 0, none⟩) n cap) (l.set i x) := by
  subst hn; exact h.set _ _
def addFn (C i j : Nat) (t : Int) (l : List Int) : Nat → Nat → Int := fun a b => if a = i then addB (nth l (i * C + b)) (mulB (nth l (j * C + b)) t) else nth l (a * C + b)
def swpFn (C i j : Nat) (l : List Int) : Nat → Nat → Int := fun a b => if a = i then nth l (j * C + b) else if a = j then nth l (i * C + b) else nth l (a * C + b)
def negFn (C i : Nat) (l : List Int) : Nat → Nat → Int := fun a b => if a = i then mulB (nth l (i * C + b)) (-1) else nth l (a * C + b)
theorem addFn_other {C i j a b : Nat} {t : Int} {l : List Int} (h : a ≠ i) : addFn C i j t l a b = nth l (a * C + b) := by unfold addFn; rw [if_neg h]
theorem addFn_same {C i j b : Nat} {t : Int} {l : List Int} : addFn C i j t l i b = addB (nth l (i * C + b)) (mulB (nth l (j * C + b)) t) := by unfold addFn; rw [if_pos rfl]
theorem negFn_other {C i a b : Nat} {l : List Int} (h : a ≠ i) : negFn C i l a b = nth l (a * C + b) := by unfold negFn; rw [if_neg h]
theorem negFn_same {C i b : Nat} {l : List Int} : negFn C i l i b = mulB (nth l (i * C + b)) (-1) := by unfold negFn; rw [if_pos rfl]
theorem swpFn_other {C i j a b : Nat} {l : List Int} (h : a ≠ i) (h2 : a ≠ j) : swpFn C i j l a b = nth l (a * C + b) := by unfold swpFn; rw [if_neg h, if_neg h2]
theorem swpFn_i {C i j b : Nat} {l : List Int} : swpFn C i j l i b = nth l (j * C + b) := by unfold swpFn; rw [if_pos rfl]
theorem swpFn_j {C i j b : Nat} {l : List Int} : swpFn C i j l j b = nth l (i * C + b) := by
  unfold swpFn
  split
  · rename_i h; rw [h]
  · rw [if_pos rfl]
/-- a variable that holds an operation -/
structure OBox (w : World) (b : Nat) (k i j t : Int) : Prop where
  lt : b < w.heap.size
  c0 : w.cell? ⟨b, 0, none⟩ = some (.int .i64 k)
  c1 : w.cell? ⟨b, 1, none⟩ = some (.int .i64 i)
  c2 : w.cell? ⟨b, 2, none⟩ = some (.int .i64 j)
  c3 : w.cell? ⟨b, 3, none⟩ = some (.int .i64 t)
theorem OBox.cells {w : World} {b : Nat} {k i j t : Int} (h : OBox w b k i j t) : w.cell? ⟨b, 0, none⟩ = some (.int .i64 k) ∧ w.cell? ⟨b, 1, none⟩ = some (.int .i64 i) ∧ w.cell? ⟨b, 2, none⟩ = some (.int .i64 j) ∧ w.cell? ⟨b, 3, none⟩ = some (.int .i64 t) := ⟨h.c0, h.c1, h.c2, h.c3⟩
theorem OBox.new_ (w : World) (k i j t : Int) (ty : TypeId) {b : Nat} (hb : w.heap.size = b) : OBox (w.alloc (.cells #[.int .i64 k, .int .i64 i, .int .i64 j, .int .i64 t] ty)) b k i j t := by
  subst hb
  exact ⟨by simp, by simp [go_sem], by simp [go_sem], by simp [go_sem], by simp [go_sem]⟩
theorem OBox.grows {w w' : World} {b : Nat} {k i j t : Int} (h : OBox w b k i j t) (g : Grows w w') : OBox w' b k i j t :=
  ⟨Nat.lt_of_lt_of_le h.lt g.size, (g.cell (p := ⟨b, 0, none⟩) h.lt).trans h.c0, (g.cell (p := ⟨b, 1, none⟩) h.lt).trans h.c1, (g.cell (p := ⟨b, 2, none⟩) h.lt).trans h.c2, (g.cell (p := ⟨b, 3, none⟩) h.lt).trans h.c3⟩
theorem OBox.own {w w' : World} {b : Nat} {k i j t : Int} {v : Value} (h : OBox w b k i j t) (hg : w.grownBy w' v.ownBlock) (hne : ∀ g, v.ownBlock = some g → g ≠ b) : OBox w' b k i j t := by
  have hk := hg.block b h.lt (fun e => hne b e.symm rfl)
  exact ⟨Nat.lt_of_lt_of_le h.lt hg.size, (World.cell?_of_block hk).trans h.c0, (World.cell?_of_block hk).trans h.c1, (World.cell?_of_block hk).trans h.c2, (World.cell?_of_block hk).trans h.c3⟩
theorem OBox.ext {w : World} {b : Nat} {k i j t : Int} (h : OBox w b k i j t) :
    (∀ W, (Proofs.Ythajmffhgbenpaa.ext w W).cell? ⟨b, 0, none⟩ = some (.int .i64 k)) ∧ (∀ W, (Proofs.Ythajmffhgbenpaa.ext w W).cell? ⟨b, 1, none⟩ = some (.int .i64 i)) ∧ (∀ W, (Proofs.Ythajmffhgbenpaa.ext w W).cell? ⟨b, 2, none⟩ = some (.int .i64 j)) ∧ (∀ W, (Proofs.Ythajmffhgbenpaa.ext w W).cell? ⟨b, 3, none⟩ = some (.int .i64 t)) :=
  ⟨ext_is h.c0, ext_is h.c1, ext_is h.c2, ext_is h.c3⟩
theorem grown_left {w w1 w' : World} {v : Value} (h : w1.grownBy w' v.ownBlock) (g : Grows w w1) : w.grownBy w' v.ownBlock := only_left g h
theorem grown_right {w w1 w' : World} {r : Option Nat} (h : w.grownBy w1 r) (g : Grows w1 w') : w.grownBy w' r := only_right h g

/-- the boxes of a function with a matrix and an operation -/
theorem mat_op (w : World) (r c : Int) (u : Value) (k i j t : Int) :
    ∃ w1, w1 = (w.alloc (.cells #[.int .i64 r, .int .i64 c, u] 26)).alloc (.cells #[.int .i64 k, .int .i64 i, .int .i64 j, .int .i64 t] 83) ∧
      MBox w1 w.heap.size r c u ∧ OBox w1 (w.heap.size + 1) k i j t ∧ w1.heap.size = w.heap.size + 2 ∧ Grows w w1 :=
  ⟨_, rfl, (MBox.mk_ _ _ _ _ _).grows ((Below.refl _ _).alloc (Nat.le_refl _) _), OBox.new_ _ _ _ _ _ _ (by simp), by simp, by exact bel0⟩

section
set_option maxHeartbeats 2000000
set_option maxRecDepth 100000
theorem l5Add_c (R C : Nat) (A : Option Addr) (l : List Int) (n cap i j B : Nat) (t : Int) (w : World) (hn : l.length = n) (hl : n = R * C) (hR : R ≤ 24) (hC : C ≤ 24) (ho : Own w B (.slice A n cap) l) (hm : mkd l) (hi : i < R) (hj : j < R) (ht : isNum t = true) :
    Calls Try.prog 145 #[.agg #[.int .i64 R, .int .i64 C, .slice A n cap], .agg #[.int .i64 2, .int .i64 i, .int .i64 j, .int .i64 t]] w fun e w' => e = .returned (.tuple #[]) ∧ Own w' B (.slice A n cap) (addT R C i j t l) ∧ w.grownBy w' (Value.slice A n cap).ownBlock := by
  obtain ⟨w1, hw1, mb, ob, hs1, g01⟩ := mat_op w R C (.slice A n cap) 2 i j t
  have HW1 := Lib.hid hw1
  have HS1 := Lib.hid hs1
  have ho1 := ho.grows g01
  have hne : ∀ g, (Value.slice A n cap).ownBlock = some g → g < w.heap.size := fun g h => (World.ownsRow.lt ho g h).2
  have HNE := Lib.hid hne
  have HL := Lib.hid hl
  have HN := Lib.hid hn
  have HMK := Lib.hid fun a b ha hb => mkd_nth (R := R) (C := C) (a := a) (b := b) (hn.trans hl) hm ha hb
  have HT := Lib.hid ht
  have htb := (isNum_iff t).1 ht
  have hRC : R * C ≤ 576 := Nat.mul_le_mul hR hC
  have HI : ∀ a, a < R → a * C ≤ 576 := fun a ha => by have := Nat.mul_le_mul_right C (Nat.le_of_lt ha); omega
  have k1 := castMul i C; have k2 := castMulLe (HI i hi); have k3 := castMul j C; have k4 := castMulLe (HI j hj)
  have e1 := Lib.hid (ColD.zero (f := addFn C i j t l) (hn.trans hl))
  clear hw1 hs1 hl hn hm ht hne ho HI
  go_enter Try.func145, Try.ntmps145
  go_wp2_with fail
  rw [← HW1.out]
  go_loopw [4] (fun k wr => ∃ (J : Nat) (m : List Int), k = .int .i64 J ∧ J ≤ C ∧ ColD R C (addFn C i j t l) l J m ∧ Own wr B (.slice A n cap) m ∧ w1.grownBy wr (Value.slice A n cap).ownBlock) (fun k _ => C - (intOf k).toNat)
  case atStart => exact ⟨0, l, rfl, Nat.zero_le _, e1.out, ho1, World.grownBy.refl _ _⟩
  case round =>
    clear ho1
    obtain ⟨J, m, rfl, hJ, hd, ho, hg⟩ := hrel
    have mb2 := mb.own hg (fun g h => Nat.ne_of_lt (HNE.out g h))
    have ob2 := ob.own hg (fun g h => by have := HNE.out g h; omega)
    by_cases hlt : J < C
    · have hml := hd.1
      have hlen : R * C = n := HL.out.symm
      obtain ⟨g, cap', e, hgB, hgw⟩ := ho.form (by rw [hml]; have := idx_lt hi hlt; omega)
      simp only [Value.slice.injEq] at e
      obtain ⟨rfl, hnm, rfl⟩ := e
      clear hnm
      have hg2 : g < w.heap.size := HNE.out g (by simp [Value.ownBlock])
      have l1 := idx_lt hi hlt
      have l2 := idx_lt hj hlt
      have c1 := ho.cell (i * C + J) (by rw [hml]; exact l1)
      have c2 := ho.cell (j * C + J) (by rw [hml]; exact l2)
      have cf := ho.free (i * C + J)
      rw [hd.cell hi hlt] at c1
      rw [hd.cell hj hlt] at c2
      have hnx := hd.set1 hi hlt (fun a ha hne => addFn_other hne)
      rw [addFn_same] at hnx
      have HNX := Lib.hid hnx
      have HMX := HMK.out i J hi hlt
      have HMY := HMK.out j J hj hlt
      have HML := Lib.hid (hml.trans hlen)
      have CM := Lib.hid fun W => l1Mul_c (nth l (j * C + J)) t W HMY (.inr HT.out)
      have CA := Lib.hid fun W => l1Add_c (nth l (i * C + J)) (mulB (nth l (j * C + J)) t) W HMX (mulB_or' _ _)
      have HD := Lib.hid hd
      have p1 := castPos i C J; have p2 := castLt (n := R * C) l1; have p3 := castPos j C J; have p4 := castLt (n := R * C) l2
      rw [hlen] at p2 p4
      have q1 : (J : Int) < (C : Int) := by omega
      have a1 := castIdx i C J
      have a2 := castIdx j C J
      clear hd hnx hml hlen l1 l2 HMX HMY
      obtain ⟨b0, b1, b2⟩ := mb2.cells
      obtain ⟨x0, x1, x2, x3⟩ := ob2.cells
      generalize mulB (nth l (j * C + J)) t = y at *
      generalize addB (nth l (i * C + J)) y = z at *
      generalize nth l (j * C + J) = y0 at *
      generalize nth l (i * C + J) = z0 at *
      go_wp2_with fail
      obtain ⟨d0, d1, d2⟩ := mb2.ext
      obtain ⟨f0, f1, f2, f3⟩ := ob2.ext
      ((refine wp_region_tail 16 (by kernel_rfl) (by kernel_rfl) ?_; simp only [List.take_succ_cons, List.take_zero, List.drop_succ_cons, List.drop_zero]); (repeat (go_big_quiet_step ((first | (go_at_call 98; with_reducible exact extS (CM.out _)) | (go_at_call 97; with_reducible exact extS (CA.out _)))))); refine wpQuiet_nil ?_; rintro w3 ⟨w30, hw30⟩; have g3 := grows_of_ext hw30; clear hw30 w30)
      have cf3 := (g3.frozen (p := ⟨g, i * C + J, none⟩) hgw).trans cf
      have c13 := (g3.cell (p := ⟨g, i * C + J, none⟩) hgw).trans c1
      clear d0 d1 d2 f0 f1 f2 f3 b0 b1 b2 x0 x1 x2 x3 c1 cf CM
      go_wp2_with fail
      go_round
      case rel => exact ⟨J + 1, _, by go_num, by omega, HNX.out, (ho.grows g3).put HML.out _ _, only_setCell (p := ⟨g, i * C + J, none⟩) (grown_right hg g3) rfl _⟩
      case measure => simp [intOf]; omega
    · obtain rfl : J = C := by omega
      obtain ⟨b0, b1, b2⟩ := mb2.cells
      go_wp2_with fail
      go_end0
      refine ⟨rfl, ?_, grown_left hg g01⟩
      have := hd.all
      subst this
      exact ho
theorem l5Swp_c (R C : Nat) (A : Option Addr) (l : List Int) (n cap i j B : Nat) (w : World) (hn : l.length = n) (hl : n = R * C) (hR : R ≤ 24) (hC : C ≤ 24) (ho : Own w B (.slice A n cap) l) (hi : i < R) (hj : j < R) (hij : i ≠ j) :
    Calls Try.prog 145 #[.agg #[.int .i64 R, .int .i64 C, .slice A n cap], .agg #[.int .i64 0, .int .i64 i, .int .i64 j, .int .i64 0]] w fun e w' => e = .returned (.tuple #[]) ∧ Own w' B (.slice A n cap) (swpT R C i j l) ∧ w.grownBy w' (Value.slice A n cap).ownBlock := by
  obtain ⟨w1, hw1, mb, ob, hs1, g01⟩ := mat_op w R C (.slice A n cap) 0 i j 0
  have HW1 := Lib.hid hw1
  have HS1 := Lib.hid hs1
  have ho1 := ho.grows g01
  have hne : ∀ g, (Value.slice A n cap).ownBlock = some g → g < w.heap.size := fun g h => (World.ownsRow.lt ho g h).2
  have HNE := Lib.hid hne
  have HL := Lib.hid hl
  have HN := Lib.hid hn
  have hRC : R * C ≤ 576 := Nat.mul_le_mul hR hC
  have HI : ∀ a, a < R → a * C ≤ 576 := fun a ha => by have := Nat.mul_le_mul_right C (Nat.le_of_lt ha); omega
  have k1 := castMul i C; have k2 := castMulLe (HI i hi); have k3 := castMul j C; have k4 := castMulLe (HI j hj)
  have e1 := Lib.hid (ColD.zero (f := swpFn C i j l) (hn.trans hl))
  clear hw1 hs1 hl hn hne ho HI
  go_enter Try.func145, Try.ntmps145
  go_wp2_with fail
  rw [← HW1.out]
  go_loopw [4] (fun k wr => ∃ (J : Nat) (m : List Int), k = .int .i64 J ∧ J ≤ C ∧ ColD R C (swpFn C i j l) l J m ∧ Own wr B (.slice A n cap) m ∧ w1.grownBy wr (Value.slice A n cap).ownBlock) (fun k _ => C - (intOf k).toNat)
  case atStart => exact ⟨0, l, rfl, Nat.zero_le _, e1.out, ho1, World.grownBy.refl _ _⟩
  case round =>
    clear ho1
    obtain ⟨J, m, rfl, hJ, hd, ho, hg⟩ := hrel
    have mb2 := mb.own hg (fun g h => Nat.ne_of_lt (HNE.out g h))
    have ob2 := ob.own hg (fun g h => by have := HNE.out g h; omega)
    by_cases hlt : J < C
    · have hml := hd.1
      have hlen : R * C = n := HL.out.symm
      obtain ⟨g, cap', e, hgB, hgw⟩ := ho.form (by rw [hml]; have := idx_lt hi hlt; omega)
      simp only [Value.slice.injEq] at e
      obtain ⟨rfl, hnm, rfl⟩ := e
      clear hnm
      have hg2 : g < w.heap.size := HNE.out g (by simp [Value.ownBlock])
      have l1 := idx_lt hi hlt
      have l2 := idx_lt hj hlt
      have c1 := ho.cell (i * C + J) (by rw [hml]; exact l1)
      have c2 := ho.cell (j * C + J) (by rw [hml]; exact l2)
      have cf := ho.free (i * C + J)
      rw [hd.cell hi hlt] at c1
      rw [hd.cell hj hlt] at c2
      have hnx := hd.set2 hi hj hlt (fun a ha h1 h2 => swpFn_other h1 h2)
      rw [swpFn_i, swpFn_j] at hnx
      have HNX := Lib.hid hnx
      have ho1 : ¬ (i * C + J = j * C + J) := fun e => hij (idx_inj hlt hlt e).1
      have ho2 : ¬ (j * C + J = i * C + J) := fun e => ho1 e.symm
      have cf2 := ho.free (j * C + J)
      have HML := Lib.hid (hml.trans hlen)
      have HD := Lib.hid hd
      have p1 := castPos i C J; have p2 := castLt (n := R * C) l1; have p3 := castPos j C J; have p4 := castLt (n := R * C) l2
      rw [hlen] at p2 p4
      have q1 : (J : Int) < (C : Int) := by omega
      have a1 := castIdx i C J
      have a2 := castIdx j C J
      clear hd hnx hml hlen l1 l2
      obtain ⟨b0, b1, b2⟩ := mb2.cells
      obtain ⟨x0, x1, x2, x3⟩ := ob2.cells
      generalize nth l (j * C + J) = y0 at *
      generalize nth l (i * C + J) = z0 at *
      go_wp2_with fail
      go_round
      case rel => exact ⟨J + 1, _, by go_num, by omega, HNX.out, (ho.put HML.out _ _).put (by rw [List.length_set]; exact HML.out) _ _, only_setCell (p := ⟨g, j * C + J, none⟩) (only_setCell (p := ⟨g, i * C + J, none⟩) hg rfl _) rfl _⟩
      case measure => simp [intOf]; omega
    · obtain rfl : J = C := by omega
      obtain ⟨b0, b1, b2⟩ := mb2.cells
      go_wp2_with fail
      go_end0
      refine ⟨rfl, ?_, grown_left hg g01⟩
      have := hd.all
      subst this
      exact ho
theorem l5Neg_c (R C : Nat) (A : Option Addr) (l : List Int) (n cap i B : Nat) (w : World) (hn : l.length = n) (hl : n = R * C) (hR : R ≤ 24) (hC : C ≤ 24) (ho : Own w B (.slice A n cap) l) (hm : mkd l) (hi : i < R) :
    Calls Try.prog 145 #[.agg #[.int .i64 R, .int .i64 C, .slice A n cap], .agg #[.int .i64 1, .int .i64 i, .int .i64 i, .int .i64 0]] w fun e w' => e = .returned (.tuple #[]) ∧ Own w' B (.slice A n cap) (negT R C i l) ∧ w.grownBy w' (Value.slice A n cap).ownBlock := by
  obtain ⟨w1, hw1, mb, ob, hs1, g01⟩ := mat_op w R C (.slice A n cap) 1 i i 0
  have HW1 := Lib.hid hw1
  have HS1 := Lib.hid hs1
  have ho1 := ho.grows g01
  have hne : ∀ g, (Value.slice A n cap).ownBlock = some g → g < w.heap.size := fun g h => (World.ownsRow.lt ho g h).2
  have HNE := Lib.hid hne
  have HL := Lib.hid hl
  have HN := Lib.hid hn
  have HMK := Lib.hid fun a b ha hb => mkd_nth (R := R) (C := C) (a := a) (b := b) (hn.trans hl) hm ha hb
  have hRC : R * C ≤ 576 := Nat.mul_le_mul hR hC
  have HI : ∀ a, a < R → a * C ≤ 576 := fun a ha => by have := Nat.mul_le_mul_right C (Nat.le_of_lt ha); omega
  have k1 := castMul i C; have k2 := castMulLe (HI i hi)
  have e1 := Lib.hid (ColD.zero (f := negFn C i l) (hn.trans hl))
  clear hw1 hs1 hl hn hm hne ho HI
  go_enter Try.func145, Try.ntmps145
  go_wp2_with fail
  rw [← HW1.out]
  go_loopw [4] (fun k wr => ∃ (J : Nat) (m : List Int), k = .int .i64 J ∧ J ≤ C ∧ ColD R C (negFn C i l) l J m ∧ Own wr B (.slice A n cap) m ∧ w1.grownBy wr (Value.slice A n cap).ownBlock) (fun k _ => C - (intOf k).toNat)
  case atStart => exact ⟨0, l, rfl, Nat.zero_le _, e1.out, ho1, World.grownBy.refl _ _⟩
  case round =>
    clear ho1
    obtain ⟨J, m, rfl, hJ, hd, ho, hg⟩ := hrel
    have mb2 := mb.own hg (fun g h => Nat.ne_of_lt (HNE.out g h))
    have ob2 := ob.own hg (fun g h => by have := HNE.out g h; omega)
    by_cases hlt : J < C
    · have hml := hd.1
      have hlen : R * C = n := HL.out.symm
      obtain ⟨g, cap', e, hgB, hgw⟩ := ho.form (by rw [hml]; have := idx_lt hi hlt; omega)
      simp only [Value.slice.injEq] at e
      obtain ⟨rfl, hnm, rfl⟩ := e
      clear hnm
      have hg2 : g < w.heap.size := HNE.out g (by simp [Value.ownBlock])
      have l1 := idx_lt hi hlt
      have c1 := ho.cell (i * C + J) (by rw [hml]; exact l1)
      have cf := ho.free (i * C + J)
      rw [hd.cell hi hlt] at c1
      have hnx := hd.set1 hi hlt (fun a ha hne => negFn_other hne)
      rw [negFn_same] at hnx
      have HNX := Lib.hid hnx
      have HMX := HMK.out i J hi hlt
      have HML := Lib.hid (hml.trans hlen)
      have CM := Lib.hid fun W => l1Mul_c (nth l (i * C + J)) (-1) W HMX (.inr (by decide))
      have HD := Lib.hid hd
      have p1 := castPos i C J; have p2 := castLt (n := R * C) l1
      rw [hlen] at p2
      have q1 : (J : Int) < (C : Int) := by omega
      have a1 := castIdx i C J
      clear hd hnx hml hlen l1 HMX
      obtain ⟨b0, b1, b2⟩ := mb2.cells
      obtain ⟨x0, x1, x2, x3⟩ := ob2.cells
      generalize mulB (nth l (i * C + J)) (-1) = z at *
      generalize nth l (i * C + J) = z0 at *
      go_wp2_with fail
      obtain ⟨d0, d1, d2⟩ := mb2.ext
      obtain ⟨f0, f1, f2, f3⟩ := ob2.ext
      ((refine wp_region_tail 12 (by kernel_rfl) (by kernel_rfl) ?_; simp only [List.take_succ_cons, List.take_zero, List.drop_succ_cons, List.drop_zero]); (repeat (go_big_quiet_step ((go_at_call 98; with_reducible exact extS (CM.out _))))); refine wpQuiet_nil ?_; rintro w3 ⟨w30, hw30⟩; have g3 := grows_of_ext hw30; clear hw30 w30)
      have cf3 := (g3.frozen (p := ⟨g, i * C + J, none⟩) hgw).trans cf
      have c13 := (g3.cell (p := ⟨g, i * C + J, none⟩) hgw).trans c1
      clear d0 d1 d2 f0 f1 f2 f3 b0 b1 b2 x0 x1 x2 x3 c1 cf CM
      go_wp2_with fail
      go_round
      case rel => exact ⟨J + 1, _, by go_num, by omega, HNX.out, (ho.grows g3).put HML.out _ _, only_setCell (p := ⟨g, i * C + J, none⟩) (grown_right hg g3) rfl _⟩
      case measure => simp [intOf]; omega
    · obtain rfl : J = C := by omega
      obtain ⟨b0, b1, b2⟩ := mb2.cells
      go_wp2_with fail
      go_end0
      refine ⟨rfl, ?_, grown_left hg g01⟩
      have := hd.all
      subst this
      exact ho

/-- two rows of the call's own, apart -/
structure Pr (w : World) (B : Nat) (A U : Option Addr) (n cap m cap2 : Nat) (a u : List Int) : Prop where
  oa : Own w B (.slice A n cap) a
  ou : Own w B (.slice U m cap2) u
  ne : ∀ g, (Value.slice A n cap).ownBlock = some g → (Value.slice U m cap2).ownBlock ≠ some g
section
variable {w w' : World} {B : Nat} {A U : Option Addr} {n cap m cap2 : Nat} {a u a' u' : List Int}
theorem Pr.grows (h : Pr w B A U n cap m cap2 a u) (g : Grows w w') : Pr w' B A U n cap m cap2 a u := ⟨h.oa.grows g, h.ou.grows g, h.ne⟩
theorem Pr.setA (h : Pr w B A U n cap m cap2 a u) (o : Own w' B (.slice A n cap) a') (g : w.grownBy w' (Value.slice A n cap).ownBlock) : Pr w' B A U n cap m cap2 a' u := ⟨o, h.ou.other g h.ne, h.ne⟩
theorem Pr.setU (h : Pr w B A U n cap m cap2 a u) (o : Own w' B (.slice U m cap2) u') (g : w.grownBy w' (Value.slice U m cap2).ownBlock) : Pr w' B A U n cap m cap2 a u' := ⟨h.oa.other g (fun g h1 h2 => h.ne g h2 h1), o, h.ne⟩
end
/-- what a call has changed: two rows at most; what is new -/
structure Grown2 (w w' : World) (r1 r2 : Option Nat) : Prop where
  os : w'.os = w.os
  tape : w'.tape = w.tape
  output : w'.output = w.output
  size : w.heap.size ≤ w'.heap.size
  block : ∀ i, i < w.heap.size → some i ≠ r1 → some i ≠ r2 → w'.heap[i]? = w.heap[i]?
section
variable {w w1 w2 : World} {r1 r2 : Option Nat}
theorem Grown2.refl (w : World) (r1 r2 : Option Nat) : Grown2 w w r1 r2 := ⟨rfl, rfl, rfl, Nat.le_refl _, fun _ _ _ _ => rfl⟩
theorem Grown2.of12 (h : w.grownBy w1 r1) (k : w1.grownBy w2 r2) : Grown2 w w2 r1 r2 := ⟨k.os.trans h.os, k.tape.trans h.tape, k.output.trans h.output, Nat.le_trans h.size k.size, fun i hi h1 h2 => (k.block i (Nat.lt_of_lt_of_le hi h.size) h2).trans (h.block i hi h1)⟩
theorem Grown2.trans (h : Grown2 w w1 r1 r2) (k : Grown2 w1 w2 r1 r2) : Grown2 w w2 r1 r2 := ⟨k.os.trans h.os, k.tape.trans h.tape, k.output.trans h.output, Nat.le_trans h.size k.size, fun i hi h1 h2 => (k.block i (Nat.lt_of_lt_of_le hi h.size) h1 h2).trans (h.block i hi h1 h2)⟩
theorem Grown2.left (h : Grows w w1) (k : Grown2 w1 w2 r1 r2) : Grown2 w w2 r1 r2 := ⟨k.os.trans h.os, k.tape.trans h.tape, k.output.trans h.output, Nat.le_trans h.size k.size, fun i hi h1 h2 => (k.block i (Nat.lt_of_lt_of_le hi h.size) h1 h2).trans (h.block i hi)⟩
theorem Grown2.right (h : Grown2 w w1 r1 r2) (k : Grows w1 w2) : Grown2 w w2 r1 r2 := ⟨k.os.trans h.os, k.tape.trans h.tape, k.output.trans h.output, Nat.le_trans h.size k.size, fun i hi h1 h2 => (k.block i (Nat.lt_of_lt_of_le hi h.size)).trans (h.block i hi h1 h2)⟩
theorem Grown2.below {B : Nat} (h : Grown2 w w1 r1 r2) (hB : B ≤ w.heap.size) (h1 : ∀ g, r1 = some g → B ≤ g) (h2 : ∀ g, r2 = some g → B ≤ g) : Below B w w1 :=
  ⟨h.os, h.tape, h.output, h.size, fun i hi => h.block i (by omega) (fun e => by have := h1 i e.symm; omega) (fun e => by have := h2 i e.symm; omega)⟩
theorem MBox.two {b : Nat} {r c : Int} {v : Value} (h : MBox w b r c v) (g : Grown2 w w1 r1 r2) (h1 : ∀ g, r1 = some g → g ≠ b) (h2 : ∀ g, r2 = some g → g ≠ b) : MBox w1 b r c v := by
  have hk := g.block b h.lt (fun e => h1 b e.symm rfl) (fun e => h2 b e.symm rfl)
  exact ⟨Nat.lt_of_lt_of_le h.lt g.size, (World.cell?_of_block hk).trans h.c0, (World.cell?_of_block hk).trans h.c1, (World.cell?_of_block hk).trans h.c2, fun o => (World.frozen?_of_block hk).trans (h.fz o)⟩
end
theorem l12Ops_c (R C : Nat) (A U : Option Addr) (n cap m cap2 B : Nat) (k i j t : Int) (a u a' u' : List Int) (w : World) (pr : Pr w B A U n cap m cap2 a u)
    (HA : ∀ W, Own W B (.slice A n cap) a → Calls Try.prog 145 #[.agg #[.int .i64 R, .int .i64 C, .slice A n cap], .agg #[.int .i64 k, .int .i64 i, .int .i64 j, .int .i64 t]] W fun e w' => e = .returned (.tuple #[]) ∧ Own w' B (.slice A n cap) a' ∧ W.grownBy w' (Value.slice A n cap).ownBlock)
    (HU : ∀ W, Own W B (.slice U m cap2) u → Calls Try.prog 145 #[.agg #[.int .i64 R, .int .i64 R, .slice U m cap2], .agg #[.int .i64 k, .int .i64 i, .int .i64 j, .int .i64 t]] W fun e w' => e = .returned (.tuple #[]) ∧ Own w' B (.slice U m cap2) u' ∧ W.grownBy w' (Value.slice U m cap2).ownBlock) :
    Calls Try.prog 143 #[.agg #[.int .i64 R, .int .i64 C, .slice A n cap], .agg #[.int .i64 R, .int .i64 R, .slice U m cap2], .agg #[.int .i64 k, .int .i64 i, .int .i64 j, .int .i64 t]] w fun e w' => e = .returned (.tuple #[]) ∧ Pr w' B A U n cap m cap2 a' u' ∧ Grown2 w w' (Value.slice A n cap).ownBlock (Value.slice U m cap2).ownBlock := by
  obtain ⟨w1, hw1⟩ : ∃ w1, w1 = ((w.alloc (.cells #[.int .i64 R, .int .i64 C, .slice A n cap] 26)).alloc (.cells #[.int .i64 R, .int .i64 R, .slice U m cap2] 26)).alloc (.cells #[.int .i64 k, .int .i64 i, .int .i64 j, .int .i64 t] 83) := ⟨_, rfl⟩
  have g01 : Grows w w1 := by rw [hw1]; exact bel0
  have mb : MBox w1 (w.heap.size + 1) R R (.slice U m cap2) := by rw [hw1]; exact (MBox.new_ _ _ _ _ _ (by simp)).alloc _
  have ob : OBox w1 (w.heap.size + 1 + 1) k i j t := by rw [hw1]; exact OBox.new_ _ _ _ _ _ _ (by simp)
  have hb1 : ∀ g, (Value.slice A n cap).ownBlock = some g → g < w.heap.size := fun g h => (World.ownsRow.lt pr.oa g h).2
  have HB1 := Lib.hid hb1
  have HW1 := Lib.hid hw1
  have HA' := Lib.hid HA
  have HU' := Lib.hid HU
  have pr1 := pr.grows g01
  have hs1 := Below.size g01
  clear hw1 HA HU hb1
  go_enter Try.func143, Try.ntmps143
  go_wp2_with fail
  rw [← HW1.out]
  refine (HA'.out _ pr1.oa).mono ?_; rintro e w2 ⟨rfl, o2, g2⟩
  have pr2 := pr1.setA o2 g2
  have G2 := Lib.hid g2
  have hs2 := g2.size
  have mb2 := mb.own g2 (fun g h => by have := HB1.out g h; omega)
  have ob2 := ob.own g2 (fun g h => by have := HB1.out g h; omega)
  obtain ⟨c0, c1, c2⟩ := mb2.cells
  obtain ⟨d0, d1, d2, d3⟩ := ob2.cells
  clear g2
  go_wp2_with fail
  refine (HU'.out _ pr2.ou).mono ?_; rintro e w3 ⟨rfl, o3, g3⟩
  have pr3 := pr2.setU o3 g3
  have gg := Grown2.left g01 (Grown2.of12 G2.out g3)
  clear g3 c0 c1 c2 d0 d1 d2 d3
  go_wp2_with fail
  go_end0
  exact ⟨rfl, pr3, gg⟩
end
end Go.Proofs.Ythajmffhgbenpaa

/- Contracts: the reference's search in a column. -/
namespace Go.Proofs.Ythajmffhgbenpaa
set_option linter.unusedSimpArgs false
set_option linter.unusedVariables false
open Go.RowKit

def encO : Option Nat → Int
  | none => -1
  | some p => (p : Int)
theorem sub_up {t i : Nat} (h : t ≤ i) : i + 1 - t = (i - t) + 1 := by omega
theorem leastF_zero {C t j i : Nat} {a : List Int} (hi : t ≤ i) (h : nth a (i * C + j) = 0) : leastF C t j a (i + 1 - t) = leastF C t j a (i - t) := by
  rw [sub_up hi, leastF, show t + (i - t) = i by omega, if_pos h]
theorem leastF_first {C t j i : Nat} {a : List Int} (hi : t ≤ i) (h : nth a (i * C + j) ≠ 0) (h2 : leastF C t j a (i - t) = none) : leastF C t j a (i + 1 - t) = some i := by
  rw [sub_up hi, leastF, show t + (i - t) = i by omega, if_neg h, h2]
theorem leastF_less {C t j i b : Nat} {a : List Int} (hi : t ≤ i) (h : nth a (i * C + j) ≠ 0) (h2 : leastF C t j a (i - t) = some b) (h3 : absI (nth a (i * C + j)) < absI (nth a (b * C + j))) : leastF C t j a (i + 1 - t) = some i := by
  rw [sub_up hi, leastF, show t + (i - t) = i by omega, if_neg h, h2]; simp only; rw [if_pos h3]
theorem leastF_more {C t j i b : Nat} {a : List Int} (hi : t ≤ i) (h : nth a (i * C + j) ≠ 0) (h2 : leastF C t j a (i - t) = some b) (h3 : ¬ absI (nth a (i * C + j)) < absI (nth a (b * C + j))) : leastF C t j a (i + 1 - t) = some b := by
  rw [sub_up hi, leastF, show t + (i - t) = i by omega, if_neg h, h2]; simp only; rw [if_neg h3]
section
set_option maxHeartbeats 4000000
theorem l12Least_c (R C t j : Nat) (A : Option Addr) (a : List Int) (n cap : Nat) (w : World) (hn : a.length = n) (hl : n = R * C) (hR : R ≤ 24) (hC : C ≤ 24) (ht : t ≤ R) (hj : j < C) (hnum : ∀ i, i < n → isNum (nth a i) = true) (ha : Rd w A a) :
    Calls Try.prog 140 #[.agg #[.int .i64 R, .int .i64 C, .slice A n cap], .int .i64 t, .int .i64 j] w fun e w' => e = .returned (.int .i64 (encO (least R C t j a))) ∧ Grows w w' := by
  obtain ⟨w1, hw1⟩ : ∃ w1, w1 = w.alloc (.cells #[.int .i64 R, .int .i64 C, .slice A n cap] 26) := ⟨_, rfl⟩
  have mb1 : MBox w1 w.heap.size R C (.slice A n cap) := by rw [hw1]; exact MBox.mk_ _ _ _ _ _
  have g01 : Grows w w1 := by rw [hw1]; exact bel0
  have ha1 := ha.grows g01
  have HW1 := Lib.hid hw1
  have hRC : R * C ≤ 576 := Nat.mul_le_mul hR hC
  have HB : ∀ i, i < R → i * C ≤ 576 := fun i hi => by have := Nat.mul_le_mul_right C (Nat.le_of_lt hi); omega
  have CC := Lib.hid fun (i : Nat) (hi : i < R) W h => l12Cell_c R C A a n cap i j W hn h (castMul i C) (by have := castMulLe (HB i hi); omega) (castPos i C j) (castLt (by rw [hn, hl]; exact idx_lt hi hj)) (by rw [hn, hl]; omega)
  have HNUM := Lib.hid fun i (hi : i < R) => (isNum_iff _).1 (hnum (i * C + j) (by rw [hl]; exact idx_lt hi hj))
  have HP := Lib.hid fun k p h => (leastF_some (C := C) (t := t) (j := j) (a := a) (k := k) (p := p) h)
  clear hw1 hn hl HB hnum
  go_enter Try.func140, Try.ntmps140
  go_wp2_with fail
  rw [← HW1.out]
  go_loopw [7, 8] (fun q i wr => ∃ (k : Nat), i = .int .i64 k ∧ t ≤ k ∧ k ≤ R ∧ q = .int .i64 (encO (leastF C t j a (k - t))) ∧ Grows w1 wr) (fun _ i _ => R - (intOf i).toNat)
  case atStart => exact ⟨t, rfl, Nat.le_refl _, ht, by rw [Nat.sub_self]; rfl, by exact bel0⟩
  case round =>
    obtain ⟨k, rfl, hkt, hk, rfl, hg⟩ := hrel
    have mb := mb1.grows hg
    obtain ⟨b0, b1, b2⟩ := mb.cells
    have hd := ha1.grows hg
    by_cases hlt : k < R
    · have hlt' : (k : Int) < (R : Int) := by omega
      have C1 := fun W h => CC.out k hlt W h
      have X1 := Lib.hid fun W => l1Abs_c (nth a (k * C + j)) W (by have := HNUM.out k hlt; omega) (by have := HNUM.out k hlt; omega)
      rw [castIdx] at C1
      have C1' := Lib.hid C1
      clear C1
      by_cases hx : nth a (k * C + j) = 0
      · have HX := Lib.hid (leastF_zero hkt hx)
        rw [hx] at C1'
        clear hx X1
        generalize leastF C t j a (k - t) = bb at *
        go_wp2_with fail
        refine (C1'.out _ (by exact (Rd.grows hd (by exact bel0)))).mono ?_; rintro e w3 ⟨rfl, g3⟩
        go_wp2_with fail
        ((refine wp_region_ext (by kernel_rfl) (by kernel_rfl) ?_); (repeat (go_big_quiet_step (fail))); refine wpQuiet_nil ?_; rintro w4 ⟨w40, hw40⟩; have g4 := grows_of_ext hw40; clear hw40 w40)
        go_wp2_with fail
        go_round
        case rel => exact ⟨k + 1, by go_num, by omega, by omega, by rw [HX.out], by exact bel3 g4 g3 hg⟩
        case measure => simp [intOf]; omega
      · have hx' : (nth a (k * C + j) != 0) = true := by simpa using hx
        obtain ⟨bb, hbb⟩ : ∃ bb, bb = encO (leastF C t j a (k - t)) := ⟨_, rfl⟩
        rw [← hbb]
        cases hb : leastF C t j a (k - t) with
        | none =>
          rw [hb] at hbb
          obtain rfl : bb = -1 := hbb
          have HX := Lib.hid (leastF_first hkt hx hb)
          clear hx hb X1
          generalize nth a (k * C + j) = x at *
          go_wp2_with fail
          refine (C1'.out _ (by exact (Rd.grows hd (by exact bel0)))).mono ?_; rintro e w3 ⟨rfl, g3⟩
          go_wp2_with fail
          ((refine wp_region_ext (by kernel_rfl) (by kernel_rfl) ?_); (repeat (go_big_quiet_step (fail))); refine wpQuiet_nil ?_; rintro w4 ⟨w40, hw40⟩; have g4 := grows_of_ext hw40; clear hw40 w40)
          go_wp2_with fail
          go_round
          case rel => exact ⟨k + 1, by go_num, by omega, by omega, by rw [HX.out]; rfl, by exact bel3 g4 g3 hg⟩
          case measure => simp [intOf]; omega
        | some p =>
          rw [hb] at hbb
          obtain rfl : bb = (p : Int) := hbb
          obtain ⟨p1, p2, p3, _⟩ := HP.out (k - t) p hb
          have hpR : p < R := by omega
          have hp0 : decide (((p : Nat) : Int) < 0) = false := by rw [decide_eq_false_iff_not]; omega
          have C2 := fun W h => CC.out p hpR W h
          have X2 := Lib.hid fun W => l1Abs_c (nth a (p * C + j)) W (by have := HNUM.out p hpR; omega) (by have := HNUM.out p hpR; omega)
          rw [castIdx] at C2
          have C2' := Lib.hid C2
          clear C2 p1 p2 p3
          by_cases hc : absI (nth a (k * C + j)) < absI (nth a (p * C + j))
          · have HX := Lib.hid (leastF_less hkt hx hb hc)
            clear hx hb
            generalize absI (nth a (k * C + j)) = x1 at *
            generalize absI (nth a (p * C + j)) = y1 at *
            generalize nth a (k * C + j) = x at *
            generalize nth a (p * C + j) = y at *
            go_wp2_with fail
            refine (C1'.out _ (by exact (Rd.grows hd (by exact bel0)))).mono ?_; rintro e w3 ⟨rfl, g3⟩
            have mb3 := mb.grows (w' := w3) (by exact bel1 g3)
            obtain ⟨d0, d1, d2⟩ := mb3.ext
            have hd3 : Rd w3 A a := hd.grows (by exact bel1 g3)
            go_wp2_with fail
            ((refine wp_region_ext (by kernel_rfl) (by kernel_rfl) ?_); (repeat (go_big_quiet_step ((first | (go_at_call 103; with_reducible exact extC (C2'.out _ (Rd.ext hd3 _))) | (go_at_call 148; with_reducible exact extS (X1.out _)) | (go_at_call 148; with_reducible exact extS (X2.out _)))))); refine wpQuiet_nil ?_; rintro w4 ⟨w40, hw40⟩; have g4 := grows_of_ext hw40; clear hw40 w40)
            go_wp2_with fail
            go_round
            case rel => exact ⟨k + 1, by go_num, by omega, by omega, by rw [HX.out]; rfl, by exact bel3 g4 g3 hg⟩
            case measure => simp [intOf]; omega
          · have HX := Lib.hid (leastF_more hkt hx hb hc)
            clear hx hb
            generalize absI (nth a (k * C + j)) = x1 at *
            generalize absI (nth a (p * C + j)) = y1 at *
            generalize nth a (k * C + j) = x at *
            generalize nth a (p * C + j) = y at *
            go_wp2_with fail
            refine (C1'.out _ (by exact (Rd.grows hd (by exact bel0)))).mono ?_; rintro e w3 ⟨rfl, g3⟩
            have mb3 := mb.grows (w' := w3) (by exact bel1 g3)
            obtain ⟨d0, d1, d2⟩ := mb3.ext
            have hd3 : Rd w3 A a := hd.grows (by exact bel1 g3)
            go_wp2_with fail
            ((refine wp_region_ext (by kernel_rfl) (by kernel_rfl) ?_); (repeat (go_big_quiet_step ((first | (go_at_call 103; with_reducible exact extC (C2'.out _ (Rd.ext hd3 _))) | (go_at_call 148; with_reducible exact extS (X1.out _)) | (go_at_call 148; with_reducible exact extS (X2.out _)))))); refine wpQuiet_nil ?_; rintro w4 ⟨w40, hw40⟩; have g4 := grows_of_ext hw40; clear hw40 w40)
            go_wp2_with fail
            go_round
            case rel => exact ⟨k + 1, by go_num, by omega, by omega, by rw [HX.out]; rfl, by exact bel3 g4 g3 hg⟩
            case measure => simp [intOf]; omega
    · obtain rfl : k = R := by omega
      have HE := Lib.hid (show least k C t j a = leastF C t j a (k - t) from rfl)
      generalize leastF C t j a (k - t) = bb at *
      go_wp2_with fail
      go_ret
      exact ⟨ret_int (by rw [HE.out]), by exact bel2 hg g01⟩
theorem l12Alone_c (R C t j p : Nat) (A : Option Addr) (a : List Int) (n cap : Nat) (w : World) (hn : a.length = n) (hl : n = R * C) (hR : R ≤ 24) (hC : C ≤ 24) (ht : t ≤ R) (hj : j < C) (ha : Rd w A a) :
    Calls Try.prog 141 #[.agg #[.int .i64 R, .int .i64 C, .slice A n cap], .int .i64 t, .int .i64 j, .int .i64 p] w fun e w' => e = .returned (.bool (!othB R C t j p a)) ∧ Grows w w' := by
  obtain ⟨w1, hw1⟩ : ∃ w1, w1 = w.alloc (.cells #[.int .i64 R, .int .i64 C, .slice A n cap] 26) := ⟨_, rfl⟩
  have mb1 : MBox w1 w.heap.size R C (.slice A n cap) := by rw [hw1]; exact MBox.mk_ _ _ _ _ _
  have g01 : Grows w w1 := by rw [hw1]; exact bel0
  have ha1 := ha.grows g01
  have HW1 := Lib.hid hw1
  have hRC : R * C ≤ 576 := Nat.mul_le_mul hR hC
  have HB : ∀ i, i < R → i * C ≤ 576 := fun i hi => by have := Nat.mul_le_mul_right C (Nat.le_of_lt hi); omega
  have CC := Lib.hid fun (i : Nat) (hi : i < R) W h => l12Cell_c R C A a n cap i j W hn h (castMul i C) (by have := castMulLe (HB i hi); omega) (castPos i C j) (castLt (by rw [hn, hl]; exact idx_lt hi hj)) (by rw [hn, hl]; omega)
  have HYES := Lib.hid fun h => (othB_iff R C t j p a).2 h
  have HNO := Lib.hid fun h => othB_no (R := R) (C := C) (t := t) (j := j) (p := p) (a := a) h
  generalize othB R C t j p a = res at *
  clear hw1 hn hl HB
  go_enter Try.func141, Try.ntmps141
  go_wp2_with fail
  rw [← HW1.out]
  go_loopw [9] (fun i wr => ∃ (k : Nat), i = .int .i64 k ∧ t ≤ k ∧ k ≤ R ∧ (∀ i, t ≤ i → i < k → i ≠ p → nth a (i * C + j) = 0) ∧ Grows w1 wr) (fun i _ => R - (intOf i).toNat)
  case atStart => exact ⟨t, rfl, Nat.le_refl _, ht, fun i h1 h2 => by omega, by exact bel0⟩
  case round =>
    obtain ⟨k, rfl, hkt, hk, hz, hg⟩ := hrel
    have HZ := Lib.hid hz
    clear hz
    have mb := mb1.grows hg
    obtain ⟨b0, b1, b2⟩ := mb.cells
    have hd := ha1.grows hg
    by_cases hlt : k < R
    · have hlt' : (k : Int) < (R : Int) := by omega
      by_cases hp : k = p
      · have hp' : ((k : Int) != (p : Int)) = false := by rw [bne_eq_false_iff_eq]; omega
        have HP := Lib.hid hp
        clear hp
        go_wp2_with fail
        go_round
        case rel => exact ⟨k + 1, by go_num, by omega, by omega, fun i h1 h2 h3 => HZ.out i h1 (by have := HP.out; omega) h3, by exact bel1 hg⟩
        case measure => simp [intOf]; omega
      · have hp' : ((k : Int) != (p : Int)) = true := by rw [bne_iff_ne]; omega
        have C1 := fun W h => CC.out k hlt W h
        rw [castIdx] at C1
        by_cases hx : nth a (k * C + j) = 0
        · have HX := Lib.hid hx
          rw [hx] at C1
          have C1' := Lib.hid C1
          clear hx C1
          go_wp2_with fail
          refine (C1'.out _ (by exact (Rd.grows hd (by exact bel0)))).mono ?_; rintro e w3 ⟨rfl, g3⟩
          go_wp2_with fail
          go_round
          case rel => exact ⟨k + 1, by go_num, by omega, by omega, fun i h1 h2 h3 => by (by_cases e : i = k); (· rw [e]; exact HX.out); (· exact HZ.out i h1 (by omega) h3), by exact bel2 g3 hg⟩
          case measure => simp [intOf]; omega
        · have hx' : (nth a (k * C + j) != 0) = true := by simpa using hx
          have HR := Lib.hid (HYES.out ⟨k, by omega, hlt, hp, hx⟩)
          have C1' := Lib.hid C1
          clear hx C1 hp
          generalize nth a (k * C + j) = x at *
          go_wp2_with fail
          refine (C1'.out _ (by exact (Rd.grows hd (by exact bel0)))).mono ?_; rintro e w3 ⟨rfl, g3⟩
          go_wp2_with fail
          go_ret
          exact ⟨ret_bool (by rw [HR.out]; rfl), by exact bel3 g3 hg g01⟩
    · obtain rfl : k = R := by omega
      have HR := Lib.hid (HNO.out HZ.out)
      go_wp2_with fail
      go_ret
      exact ⟨ret_bool (by rw [HR.out]; rfl), by exact bel2 hg g01⟩
end
end Go.Proofs.Ythajmffhgbenpaa

/- Contracts: the reference's Hermite form, in place. -/
namespace Go.Proofs.Ythajmffhgbenpaa
set_option linter.unusedSimpArgs false
set_option linter.unusedVariables false
open Go.RowKit

def anyBad (l : List Int) : Bool := l.any fun x => x == bad
theorem anyBad_mkd {l : List Int} (h : mkd l) : anyBad l = !allNum l := by
  cases e : allNum l
  · cases e2 : anyBad l
    · exfalso
      have : allNum l = true := (allNum_iff l).2 fun i hi => by
        rcases h i hi with h1 | h1
        · have : anyBad l = true := List.any_eq_true.2 ⟨nth l i, by rw [nth_get l i hi]; exact List.getElem_mem hi, by simp [h1]⟩
          rw [this] at e2; cases e2
        · exact h1
      rw [this] at e; cases e
    · rfl
  · cases e2 : anyBad l
    · rfl
    · obtain ⟨x, hx, hb⟩ := List.any_eq_true.1 e2
      obtain ⟨i, hi, rfl⟩ := List.getElem_of_mem hx
      have := (allNum_iff l).1 e i hi
      rw [nth_get l i hi] at this
      rw [beq_iff_eq] at hb
      rw [hb, bad_not] at this; cases this
/-- of a pair: is one marked? -/
theorem anyBad_two {R C : Nat} {s : Option LL} {x : LL} (h : Stands R C s x) : (anyBad x.1 || anyBad x.2) = !s.isSome := by
  rw [anyBad_mkd h.1.m1, anyBad_mkd h.1.m2, h.2]
  unfold two
  cases allNum x.1 <;> cases allNum x.2 <;> rfl
theorem anyBad_one {l : List Int} : anyBad l = true → ∃ i, i < l.length ∧ nth l i = bad := fun h => by
  obtain ⟨x, hx, hb⟩ := List.any_eq_true.1 h
  obtain ⟨i, hi, rfl⟩ := List.getElem_of_mem hx
  exact ⟨i, hi, by rw [nth_get l i hi]; simpa using hb⟩

section
set_option maxHeartbeats 1000000
theorem l1Bads_c (A : Option Addr) (l : List Int) (n c : Nat) (w : World) (hn : l.length = n) (ha : Rd w A l) (hl : n ≤ 1099511627776) :
    Calls Try.prog 144 #[.slice A n c] w fun e w' => e = .returned (.bool (anyBad l)) ∧ w = w' := by
  subst hn
  have hy : ∀ i, i < l.length → nth l i = bad → anyBad l = true := fun i hi h => List.any_eq_true.2 ⟨nth l i, by rw [nth_get l i hi]; exact List.getElem_mem hi, by simp [h]⟩
  have HY := Lib.hid hy
  clear hy
  have HN := Lib.hid (show (∀ i, i < l.length → nth l i ≠ bad) → anyBad l = false from fun h => by
    cases e : anyBad l
    · rfl
    · obtain ⟨i, hi, hb⟩ := anyBad_one e
      exact absurd hb (h i hi))
  generalize anyBad l = res at *
  unfold bad at HY HN
  go_enter Try.func144, Try.ntmps144
  go_wp2_with fail
  go_loop [3] (fun k => ∃ (i : Nat), k = .int .i64 i ∧ i ≤ l.length ∧ ∀ t, t < i → nth l t ≠ -4611686018427387904) (fun k => l.length - (intOf k).toNat)
  case atStart => exact ⟨0, rfl, Nat.zero_le _, fun t h => by omega⟩
  case round =>
    obtain ⟨i, rfl, hi, hz⟩ := hrel
    have HZ := Lib.hid hz
    clear hz
    by_cases hlt : i < l.length
    · obtain ⟨b, o, rfl, hbs, hc⟩ := ha.at_ i hlt
      have i1 : (i : Int) < (l.length : Int) := by omega
      by_cases hx : nth l i = -4611686018427387904
      · have HR := Lib.hid (HY.out i hlt hx)
        rw [hx] at hc
        clear hx
        go_wp2_with fail
        go_ret
        exact ⟨ret_bool (by rw [HR.out]), rfl⟩
      · have hx' : (nth l i == -4611686018427387904) = false := by simpa using hx
        have HX := Lib.hid hx
        clear hx
        go_wp2_with fail
        go_round
        case rel => exact ⟨i + 1, by go_num, by omega, fun t ht => by (by_cases e : t = i); (· rw [e]; exact HX.out); (· exact HZ.out t (by omega))⟩
        case measure => simp [intOf]; omega
    · obtain rfl : i = l.length := by omega
      have HR := Lib.hid (HN.out HZ.out)
      go_wp2_with fail
      go_ret
      exact ⟨ret_bool (by rw [HR.out]), rfl⟩
theorem opAdd_c (R C : Nat) (A U : Option Addr) (n cap m cap2 B i j : Nat) (t : Int) (x : LL) (w : World) (hn : n = R * C) (hm : m = R * R) (hR : R ≤ 24) (hC : C ≤ 24) (hi : i < R) (hj : j < R) (ht : isNum t = true) (mk : Mks R C x) (pr : Pr w B A U n cap m cap2 x.1 x.2) :
    Calls Try.prog 143 #[.agg #[.int .i64 R, .int .i64 C, .slice A n cap], .agg #[.int .i64 R, .int .i64 R, .slice U m cap2], .agg #[.int .i64 2, .int .i64 i, .int .i64 j, .int .i64 t]] w fun e w' => e = .returned (.tuple #[]) ∧ Pr w' B A U n cap m cap2 (addT R C i j t x.1) (addT R R i j t x.2) ∧ Grown2 w w' (Value.slice A n cap).ownBlock (Value.slice U m cap2).ownBlock :=
  l12Ops_c R C A U n cap m cap2 B 2 i j t _ _ _ _ w pr (fun W o => l5Add_c R C A x.1 n cap i j B t W (mk.l1.trans hn.symm) hn hR hC o mk.m1 hi hj ht) (fun W o => l5Add_c R R U x.2 m cap2 i j B t W (mk.l2.trans hm.symm) hm hR hR o mk.m2 hi hj ht)
theorem opSwp_c (R C : Nat) (A U : Option Addr) (n cap m cap2 B i j : Nat) (x : LL) (w : World) (hn : n = R * C) (hm : m = R * R) (hR : R ≤ 24) (hC : C ≤ 24) (hi : i < R) (hj : j < R) (hij : i ≠ j) (mk : Mks R C x) (pr : Pr w B A U n cap m cap2 x.1 x.2) :
    Calls Try.prog 143 #[.agg #[.int .i64 R, .int .i64 C, .slice A n cap], .agg #[.int .i64 R, .int .i64 R, .slice U m cap2], .agg #[.int .i64 0, .int .i64 i, .int .i64 j, .int .i64 0]] w fun e w' => e = .returned (.tuple #[]) ∧ Pr w' B A U n cap m cap2 (swpT R C i j x.1) (swpT R R i j x.2) ∧ Grown2 w w' (Value.slice A n cap).ownBlock (Value.slice U m cap2).ownBlock :=
  l12Ops_c R C A U n cap m cap2 B 0 i j 0 _ _ _ _ w pr (fun W o => l5Swp_c R C A x.1 n cap i j B W (mk.l1.trans hn.symm) hn hR hC o hi hj hij) (fun W o => l5Swp_c R R U x.2 m cap2 i j B W (mk.l2.trans hm.symm) hm hR hR o hi hj hij)
theorem opNeg_c (R C : Nat) (A U : Option Addr) (n cap m cap2 B i : Nat) (x : LL) (w : World) (hn : n = R * C) (hm : m = R * R) (hR : R ≤ 24) (hC : C ≤ 24) (hi : i < R) (mk : Mks R C x) (pr : Pr w B A U n cap m cap2 x.1 x.2) :
    Calls Try.prog 143 #[.agg #[.int .i64 R, .int .i64 C, .slice A n cap], .agg #[.int .i64 R, .int .i64 R, .slice U m cap2], .agg #[.int .i64 1, .int .i64 i, .int .i64 i, .int .i64 0]] w fun e w' => e = .returned (.tuple #[]) ∧ Pr w' B A U n cap m cap2 (negT R C i x.1) (negT R R i x.2) ∧ Grown2 w w' (Value.slice A n cap).ownBlock (Value.slice U m cap2).ownBlock :=
  l12Ops_c R C A U n cap m cap2 B 1 i i 0 _ _ _ _ w pr (fun W o => l5Neg_c R C A x.1 n cap i B W (mk.l1.trans hn.symm) hn hR hC o mk.m1 hi) (fun W o => l5Neg_c R R U x.2 m cap2 i B W (mk.l2.trans hm.symm) hm hR hR o mk.m2 hi)
end
/-! ### plain: the steps of the walk -/
theorem elim_skip {R C t j p i : Nat} {s z : LL} (hi : t ≤ i) (h : Stands R C (elimF R C t j p s (i - t)) z) (hc : i = p ∨ nth z.1 (i * C + j) = 0) : Stands R C (elimF R C t j p s (i + 1 - t)) z := by
  rw [sub_up hi, elimF, show t + (i - t) = i by omega]
  cases e : elimF R C t j p s (i - t) with
  | none => rw [e] at h; exact h
  | some s' =>
    rw [e] at h
    obtain ⟨rfl, ok⟩ := h.some_eq
    simp only [Option.bind_some]
    rw [if_pos hc]; exact h
theorem elim_step {R C t j p i : Nat} {s z : LL} (hi : t ≤ i) (hs : Ok2 R C s) (hl : Lst R C t j p s.1) (hj : j < C) (hk : i < R) (h : Stands R C (elimF R C t j p s (i - t)) z) (h1 : i ≠ p) (h2 : nth z.1 (i * C + j) ≠ 0) :
    Stands R C (elimF R C t j p s (i + 1 - t)) (addT R C i p (-(flQ (nth z.1 (i * C + j)) (nth z.1 (p * C + j)))) z.1, addT R R i p (-(flQ (nth z.1 (i * C + j)) (nth z.1 (p * C + j)))) z.2) := by
  rw [sub_up hi, elimF, show t + (i - t) = i by omega]
  cases e : elimF R C t j p s (i - t) with
  | none => rw [e] at h; exact h.add_none
  | some s' =>
    rw [e] at h
    obtain ⟨rfl, ok⟩ := h.some_eq
    simp only [Option.bind_some]
    rw [if_neg (not_or.2 ⟨h1, h2⟩)]
    have E := elimF_EI hs hl.lo hl.hi hj hl.ne (by omega) e
    have epv := E.same p j hl.hi hj (.inr (.inr rfl))
    have hn := (allNum_iff _).1 ok.n1
    rw [flQ_yes (hn _ (by rw [ok.l1]; exact idx_lt hk hj)) (hn _ (by rw [ok.l1]; exact idx_lt hl.hi hj)) (by rw [epv]; exact hl.ne)]
    exact ok.stands.add
theorem up_step {R C t j k : Nat} {s z : LL} (hs : Ok2 R C s) (ht : t < R) (hj : j < C) (hne : nth s.1 (t * C + j) ≠ 0) (hk : k < t) (h : Stands R C (upF R C t j s k) z) :
    Stands R C (upF R C t j s (k + 1)) (addT R C k t (-(flQ (nth z.1 (k * C + j)) (nth z.1 (t * C + j)))) z.1, addT R R k t (-(flQ (nth z.1 (k * C + j)) (nth z.1 (t * C + j)))) z.2) := by
  rw [upF]
  cases e : upF R C t j s k with
  | none => rw [e] at h; exact h.add_none
  | some s' =>
    rw [e] at h
    obtain ⟨rfl, ok⟩ := h.some_eq
    simp only [Option.bind_some]
    have U := upF_UI hs ht hj hne (Nat.le_of_lt hk) e
    have epv := U.same t j ht hj (Nat.le_of_lt hk)
    have hn := (allNum_iff _).1 ok.n1
    rw [flQ_yes (hn _ (by rw [ok.l1]; exact idx_lt (by omega) hj)) (hn _ (by rw [ok.l1]; exact idx_lt ht hj)) (by rw [epv]; exact hne)]
    exact ok.stands.add
theorem swapIf_ok {R C p t : Nat} {y : LL} (ok : Ok2 R C y) (hp : p < R) (ht : t < R) : Ok2 R C (swapIf R C p t y) := by
  unfold swapIf; split
  · exact ok
  · exact swpS_ok ok hp ht
theorem swapIf_ne {R C j p t : Nat} {y : LL} (hl : Lst R C t j p y.1) (ht : t < R) (hj : j < C) : nth (swapIf R C p t y).1 (t * C + j) ≠ 0 := by
  unfold swapIf; split
  · rename_i h; rw [← h]; exact hl.ne
  · rename_i h
    show nth (swpT R C p t y.1) _ ≠ 0
    rw [swpT_cell ht hj, if_neg (Ne.symm h), if_pos rfl]; exact hl.ne
theorem negIf_ok {R C j t : Nat} {y : LL} (ok : Ok2 R C y) (ht : t < R) : Ok2 R C (negIf R C t j y) := by
  unfold negIf; split
  · exact negS_ok ok ht
  · exact ok
theorem negIf_ne {R C j t : Nat} {y : LL} (ok : Ok2 R C y) (ht : t < R) (hj : j < C) (h : nth y.1 (t * C + j) ≠ 0) : nth (negIf R C t j y).1 (t * C + j) ≠ 0 := by
  unfold negIf; split
  · show nth (negT R C t y.1) _ ≠ 0
    rw [negT_cell ok.l1 ok.n1 ht hj, if_pos rfl]; omega
  · exact h
theorem colS_none {R C j t : Nat} {x : LL} (ht : t < R) (h : least R C t j x.1 = none) : colS R C j (t, x) = some (t, x) := by
  unfold colS; simp only; rw [if_pos ht, h]
theorem colS_some {R C j t p0 : Nat} {x : LL} (ht : t < R) (h : least R C t j x.1 = some p0) : colS R C j (t, x) = (redM R C t j x p0).bind fun y => (upF R C t j (negIf R C t j (swapIf R C y.2 t y.1)) t).map fun s => (t + 1, s) := by
  unfold colS; simp only; rw [if_pos ht, h]
theorem colS_red {R C j t p0 p : Nat} {x y : LL} (ht : t < R) (h : least R C t j x.1 = some p0) (hr : redM R C t j x p0 = some (y, p)) : colS R C j (t, x) = (upF R C t j (negIf R C t j (swapIf R C p t y)) t).map fun s => (t + 1, s) := by
  rw [colS_some ht h, hr]; rfl
theorem hermF_next {R C j t : Nat} {s x : LL} (h : hermF R C s j = some (t, x)) : hermF R C s (j + 1) = colS R C j (t, x) := by
  rw [hermF, h]; rfl
theorem hermF_dead {R C j t : Nat} {s x : LL} (hj : j < C) (h : hermF R C s j = some (t, x)) (h2 : colS R C j (t, x) = none) : hermF R C s C = none :=
  hermF_none (j := j + 1) (by rw [hermF_next h, h2]) hj
/-- the two rows hold the result, if there is one -/
def HermRes (w : World) (B : Nat) (A U : Option Addr) (n cap m cap2 : Nat) (o : Option TS) : Prop := ∃ x : LL, Pr w B A U n cap m cap2 x.1 x.2 ∧ ∀ y, o = some y → y.2 = x
section
set_option maxHeartbeats 8000000
set_option maxRecDepth 4000
theorem l12Hermite_c (R C : Nat) (A U : Option Addr) (n cap m cap2 B : Nat) (s : LL) (w : World) (hn : n = R * C) (hm : m = R * R) (hR : R ≤ 24) (hC : C ≤ 24) (ok0 : Ok2 R C s) (pr0 : Pr w B A U n cap m cap2 s.1 s.2) :
    Calls Try.prog 111 #[.agg #[.int .i64 R, .int .i64 C, .slice A n cap], .agg #[.int .i64 R, .int .i64 R, .slice U m cap2]] w fun e w' => e = .returned (.bool (hermF R C s C).isSome) ∧ HermRes w' B A U n cap m cap2 (hermF R C s C) ∧ Grown2 w w' (Value.slice A n cap).ownBlock (Value.slice U m cap2).ownBlock := by
  obtain ⟨w1, hw1⟩ : ∃ w1, w1 = (w.alloc (.cells #[.int .i64 R, .int .i64 C, .slice A n cap] 26)).alloc (.cells #[.int .i64 R, .int .i64 R, .slice U m cap2] 26) := ⟨_, rfl⟩
  have mbA1 : MBox w1 w.heap.size R C (.slice A n cap) := by rw [hw1]; exact (MBox.mk_ _ _ _ _ _).alloc _
  have mbU1 : MBox w1 (w.heap.size + 1) R R (.slice U m cap2) := by rw [hw1]; exact MBox.new_ _ _ _ _ _ (by simp)
  have g01 : Grows w w1 := by rw [hw1]; exact bel0
  have hrA : ∀ g, (Value.slice A n cap).ownBlock = some g → B ≤ g ∧ g < w.heap.size := fun g h => World.ownsRow.lt pr0.oa g h
  have hrU : ∀ g, (Value.slice U m cap2).ownBlock = some g → B ≤ g ∧ g < w.heap.size := fun g h => World.ownsRow.lt pr0.ou g h
  have MA := Lib.hid fun wr (g : Grown2 w1 wr (Value.slice A n cap).ownBlock (Value.slice U m cap2).ownBlock) => mbA1.two g (fun g h => by have := (hrA g h).2; omega) (fun g h => by have := (hrU g h).2; omega)
  have MU := Lib.hid fun wr (g : Grown2 w1 wr (Value.slice A n cap).ownBlock (Value.slice U m cap2).ownBlock) => mbU1.two g (fun g h => by have := (hrA g h).2; omega) (fun g h => by have := (hrU g h).2; omega)
  have GB := Lib.hid fun wr (g : Grown2 w1 wr (Value.slice A n cap).ownBlock (Value.slice U m cap2).ownBlock) => Grown2.left g01 g
  have pr1 := pr0.grows g01
  have HW1 := Lib.hid hw1
  have hRC : R * C ≤ 576 := Nat.mul_le_mul hR hC
  have hRR : R * R ≤ 576 := Nat.mul_le_mul hR hR
  have hIC : ∀ i, i < R → i * C ≤ 576 := fun i hi => by have := Nat.mul_le_mul_right C (Nat.le_of_lt hi); omega
  have CL := Lib.hid fun T J (x : LL) (hT : T ≤ R) (hJ : J < C) (ok : Ok2 R C x) W h => l12Least_c R C T J A x.1 n cap W (ok.l1.trans hn.symm) hn hR hC hT hJ (fun i hi => (allNum_iff _).1 ok.n1 i (by rw [ok.l1, ← hn]; exact hi)) h
  have CA := Lib.hid fun T J P (x : LL) (hT : T ≤ R) (hJ : J < C) (ok : Ok2 R C x) W h => l12Alone_c R C T J P A x.1 n cap W (ok.l1.trans hn.symm) hn hR hC hT hJ h
  have CC := Lib.hid fun (z : LL) (mk : Mks R C z) (i J : Nat) (hi : i < R) (hJ : J < C) W h => l12Cell_c R C A z.1 n cap i J W (mk.l1.trans hn.symm) h (castMul i C) (by have := castMulLe (hIC i hi); omega) (castPos i C J) (castLt (by rw [mk.l1]; exact idx_lt hi hJ)) (by rw [mk.l1]; omega)
  have CB := Lib.hid fun (z : LL) (mk : Mks R C z) W h => l1Bads_c A z.1 n cap W (mk.l1.trans hn.symm) h (by omega)
  have CB2 := Lib.hid fun (z : LL) (mk : Mks R C z) W h => l1Bads_c U z.2 m cap2 W (mk.l2.trans hm.symm) h (by omega)
  have CO := Lib.hid fun i j t (z : LL) W hi hj ht mk pr => opAdd_c R C A U n cap m cap2 B i j t z W hn hm hR hC hi hj ht mk pr
  have CS := Lib.hid fun i j (z : LL) W hi hj hij mk pr => opSwp_c R C A U n cap m cap2 B i j z W hn hm hR hC hi hj hij mk pr
  have CN := Lib.hid fun i (z : LL) W hi mk pr => opNeg_c R C A U n cap m cap2 B i z W hn hm hR hC hi mk pr
  have CD := Lib.hid fun x y W => sDivF_c x y W
  have HOK := Lib.hid fun J (hJ : J ≤ C) (T : Nat) (x : LL) (h : hermF R C s J = some (T, x)) => hermF_HI ok0 hJ h
  have H0 := Lib.hid (show hermF R C s 0 = some (0, s) from rfl)
  have HFU := Lib.hid fun J (hJ : J ≤ C) (T : Nat) (x : LL) (h : hermF R C s J = some (T, x)) (hx : ¬ T < R) => hermF_full (k := C) h hx hJ
  clear hw1 hn hm hrA hrU mbA1 mbU1 pr0 hIC hRC hRR ok0
  go_enter Try.func111, Try.ntmps111
  go_wp2_with fail
  rw [← HW1.out]
  go_loopw [5, 6] (fun t j wr => ∃ (T J : Nat) (x : LL), t = .int .i64 T ∧ j = .int .i64 J ∧ J ≤ C ∧ RowKit.Hid (hermF R C s J = some (T, x)) ∧ Pr wr B A U n cap m cap2 x.1 x.2 ∧ Grown2 w1 wr (Value.slice A n cap).ownBlock (Value.slice U m cap2).ownBlock) (fun _ j _ => C - (intOf j).toNat)
  case atStart => exact ⟨0, 0, s, rfl, rfl, Nat.zero_le _, H0, pr1, Grown2.refl _ _ _⟩
  case round =>
    clear pr1
    obtain ⟨T, J, x, rfl, rfl, hJ, HF, pr, gr⟩ := hrel
    have H := Lib.hid (HOK.out J hJ T x HF.out)
    have mbA := MA.out wr gr
    have mbU := MU.out wr gr
    obtain ⟨a0, a1, a2⟩ := mbA.cells
    obtain ⟨u0, u1, u2⟩ := mbU.cells
    by_cases hlt : J < C
    · have hlt' : (J : Int) < (C : Int) := by omega
      by_cases hT : T < R
      · have hT' : (T : Int) < (R : Int) := by omega
        have C1 := fun W h => CL.out T J x (Nat.le_of_lt hT) hlt H.out.ok W h
        cases hle : least R C T J x.1 with
        | none =>
          rw [hle] at C1
          have C1' := Lib.hid C1
          have HX := Lib.hid ((hermF_next HF.out).trans (colS_none hT hle))
          clear C1 hle
          go_wp2_with fail
          refine (C1'.out _ (pr.oa.rd')).mono ?_; rintro e w3 ⟨rfl, g3⟩
          go_wp2_with fail
          go_round
          case rel => exact ⟨T, J + 1, x, rfl, by go_num, by omega, HX, pr.grows g3, gr.right g3⟩
          case measure => simp [intOf]; omega
        | some p0 =>
          have L0 := Lib.hid (Lst.of hle)
          have hp0 : ¬ ((p0 : Nat) : Int) < 0 := by omega
          rw [hle] at C1
          have C1' := Lib.hid C1
          have HL := Lib.hid hle
          clear C1 hle
          go_wp2_with fail
          refine (C1'.out _ (pr.oa.rd')).mono ?_; rintro e w3 ⟨rfl, g3⟩
          replace pr := pr.grows g3
          replace gr := gr.right g3
          clear a0 a1 a2 u0 u1 u2
          obtain ⟨a0, a1, a2⟩ := (MA.out w3 gr).cells
          obtain ⟨u0, u1, u2⟩ := (MU.out w3 gr).cells
          go_wp2_with fail
          obtain ⟨wo, rfl⟩ : ∃ wo : World, wo = wr := ⟨_, rfl⟩
          go_loopg [7] (mu R C T J p0 x.1) (fun gk p wr => ∃ (P : Nat) (y : LL), p = .int .i64 P ∧ RowKit.Hid (Ok2 R C y) ∧ RowKit.Hid (Lst R C T J P y.1) ∧ RowKit.Hid (redM R C T J y P = redM R C T J x p0) ∧ mu R C T J P y.1 ≤ gk ∧ Pr wr B A U n cap m cap2 y.1 y.2 ∧ Grown2 w1 wr (Value.slice A n cap).ownBlock (Value.slice U m cap2).ownBlock)
          case atStart => exact ⟨p0, x, rfl, Lib.hid H.out.ok, L0, Lib.hid rfl, Nat.le_refl _, pr, gr⟩
          case round =>
            clear pr gr g3 a0 a1 a2 u0 u1 u2 C1'
            obtain ⟨P, y, rfl, HO, HLS, HRED, hmu, pr, gr⟩ := hrel
            obtain ⟨a0, a1, a2⟩ := (MA.out wr gr).cells
            obtain ⟨u0, u1, u2⟩ := (MU.out wr gr).cells
            have CA1 := fun W h => CA.out T J P y (Nat.le_of_lt hT) hlt HO.out W h
            have hPR := HLS.out.hi
            have hPT := HLS.out.lo
            have hPR' : (P : Int) < (R : Int) := by omega
            cases hO : othB R C T J P y.1 with
            | false =>
              rw [hO] at CA1
              have CA1' := Lib.hid CA1
              have HCOL := Lib.hid (colS_red hT HL.out (HRED.out.symm.trans (redM_end hO)))
              clear CA1 hO
              go_wp2_with fail
              refine (CA1'.out _ (pr.oa.rd')).mono ?_; rintro e w4 ⟨rfl, g4⟩
              replace pr := pr.grows g4
              replace gr := gr.right g4
              clear a0 a1 a2 u0 u1 u2 CA1' g4
              obtain ⟨a0, a1, a2⟩ := (MA.out w4 gr).cells
              obtain ⟨u0, u1, u2⟩ := (MU.out w4 gr).cells
              have HOT := Lib.hid (swapIf_ok HO.out hPR hT)
              have HNT := Lib.hid (swapIf_ne HLS.out hT hlt)
              by_cases hPTe : P = T
              · have hPTs := hPTe.symm
                subst hPTs
                have eS : swapIf R C T T y = y := by unfold swapIf; rw [if_pos rfl]
                rw [eS] at HOT HNT
                replace HCOL := HCOL.out
                rw [eS] at HCOL
                have C2 := fun W h => CC.out y HOT.out.mks T J hT hlt W h
                rw [castIdx] at C2
                by_cases hneg : nth y.1 (T * C + J) < 0
                · obtain ⟨y2, hy2⟩ : ∃ y2 : LL, y2 = (negT R C T y.1, negT R R T y.2) := ⟨_, rfl⟩
                  have eN : negIf R C T J y = y2 := by rw [hy2]; unfold negIf; rw [if_pos hneg]; rfl
                  rw [eN] at HCOL
                  have HO2 := Lib.hid (show Ok2 R C y2 by have := negIf_ok (j := J) HOT.out hT; rw [eN] at this; exact this)
                  have HN2 := Lib.hid (show nth y2.1 (T * C + J) ≠ 0 by have := negIf_ne HOT.out hT hlt HNT.out; rw [eN] at this; exact this)
                  have HCOL2 := Lib.hid HCOL
                  have HY2 := Lib.hid hy2
                  clear eN HCOL hy2
                  generalize nth y.1 (T * C + J) = c0 at C2 hneg
                  have C2' := Lib.hid C2
                  clear C2
                  have CN1 := Lib.hid fun W pr => CN.out T y W hT HOT.out.mks pr
                  go_wp2_with fail
                  refine (C2'.out _ (pr.oa.rd')).mono ?_; rintro e w6 ⟨rfl, g6⟩
                  replace pr := pr.grows g6
                  replace gr := gr.right g6
                  clear a0 a1 a2 u0 u1 u2 g6 C2'
                  obtain ⟨a0, a1, a2⟩ := (MA.out w6 gr).cells
                  obtain ⟨u0, u1, u2⟩ := (MU.out w6 gr).cells
                  go_wp2_with fail
                  refine (CN1.out _ pr).mono ?_; rintro e w7 ⟨rfl, pr7, g7⟩
                  replace gr := gr.trans g7
                  replace pr := pr7
                  clear a0 a1 a2 u0 u1 u2 g7 pr7 CN1
                  obtain ⟨a0, a1, a2⟩ := (MA.out w7 gr).cells
                  obtain ⟨u0, u1, u2⟩ := (MU.out w7 gr).cells
                  go_wp2_with fail
                  have pr2 : Pr w7 B A U n cap m cap2 y2.1 y2.2 := by rw [HY2.out]; exact pr
                  clear pr hneg
                  obtain ⟨wo2, rfl⟩ : ∃ wo : World, wo = wr := ⟨_, rfl⟩
                  go_loopw [12] (fun i wr => ∃ (K : Nat) (z : LL), i = .int .i64 K ∧ K ≤ T ∧ RowKit.Hid (Stands R C (upF R C T J y2 K) z) ∧ Pr wr B A U n cap m cap2 z.1 z.2 ∧ Grown2 w1 wr (Value.slice A n cap).ownBlock (Value.slice U m cap2).ownBlock) (fun i _ => T - (intOf i).toNat)
                  case atStart => exact ⟨0, y2, rfl, Nat.zero_le _, Lib.hid HO2.out.stands, pr2, gr⟩
                  case round =>
                    clear pr2 gr a0 a1 a2 u0 u1 u2
                    obtain ⟨K, z, rfl, hK, HS, pr, gr⟩ := hrel
                    obtain ⟨a0, a1, a2⟩ := (MA.out wr gr).cells
                    obtain ⟨u0, u1, u2⟩ := (MU.out wr gr).cells
                    by_cases hKR : K < T
                    · have hKR' : (K : Int) < (T : Int) := by omega
                      have hKR2 : K < R := by omega
                      have C2 := fun W h => CC.out z HS.out.1 K J hKR2 hlt W h
                      rw [castIdx] at C2
                      have C3 := fun W h => CC.out z HS.out.1 T J hT hlt W h
                      rw [castIdx] at C3
                      have CDV := fun W => CD.out (nth z.1 (K * C + J)) (nth z.1 (T * C + J)) W
                      have hq := (isNum_iff _).1 (flQ_num (n := nth z.1 (K * C + J)) (d := nth z.1 (T * C + J)))
                      have CO1 := fun W pr => CO.out K T (-(flQ (nth z.1 (K * C + J)) (nth z.1 (T * C + J)))) z W hKR2 hT (by rw [isNum_iff]; omega) HS.out.1 pr
                      have HS' := Lib.hid (up_step HO2.out hT hlt HN2.out hKR HS.out)
                      have C2' := Lib.hid C2
                      have C3' := Lib.hid C3
                      clear C2 C3
                      generalize flQ (nth z.1 (K * C + J)) (nth z.1 (T * C + J)) = q at *
                      generalize flR (nth z.1 (K * C + J)) (nth z.1 (T * C + J)) = q1 at *
                      generalize flB (nth z.1 (K * C + J)) (nth z.1 (T * C + J)) = q2 at *
                      generalize nth z.1 (K * C + J) = c1 at *
                      generalize nth z.1 (T * C + J) = c2 at *
                      have CDV' := Lib.hid CDV
                      have CO1' := Lib.hid CO1
                      clear CDV CO1
                      clear a0 a1 a2 u0 u1 u2
                      obtain ⟨a0, a1, a2⟩ := (MA.out wr gr).ext
                      have hrd := pr.oa.rd'
                      go_wp2_with fail
                      ((refine wp_region_ext (by kernel_rfl) (by kernel_rfl) ?_); (repeat (go_big_quiet_step ((first | (go_at_call 103; with_reducible exact extC (C2'.out _ (Rd.ext hrd _))) | (go_at_call 103; with_reducible exact extC (C3'.out _ (Rd.ext hrd _))) | (go_at_call 142; with_reducible exact extC (CDV'.out _)))))); refine wpQuiet_nil ?_; rintro w6 ⟨w60, hw60⟩; have g6 := grows_of_ext hw60; clear hw60 w60)
                      replace pr := pr.grows g6
                      replace gr := gr.right g6
                      clear a0 a1 a2 hrd
                      obtain ⟨a0, a1, a2⟩ := (MA.out w6 gr).cells
                      obtain ⟨u0, u1, u2⟩ := (MU.out w6 gr).cells
                      go_wp2_with fail
                      refine (CO1'.out _ pr).mono ?_; rintro e w7 ⟨rfl, pr7, g7⟩
                      replace gr := gr.trans g7
                      clear pr g7 a0 a1 a2 u0 u1 u2
                      go_wp2_with fail
                      go_round
                      case rel => exact ⟨K + 1, _, by go_num, by omega, HS', pr7, gr⟩
                      case measure => simp [intOf]; omega
                    · obtain rfl : K = T := by omega
                      have hab := anyBad_two HS.out
                      have CB1 := fun W h => CB.out z HS.out.1 W h
                      have CB3 := fun W h => CB2.out z HS.out.1 W h
                      cases he : upF R C K J y2 K with
                      | none =>
                        rw [he] at hab
                        have HD := Lib.hid (hermF_dead hlt HF.out (by rw [HCOL2.out, he]; rfl))
                        clear he
                        cases hb1 : anyBad z.1 with
                        | true =>
                          rw [hb1] at CB1
                          have CB1' := Lib.hid CB1
                          clear CB1 CB3 hab hb1
                          go_wp2_with fail
                          refine (CB1'.out _ (pr.oa.rd')).mono ?_; rintro e w5 ⟨rfl, rfl⟩
                          go_wp2_with fail
                          go_ret
                          exact ⟨ret_bool (by rw [HD.out]; rfl), ⟨z, pr, fun y hy => by rw [HD.out] at hy; cases hy⟩, GB.out _ gr⟩
                        | false =>
                          rw [hb1] at hab CB1
                          rw [show anyBad z.2 = true from hab] at CB3
                          have CB1' := Lib.hid CB1
                          have CB3' := Lib.hid CB3
                          clear CB1 CB3 hab hb1
                          go_wp2_with fail
                          refine (CB1'.out _ (pr.oa.rd')).mono ?_; rintro e w5 ⟨rfl, rfl⟩
                          go_wp2_with fail
                          refine (CB3'.out _ (pr.ou.rd')).mono ?_; rintro e w5 ⟨rfl, rfl⟩
                          go_wp2_with fail
                          go_ret
                          exact ⟨ret_bool (by rw [HD.out]; rfl), ⟨z, pr, fun y hy => by rw [HD.out] at hy; cases hy⟩, GB.out _ gr⟩
                      | some y' =>
                        rw [he] at hab
                        have hst := HS.out
                        rw [he] at hst
                        obtain ⟨ez, ok'⟩ := hst.some_eq
                        subst ez
                        have HX := Lib.hid (show hermF R C s (J + 1) = some (K + 1, z) by rw [hermF_next HF.out, HCOL2.out, he]; rfl)
                        simp only [Option.isSome_some, Bool.not_true, Bool.or_eq_false_iff] at hab
                        rw [hab.1] at CB1
                        rw [hab.2] at CB3
                        have CB1' := Lib.hid CB1
                        have CB3' := Lib.hid CB3
                        clear CB1 CB3 hab he hst ok' HS
                        go_wp2_with fail
                        refine (CB1'.out _ (pr.oa.rd')).mono ?_; rintro e w5 ⟨rfl, rfl⟩
                        go_wp2_with fail
                        refine (CB3'.out _ (pr.ou.rd')).mono ?_; rintro e w5 ⟨rfl, rfl⟩
                        go_wp2_with fail
                        go_round
                        case rel => exact ⟨K + 1, J + 1, z, by go_num, by go_num, by omega, HX, pr, gr⟩
                        case measure => simp [intOf]; omega
                · obtain ⟨y2, hy2⟩ : ∃ y2 : LL, y2 = y := ⟨_, rfl⟩
                  have eN : negIf R C T J y = y2 := by rw [hy2]; unfold negIf; rw [if_neg hneg]
                  rw [eN] at HCOL
                  have HO2 := Lib.hid (show Ok2 R C y2 by have := negIf_ok (j := J) HOT.out hT; rw [eN] at this; exact this)
                  have HN2 := Lib.hid (show nth y2.1 (T * C + J) ≠ 0 by have := negIf_ne HOT.out hT hlt HNT.out; rw [eN] at this; exact this)
                  have HCOL2 := Lib.hid HCOL
                  have HY2 := Lib.hid hy2
                  clear eN HCOL hy2
                  generalize nth y.1 (T * C + J) = c0 at C2 hneg
                  have C2' := Lib.hid C2
                  clear C2
                  go_wp2_with fail
                  refine (C2'.out _ (pr.oa.rd')).mono ?_; rintro e w6 ⟨rfl, g6⟩
                  replace pr := pr.grows g6
                  replace gr := gr.right g6
                  clear a0 a1 a2 u0 u1 u2 g6 C2'
                  obtain ⟨a0, a1, a2⟩ := (MA.out w6 gr).cells
                  obtain ⟨u0, u1, u2⟩ := (MU.out w6 gr).cells
                  go_wp2_with fail
                  have pr2 : Pr w6 B A U n cap m cap2 y2.1 y2.2 := by rw [HY2.out]; exact pr
                  clear pr hneg
                  obtain ⟨wo2, rfl⟩ : ∃ wo : World, wo = wr := ⟨_, rfl⟩
                  go_loopw [12] (fun i wr => ∃ (K : Nat) (z : LL), i = .int .i64 K ∧ K ≤ T ∧ RowKit.Hid (Stands R C (upF R C T J y2 K) z) ∧ Pr wr B A U n cap m cap2 z.1 z.2 ∧ Grown2 w1 wr (Value.slice A n cap).ownBlock (Value.slice U m cap2).ownBlock) (fun i _ => T - (intOf i).toNat)
                  case atStart => exact ⟨0, y2, rfl, Nat.zero_le _, Lib.hid HO2.out.stands, pr2, gr⟩
                  case round =>
                    clear pr2 gr a0 a1 a2 u0 u1 u2
                    obtain ⟨K, z, rfl, hK, HS, pr, gr⟩ := hrel
                    obtain ⟨a0, a1, a2⟩ := (MA.out wr gr).cells
                    obtain ⟨u0, u1, u2⟩ := (MU.out wr gr).cells
                    by_cases hKR : K < T
                    · have hKR' : (K : Int) < (T : Int) := by omega
                      have hKR2 : K < R := by omega
                      have C2 := fun W h => CC.out z HS.out.1 K J hKR2 hlt W h
                      rw [castIdx] at C2
                      have C3 := fun W h => CC.out z HS.out.1 T J hT hlt W h
                      rw [castIdx] at C3
                      have CDV := fun W => CD.out (nth z.1 (K * C + J)) (nth z.1 (T * C + J)) W
                      have hq := (isNum_iff _).1 (flQ_num (n := nth z.1 (K * C + J)) (d := nth z.1 (T * C + J)))
                      have CO1 := fun W pr => CO.out K T (-(flQ (nth z.1 (K * C + J)) (nth z.1 (T * C + J)))) z W hKR2 hT (by rw [isNum_iff]; omega) HS.out.1 pr
                      have HS' := Lib.hid (up_step HO2.out hT hlt HN2.out hKR HS.out)
                      have C2' := Lib.hid C2
                      have C3' := Lib.hid C3
                      clear C2 C3
                      generalize flQ (nth z.1 (K * C + J)) (nth z.1 (T * C + J)) = q at *
                      generalize flR (nth z.1 (K * C + J)) (nth z.1 (T * C + J)) = q1 at *
                      generalize flB (nth z.1 (K * C + J)) (nth z.1 (T * C + J)) = q2 at *
                      generalize nth z.1 (K * C + J) = c1 at *
                      generalize nth z.1 (T * C + J) = c2 at *
                      have CDV' := Lib.hid CDV
                      have CO1' := Lib.hid CO1
                      clear CDV CO1
                      clear a0 a1 a2 u0 u1 u2
                      obtain ⟨a0, a1, a2⟩ := (MA.out wr gr).ext
                      have hrd := pr.oa.rd'
                      go_wp2_with fail
                      ((refine wp_region_ext (by kernel_rfl) (by kernel_rfl) ?_); (repeat (go_big_quiet_step ((first | (go_at_call 103; with_reducible exact extC (C2'.out _ (Rd.ext hrd _))) | (go_at_call 103; with_reducible exact extC (C3'.out _ (Rd.ext hrd _))) | (go_at_call 142; with_reducible exact extC (CDV'.out _)))))); refine wpQuiet_nil ?_; rintro w6 ⟨w60, hw60⟩; have g6 := grows_of_ext hw60; clear hw60 w60)
                      replace pr := pr.grows g6
                      replace gr := gr.right g6
                      clear a0 a1 a2 hrd
                      obtain ⟨a0, a1, a2⟩ := (MA.out w6 gr).cells
                      obtain ⟨u0, u1, u2⟩ := (MU.out w6 gr).cells
                      go_wp2_with fail
                      refine (CO1'.out _ pr).mono ?_; rintro e w7 ⟨rfl, pr7, g7⟩
                      replace gr := gr.trans g7
                      clear pr g7 a0 a1 a2 u0 u1 u2
                      go_wp2_with fail
                      go_round
                      case rel => exact ⟨K + 1, _, by go_num, by omega, HS', pr7, gr⟩
                      case measure => simp [intOf]; omega
                    · obtain rfl : K = T := by omega
                      have hab := anyBad_two HS.out
                      have CB1 := fun W h => CB.out z HS.out.1 W h
                      have CB3 := fun W h => CB2.out z HS.out.1 W h
                      cases he : upF R C K J y2 K with
                      | none =>
                        rw [he] at hab
                        have HD := Lib.hid (hermF_dead hlt HF.out (by rw [HCOL2.out, he]; rfl))
                        clear he
                        cases hb1 : anyBad z.1 with
                        | true =>
                          rw [hb1] at CB1
                          have CB1' := Lib.hid CB1
                          clear CB1 CB3 hab hb1
                          go_wp2_with fail
                          refine (CB1'.out _ (pr.oa.rd')).mono ?_; rintro e w5 ⟨rfl, rfl⟩
                          go_wp2_with fail
                          go_ret
                          exact ⟨ret_bool (by rw [HD.out]; rfl), ⟨z, pr, fun y hy => by rw [HD.out] at hy; cases hy⟩, GB.out _ gr⟩
                        | false =>
                          rw [hb1] at hab CB1
                          rw [show anyBad z.2 = true from hab] at CB3
                          have CB1' := Lib.hid CB1
                          have CB3' := Lib.hid CB3
                          clear CB1 CB3 hab hb1
                          go_wp2_with fail
                          refine (CB1'.out _ (pr.oa.rd')).mono ?_; rintro e w5 ⟨rfl, rfl⟩
                          go_wp2_with fail
                          refine (CB3'.out _ (pr.ou.rd')).mono ?_; rintro e w5 ⟨rfl, rfl⟩
                          go_wp2_with fail
                          go_ret
                          exact ⟨ret_bool (by rw [HD.out]; rfl), ⟨z, pr, fun y hy => by rw [HD.out] at hy; cases hy⟩, GB.out _ gr⟩
                      | some y' =>
                        rw [he] at hab
                        have hst := HS.out
                        rw [he] at hst
                        obtain ⟨ez, ok'⟩ := hst.some_eq
                        subst ez
                        have HX := Lib.hid (show hermF R C s (J + 1) = some (K + 1, z) by rw [hermF_next HF.out, HCOL2.out, he]; rfl)
                        simp only [Option.isSome_some, Bool.not_true, Bool.or_eq_false_iff] at hab
                        rw [hab.1] at CB1
                        rw [hab.2] at CB3
                        have CB1' := Lib.hid CB1
                        have CB3' := Lib.hid CB3
                        clear CB1 CB3 hab he hst ok' HS
                        go_wp2_with fail
                        refine (CB1'.out _ (pr.oa.rd')).mono ?_; rintro e w5 ⟨rfl, rfl⟩
                        go_wp2_with fail
                        refine (CB3'.out _ (pr.ou.rd')).mono ?_; rintro e w5 ⟨rfl, rfl⟩
                        go_wp2_with fail
                        go_round
                        case rel => exact ⟨K + 1, J + 1, z, by go_num, by go_num, by omega, HX, pr, gr⟩
                        case measure => simp [intOf]; omega
              · have e1 : ((P : Int) != (T : Int)) = true := by rw [bne_iff_ne]; omega
                have eS : swapIf R C P T y = (swpT R C P T y.1, swpT R R P T y.2) := by unfold swapIf; rw [if_neg hPTe]; rfl
                rw [eS] at HOT HNT
                replace HCOL := HCOL.out
                rw [eS] at HCOL
                have CS1 := Lib.hid fun W pr => CS.out P T y W hPR hT hPTe HO.out.mks pr
                go_wp2_with fail
                refine (CS1.out _ pr).mono ?_; rintro e w5 ⟨rfl, pr5, g5⟩
                replace gr := gr.trans g5
                replace pr := pr5
                clear a0 a1 a2 u0 u1 u2 g5 CS1 pr5
                obtain ⟨a0, a1, a2⟩ := (MA.out w5 gr).cells
                obtain ⟨u0, u1, u2⟩ := (MU.out w5 gr).cells
                have C2 := fun W h => CC.out (swpT R C P T y.1, swpT R R P T y.2) HOT.out.mks T J hT hlt W h
                rw [castIdx] at C2
                by_cases hneg : nth (swpT R C P T y.1, swpT R R P T y.2).1 (T * C + J) < 0
                · obtain ⟨y2, hy2⟩ : ∃ y2 : LL, y2 = (negT R C T (swpT R C P T y.1, swpT R R P T y.2).1, negT R R T (swpT R C P T y.1, swpT R R P T y.2).2) := ⟨_, rfl⟩
                  have eN : negIf R C T J (swpT R C P T y.1, swpT R R P T y.2) = y2 := by rw [hy2]; unfold negIf; rw [if_pos hneg]; rfl
                  rw [eN] at HCOL
                  have HO2 := Lib.hid (show Ok2 R C y2 by have := negIf_ok (j := J) HOT.out hT; rw [eN] at this; exact this)
                  have HN2 := Lib.hid (show nth y2.1 (T * C + J) ≠ 0 by have := negIf_ne HOT.out hT hlt HNT.out; rw [eN] at this; exact this)
                  have HCOL2 := Lib.hid HCOL
                  have HY2 := Lib.hid hy2
                  clear eN HCOL hy2
                  generalize nth (swpT R C P T y.1, swpT R R P T y.2).1 (T * C + J) = c0 at C2 hneg
                  have C2' := Lib.hid C2
                  clear C2
                  have CN1 := Lib.hid fun W pr => CN.out T (swpT R C P T y.1, swpT R R P T y.2) W hT HOT.out.mks pr
                  go_wp2_with fail
                  refine (C2'.out _ (pr.oa.rd')).mono ?_; rintro e w6 ⟨rfl, g6⟩
                  replace pr := pr.grows g6
                  replace gr := gr.right g6
                  clear a0 a1 a2 u0 u1 u2 g6 C2'
                  obtain ⟨a0, a1, a2⟩ := (MA.out w6 gr).cells
                  obtain ⟨u0, u1, u2⟩ := (MU.out w6 gr).cells
                  go_wp2_with fail
                  refine (CN1.out _ pr).mono ?_; rintro e w7 ⟨rfl, pr7, g7⟩
                  replace gr := gr.trans g7
                  replace pr := pr7
                  clear a0 a1 a2 u0 u1 u2 g7 pr7 CN1
                  obtain ⟨a0, a1, a2⟩ := (MA.out w7 gr).cells
                  obtain ⟨u0, u1, u2⟩ := (MU.out w7 gr).cells
                  go_wp2_with fail
                  have pr2 : Pr w7 B A U n cap m cap2 y2.1 y2.2 := by rw [HY2.out]; exact pr
                  clear pr hneg
                  obtain ⟨wo2, rfl⟩ : ∃ wo : World, wo = wr := ⟨_, rfl⟩
                  go_loopw [12] (fun i wr => ∃ (K : Nat) (z : LL), i = .int .i64 K ∧ K ≤ T ∧ RowKit.Hid (Stands R C (upF R C T J y2 K) z) ∧ Pr wr B A U n cap m cap2 z.1 z.2 ∧ Grown2 w1 wr (Value.slice A n cap).ownBlock (Value.slice U m cap2).ownBlock) (fun i _ => T - (intOf i).toNat)
                  case atStart => exact ⟨0, y2, rfl, Nat.zero_le _, Lib.hid HO2.out.stands, pr2, gr⟩
                  case round =>
                    clear pr2 gr a0 a1 a2 u0 u1 u2
                    obtain ⟨K, z, rfl, hK, HS, pr, gr⟩ := hrel
                    obtain ⟨a0, a1, a2⟩ := (MA.out wr gr).cells
                    obtain ⟨u0, u1, u2⟩ := (MU.out wr gr).cells
                    by_cases hKR : K < T
                    · have hKR' : (K : Int) < (T : Int) := by omega
                      have hKR2 : K < R := by omega
                      have C2 := fun W h => CC.out z HS.out.1 K J hKR2 hlt W h
                      rw [castIdx] at C2
                      have C3 := fun W h => CC.out z HS.out.1 T J hT hlt W h
                      rw [castIdx] at C3
                      have CDV := fun W => CD.out (nth z.1 (K * C + J)) (nth z.1 (T * C + J)) W
                      have hq := (isNum_iff _).1 (flQ_num (n := nth z.1 (K * C + J)) (d := nth z.1 (T * C + J)))
                      have CO1 := fun W pr => CO.out K T (-(flQ (nth z.1 (K * C + J)) (nth z.1 (T * C + J)))) z W hKR2 hT (by rw [isNum_iff]; omega) HS.out.1 pr
                      have HS' := Lib.hid (up_step HO2.out hT hlt HN2.out hKR HS.out)
                      have C2' := Lib.hid C2
                      have C3' := Lib.hid C3
                      clear C2 C3
                      generalize flQ (nth z.1 (K * C + J)) (nth z.1 (T * C + J)) = q at *
                      generalize flR (nth z.1 (K * C + J)) (nth z.1 (T * C + J)) = q1 at *
                      generalize flB (nth z.1 (K * C + J)) (nth z.1 (T * C + J)) = q2 at *
                      generalize nth z.1 (K * C + J) = c1 at *
                      generalize nth z.1 (T * C + J) = c2 at *
                      have CDV' := Lib.hid CDV
                      have CO1' := Lib.hid CO1
                      clear CDV CO1
                      clear a0 a1 a2 u0 u1 u2
                      obtain ⟨a0, a1, a2⟩ := (MA.out wr gr).ext
                      have hrd := pr.oa.rd'
                      go_wp2_with fail
                      ((refine wp_region_ext (by kernel_rfl) (by kernel_rfl) ?_); (repeat (go_big_quiet_step ((first | (go_at_call 103; with_reducible exact extC (C2'.out _ (Rd.ext hrd _))) | (go_at_call 103; with_reducible exact extC (C3'.out _ (Rd.ext hrd _))) | (go_at_call 142; with_reducible exact extC (CDV'.out _)))))); refine wpQuiet_nil ?_; rintro w6 ⟨w60, hw60⟩; have g6 := grows_of_ext hw60; clear hw60 w60)
                      replace pr := pr.grows g6
                      replace gr := gr.right g6
                      clear a0 a1 a2 hrd
                      obtain ⟨a0, a1, a2⟩ := (MA.out w6 gr).cells
                      obtain ⟨u0, u1, u2⟩ := (MU.out w6 gr).cells
                      go_wp2_with fail
                      refine (CO1'.out _ pr).mono ?_; rintro e w7 ⟨rfl, pr7, g7⟩
                      replace gr := gr.trans g7
                      clear pr g7 a0 a1 a2 u0 u1 u2
                      go_wp2_with fail
                      go_round
                      case rel => exact ⟨K + 1, _, by go_num, by omega, HS', pr7, gr⟩
                      case measure => simp [intOf]; omega
                    · obtain rfl : K = T := by omega
                      have hab := anyBad_two HS.out
                      have CB1 := fun W h => CB.out z HS.out.1 W h
                      have CB3 := fun W h => CB2.out z HS.out.1 W h
                      cases he : upF R C K J y2 K with
                      | none =>
                        rw [he] at hab
                        have HD := Lib.hid (hermF_dead hlt HF.out (by rw [HCOL2.out, he]; rfl))
                        clear he
                        cases hb1 : anyBad z.1 with
                        | true =>
                          rw [hb1] at CB1
                          have CB1' := Lib.hid CB1
                          clear CB1 CB3 hab hb1
                          go_wp2_with fail
                          refine (CB1'.out _ (pr.oa.rd')).mono ?_; rintro e w5 ⟨rfl, rfl⟩
                          go_wp2_with fail
                          go_ret
                          exact ⟨ret_bool (by rw [HD.out]; rfl), ⟨z, pr, fun y hy => by rw [HD.out] at hy; cases hy⟩, GB.out _ gr⟩
                        | false =>
                          rw [hb1] at hab CB1
                          rw [show anyBad z.2 = true from hab] at CB3
                          have CB1' := Lib.hid CB1
                          have CB3' := Lib.hid CB3
                          clear CB1 CB3 hab hb1
                          go_wp2_with fail
                          refine (CB1'.out _ (pr.oa.rd')).mono ?_; rintro e w5 ⟨rfl, rfl⟩
                          go_wp2_with fail
                          refine (CB3'.out _ (pr.ou.rd')).mono ?_; rintro e w5 ⟨rfl, rfl⟩
                          go_wp2_with fail
                          go_ret
                          exact ⟨ret_bool (by rw [HD.out]; rfl), ⟨z, pr, fun y hy => by rw [HD.out] at hy; cases hy⟩, GB.out _ gr⟩
                      | some y' =>
                        rw [he] at hab
                        have hst := HS.out
                        rw [he] at hst
                        obtain ⟨ez, ok'⟩ := hst.some_eq
                        subst ez
                        have HX := Lib.hid (show hermF R C s (J + 1) = some (K + 1, z) by rw [hermF_next HF.out, HCOL2.out, he]; rfl)
                        simp only [Option.isSome_some, Bool.not_true, Bool.or_eq_false_iff] at hab
                        rw [hab.1] at CB1
                        rw [hab.2] at CB3
                        have CB1' := Lib.hid CB1
                        have CB3' := Lib.hid CB3
                        clear CB1 CB3 hab he hst ok' HS
                        go_wp2_with fail
                        refine (CB1'.out _ (pr.oa.rd')).mono ?_; rintro e w5 ⟨rfl, rfl⟩
                        go_wp2_with fail
                        refine (CB3'.out _ (pr.ou.rd')).mono ?_; rintro e w5 ⟨rfl, rfl⟩
                        go_wp2_with fail
                        go_round
                        case rel => exact ⟨K + 1, J + 1, z, by go_num, by go_num, by omega, HX, pr, gr⟩
                        case measure => simp [intOf]; omega
                · obtain ⟨y2, hy2⟩ : ∃ y2 : LL, y2 = (swpT R C P T y.1, swpT R R P T y.2) := ⟨_, rfl⟩
                  have eN : negIf R C T J (swpT R C P T y.1, swpT R R P T y.2) = y2 := by rw [hy2]; unfold negIf; rw [if_neg hneg]
                  rw [eN] at HCOL
                  have HO2 := Lib.hid (show Ok2 R C y2 by have := negIf_ok (j := J) HOT.out hT; rw [eN] at this; exact this)
                  have HN2 := Lib.hid (show nth y2.1 (T * C + J) ≠ 0 by have := negIf_ne HOT.out hT hlt HNT.out; rw [eN] at this; exact this)
                  have HCOL2 := Lib.hid HCOL
                  have HY2 := Lib.hid hy2
                  clear eN HCOL hy2
                  generalize nth (swpT R C P T y.1, swpT R R P T y.2).1 (T * C + J) = c0 at C2 hneg
                  have C2' := Lib.hid C2
                  clear C2
                  go_wp2_with fail
                  refine (C2'.out _ (pr.oa.rd')).mono ?_; rintro e w6 ⟨rfl, g6⟩
                  replace pr := pr.grows g6
                  replace gr := gr.right g6
                  clear a0 a1 a2 u0 u1 u2 g6 C2'
                  obtain ⟨a0, a1, a2⟩ := (MA.out w6 gr).cells
                  obtain ⟨u0, u1, u2⟩ := (MU.out w6 gr).cells
                  go_wp2_with fail
                  have pr2 : Pr w6 B A U n cap m cap2 y2.1 y2.2 := by rw [HY2.out]; exact pr
                  clear pr hneg
                  obtain ⟨wo2, rfl⟩ : ∃ wo : World, wo = wr := ⟨_, rfl⟩
                  go_loopw [12] (fun i wr => ∃ (K : Nat) (z : LL), i = .int .i64 K ∧ K ≤ T ∧ RowKit.Hid (Stands R C (upF R C T J y2 K) z) ∧ Pr wr B A U n cap m cap2 z.1 z.2 ∧ Grown2 w1 wr (Value.slice A n cap).ownBlock (Value.slice U m cap2).ownBlock) (fun i _ => T - (intOf i).toNat)
                  case atStart => exact ⟨0, y2, rfl, Nat.zero_le _, Lib.hid HO2.out.stands, pr2, gr⟩
                  case round =>
                    clear pr2 gr a0 a1 a2 u0 u1 u2
                    obtain ⟨K, z, rfl, hK, HS, pr, gr⟩ := hrel
                    obtain ⟨a0, a1, a2⟩ := (MA.out wr gr).cells
                    obtain ⟨u0, u1, u2⟩ := (MU.out wr gr).cells
                    by_cases hKR : K < T
                    · have hKR' : (K : Int) < (T : Int) := by omega
                      have hKR2 : K < R := by omega
                      have C2 := fun W h => CC.out z HS.out.1 K J hKR2 hlt W h
                      rw [castIdx] at C2
                      have C3 := fun W h => CC.out z HS.out.1 T J hT hlt W h
                      rw [castIdx] at C3
                      have CDV := fun W => CD.out (nth z.1 (K * C + J)) (nth z.1 (T * C + J)) W
                      have hq := (isNum_iff _).1 (flQ_num (n := nth z.1 (K * C + J)) (d := nth z.1 (T * C + J)))
                      have CO1 := fun W pr => CO.out K T (-(flQ (nth z.1 (K * C + J)) (nth z.1 (T * C + J)))) z W hKR2 hT (by rw [isNum_iff]; omega) HS.out.1 pr
                      have HS' := Lib.hid (up_step HO2.out hT hlt HN2.out hKR HS.out)
                      have C2' := Lib.hid C2
                      have C3' := Lib.hid C3
                      clear C2 C3
                      generalize flQ (nth z.1 (K * C + J)) (nth z.1 (T * C + J)) = q at *
                      generalize flR (nth z.1 (K * C + J)) (nth z.1 (T * C + J)) = q1 at *
                      generalize flB (nth z.1 (K * C + J)) (nth z.1 (T * C + J)) = q2 at *
                      generalize nth z.1 (K * C + J) = c1 at *
                      generalize nth z.1 (T * C + J) = c2 at *
                      have CDV' := Lib.hid CDV
                      have CO1' := Lib.hid CO1
                      clear CDV CO1
                      clear a0 a1 a2 u0 u1 u2
                      obtain ⟨a0, a1, a2⟩ := (MA.out wr gr).ext
                      have hrd := pr.oa.rd'
                      go_wp2_with fail
                      ((refine wp_region_ext (by kernel_rfl) (by kernel_rfl) ?_); (repeat (go_big_quiet_step ((first | (go_at_call 103; with_reducible exact extC (C2'.out _ (Rd.ext hrd _))) | (go_at_call 103; with_reducible exact extC (C3'.out _ (Rd.ext hrd _))) | (go_at_call 142; with_reducible exact extC (CDV'.out _)))))); refine wpQuiet_nil ?_; rintro w6 ⟨w60, hw60⟩; have g6 := grows_of_ext hw60; clear hw60 w60)
                      replace pr := pr.grows g6
                      replace gr := gr.right g6
                      clear a0 a1 a2 hrd
                      obtain ⟨a0, a1, a2⟩ := (MA.out w6 gr).cells
                      obtain ⟨u0, u1, u2⟩ := (MU.out w6 gr).cells
                      go_wp2_with fail
                      refine (CO1'.out _ pr).mono ?_; rintro e w7 ⟨rfl, pr7, g7⟩
                      replace gr := gr.trans g7
                      clear pr g7 a0 a1 a2 u0 u1 u2
                      go_wp2_with fail
                      go_round
                      case rel => exact ⟨K + 1, _, by go_num, by omega, HS', pr7, gr⟩
                      case measure => simp [intOf]; omega
                    · obtain rfl : K = T := by omega
                      have hab := anyBad_two HS.out
                      have CB1 := fun W h => CB.out z HS.out.1 W h
                      have CB3 := fun W h => CB2.out z HS.out.1 W h
                      cases he : upF R C K J y2 K with
                      | none =>
                        rw [he] at hab
                        have HD := Lib.hid (hermF_dead hlt HF.out (by rw [HCOL2.out, he]; rfl))
                        clear he
                        cases hb1 : anyBad z.1 with
                        | true =>
                          rw [hb1] at CB1
                          have CB1' := Lib.hid CB1
                          clear CB1 CB3 hab hb1
                          go_wp2_with fail
                          refine (CB1'.out _ (pr.oa.rd')).mono ?_; rintro e w5 ⟨rfl, rfl⟩
                          go_wp2_with fail
                          go_ret
                          exact ⟨ret_bool (by rw [HD.out]; rfl), ⟨z, pr, fun y hy => by rw [HD.out] at hy; cases hy⟩, GB.out _ gr⟩
                        | false =>
                          rw [hb1] at hab CB1
                          rw [show anyBad z.2 = true from hab] at CB3
                          have CB1' := Lib.hid CB1
                          have CB3' := Lib.hid CB3
                          clear CB1 CB3 hab hb1
                          go_wp2_with fail
                          refine (CB1'.out _ (pr.oa.rd')).mono ?_; rintro e w5 ⟨rfl, rfl⟩
                          go_wp2_with fail
                          refine (CB3'.out _ (pr.ou.rd')).mono ?_; rintro e w5 ⟨rfl, rfl⟩
                          go_wp2_with fail
                          go_ret
                          exact ⟨ret_bool (by rw [HD.out]; rfl), ⟨z, pr, fun y hy => by rw [HD.out] at hy; cases hy⟩, GB.out _ gr⟩
                      | some y' =>
                        rw [he] at hab
                        have hst := HS.out
                        rw [he] at hst
                        obtain ⟨ez, ok'⟩ := hst.some_eq
                        subst ez
                        have HX := Lib.hid (show hermF R C s (J + 1) = some (K + 1, z) by rw [hermF_next HF.out, HCOL2.out, he]; rfl)
                        simp only [Option.isSome_some, Bool.not_true, Bool.or_eq_false_iff] at hab
                        rw [hab.1] at CB1
                        rw [hab.2] at CB3
                        have CB1' := Lib.hid CB1
                        have CB3' := Lib.hid CB3
                        clear CB1 CB3 hab he hst ok' HS
                        go_wp2_with fail
                        refine (CB1'.out _ (pr.oa.rd')).mono ?_; rintro e w5 ⟨rfl, rfl⟩
                        go_wp2_with fail
                        refine (CB3'.out _ (pr.ou.rd')).mono ?_; rintro e w5 ⟨rfl, rfl⟩
                        go_wp2_with fail
                        go_round
                        case rel => exact ⟨K + 1, J + 1, z, by go_num, by go_num, by omega, HX, pr, gr⟩
                        case measure => simp [intOf]; omega
            | true =>
              rw [hO] at CA1
              have CA1' := Lib.hid CA1
              have HOTH := Lib.hid hO
              clear CA1 hO
              go_wp2_with fail
              refine (CA1'.out _ (pr.oa.rd')).mono ?_; rintro e w4 ⟨rfl, g4⟩
              replace pr := pr.grows g4
              replace gr := gr.right g4
              clear a0 a1 a2 u0 u1 u2
              go_wp2_with fail
              obtain ⟨wo2, rfl⟩ : ∃ wo : World, wo = wr := ⟨_, rfl⟩
              go_loopw [8] (fun i wr => ∃ (K : Nat) (z : LL), i = .int .i64 K ∧ T ≤ K ∧ K ≤ R ∧ RowKit.Hid (Stands R C (elimF R C T J P y (K - T)) z) ∧ Pr wr B A U n cap m cap2 z.1 z.2 ∧ Grown2 w1 wr (Value.slice A n cap).ownBlock (Value.slice U m cap2).ownBlock) (fun i _ => R - (intOf i).toNat)
              case atStart => exact ⟨T, y, rfl, Nat.le_refl _, by omega, Lib.hid (by rw [Nat.sub_self]; exact HO.out.stands), pr, gr⟩
              case round =>
                clear pr gr g4 CA1'
                obtain ⟨K, z, rfl, hTK, hK, HS, pr, gr⟩ := hrel
                obtain ⟨a0, a1, a2⟩ := (MA.out wr gr).cells
                obtain ⟨u0, u1, u2⟩ := (MU.out wr gr).cells
                by_cases hKR : K < R
                · have hKR' : (K : Int) < (R : Int) := by omega
                  by_cases hKP : K = P
                  · have e1 : ((K : Int) != (P : Int)) = false := by rw [bne_eq_false_iff_eq]; omega
                    have HS' := Lib.hid (elim_skip hTK HS.out (.inl hKP))
                    clear hKP
                    go_wp2_with fail
                    go_round
                    case rel => exact ⟨K + 1, z, by go_num, by omega, by omega, HS', pr, gr⟩
                    case measure => simp [intOf]; omega
                  · have e1 : ((K : Int) != (P : Int)) = true := by rw [bne_iff_ne]; omega
                    have C2 := fun W h => CC.out z HS.out.1 K J hKR hlt W h
                    rw [castIdx] at C2
                    by_cases hz : nth z.1 (K * C + J) = 0
                    · have HS' := Lib.hid (elim_skip hTK HS.out (.inr hz))
                      rw [hz] at C2
                      have C2' := Lib.hid C2
                      clear hKP hz C2
                      go_wp2_with fail
                      refine (C2'.out _ (pr.oa.rd')).mono ?_; rintro e w5 ⟨rfl, g5⟩
                      go_wp2_with fail
                      go_round
                      case rel => exact ⟨K + 1, z, by go_num, by omega, by omega, HS', pr.grows g5, gr.right g5⟩
                      case measure => simp [intOf]; omega
                    · have hz' : (nth z.1 (K * C + J) != 0) = true := by simpa using hz
                      have C3 := fun W h => CC.out z HS.out.1 P J hPR hlt W h
                      rw [castIdx] at C3
                      have CDV := fun W => CD.out (nth z.1 (K * C + J)) (nth z.1 (P * C + J)) W
                      have hq := (isNum_iff _).1 (flQ_num (n := nth z.1 (K * C + J)) (d := nth z.1 (P * C + J)))
                      have CO1 := fun W pr => CO.out K P (-(flQ (nth z.1 (K * C + J)) (nth z.1 (P * C + J)))) z W hKR hPR (by rw [isNum_iff]; omega) HS.out.1 pr
                      have HS' := Lib.hid (elim_step hTK HO.out HLS.out hlt hKR HS.out hKP hz)
                      have C2' := Lib.hid C2
                      have C3' := Lib.hid C3
                      clear hKP hz C2 C3
                      generalize flQ (nth z.1 (K * C + J)) (nth z.1 (P * C + J)) = q at *
                      generalize flR (nth z.1 (K * C + J)) (nth z.1 (P * C + J)) = q1 at *
                      generalize flB (nth z.1 (K * C + J)) (nth z.1 (P * C + J)) = q2 at *
                      generalize nth z.1 (K * C + J) = c1 at *
                      generalize nth z.1 (P * C + J) = c2 at *
                      have CDV' := Lib.hid CDV
                      have CO1' := Lib.hid CO1
                      clear CDV CO1
                      go_wp2_with fail
                      refine (C2'.out _ (pr.oa.rd')).mono ?_; rintro e w5 ⟨rfl, g5⟩
                      replace pr := pr.grows g5
                      replace gr := gr.right g5
                      clear a0 a1 a2 u0 u1 u2
                      obtain ⟨a0, a1, a2⟩ := (MA.out w5 gr).ext
                      have hrd := pr.oa.rd'
                      go_wp2_with fail
                      ((refine wp_region_ext (by kernel_rfl) (by kernel_rfl) ?_); (repeat (go_big_quiet_step ((first | (go_at_call 103; with_reducible exact extC (C2'.out _ (Rd.ext hrd _))) | (go_at_call 103; with_reducible exact extC (C3'.out _ (Rd.ext hrd _))) | (go_at_call 142; with_reducible exact extC (CDV'.out _)))))); refine wpQuiet_nil ?_; rintro w6 ⟨w60, hw60⟩; have g6 := grows_of_ext hw60; clear hw60 w60)
                      replace pr := pr.grows g6
                      replace gr := gr.right g6
                      clear a0 a1 a2 hrd
                      obtain ⟨a0, a1, a2⟩ := (MA.out w6 gr).cells
                      obtain ⟨u0, u1, u2⟩ := (MU.out w6 gr).cells
                      go_wp2_with fail
                      refine (CO1'.out _ pr).mono ?_; rintro e w7 ⟨rfl, pr7, g7⟩
                      replace gr := gr.trans g7
                      clear pr g7 a0 a1 a2 u0 u1 u2
                      go_wp2_with fail
                      go_round
                      case rel => exact ⟨K + 1, _, by go_num, by omega, by omega, HS', pr7, gr⟩
                      case measure => simp [intOf]; omega
                · have eK : K = R := by omega
                  have HS2 := Lib.hid (show Stands R C (elimF R C T J P y (R - T)) z by have := HS.out; rw [eK] at this; exact this)
                  have hab := anyBad_two HS2.out
                  have CB1 := fun W h => CB.out z HS.out.1 W h
                  have CB3 := fun W h => CB2.out z HS.out.1 W h
                  cases he : elimF R C T J P y (R - T) with
                  | none =>
                    rw [he] at hab
                    have HD := Lib.hid (hermF_dead hlt HF.out (by rw [colS_some hT HL.out, ← HRED.out, redM_fail HOTH.out he]; rfl))
                    clear he HS2
                    cases hb1 : anyBad z.1 with
                    | true =>
                      rw [hb1] at CB1
                      have CB1' := Lib.hid CB1
                      clear CB1 CB3 hab hb1
                      go_wp2_with fail
                      refine (CB1'.out _ (pr.oa.rd')).mono ?_; rintro e w5 ⟨rfl, rfl⟩
                      go_wp2_with fail
                      go_ret
                      exact ⟨ret_bool (by rw [HD.out]; rfl), ⟨z, pr, fun y hy => by rw [HD.out] at hy; cases hy⟩, GB.out _ gr⟩
                    | false =>
                      rw [hb1] at hab CB1
                      rw [show anyBad z.2 = true from hab] at CB3
                      have CB1' := Lib.hid CB1
                      have CB3' := Lib.hid CB3
                      clear CB1 CB3 hab hb1
                      go_wp2_with fail
                      refine (CB1'.out _ (pr.oa.rd')).mono ?_; rintro e w5 ⟨rfl, rfl⟩
                      go_wp2_with fail
                      refine (CB3'.out _ (pr.ou.rd')).mono ?_; rintro e w5 ⟨rfl, rfl⟩
                      go_wp2_with fail
                      go_ret
                      exact ⟨ret_bool (by rw [HD.out]; rfl), ⟨z, pr, fun y hy => by rw [HD.out] at hy; cases hy⟩, GB.out _ gr⟩
                  | some y' =>
                    rw [he] at hab
                    have hst := HS2.out
                    rw [he] at hst
                    obtain ⟨ez, ok'⟩ := hst.some_eq
                    subst ez
                    obtain ⟨p', hp'⟩ := elim_least HO.out HLS.out hlt he
                    have hmu' := mu_less HO.out HLS.out hlt HOTH.out he hp'
                    have HRED' := Lib.hid ((redM_next HO.out HLS.out hlt HOTH.out he hp').symm.trans HRED.out)
                    have HLS' := Lib.hid (Lst.of hp')
                    have HOK' := Lib.hid ok'
                    have C4 := fun W h => CL.out T J z (Nat.le_of_lt hT) hlt ok' W h
                    rw [hp'] at C4
                    have C4' := Lib.hid C4
                    simp only [Option.isSome_some, Bool.not_true, Bool.or_eq_false_iff] at hab
                    rw [hab.1] at CB1
                    rw [hab.2] at CB3
                    have CB1' := Lib.hid CB1
                    have CB3' := Lib.hid CB3
                    have hmu2 : mu R C T J p' z.1 < gk := Nat.lt_of_lt_of_le hmu' hmu
                    clear CB1 CB3 hab he HS2 hst ok' hp' hmu' C4 HS
                    go_wp2_with fail
                    refine (CB1'.out _ (pr.oa.rd')).mono ?_; rintro e w5 ⟨rfl, rfl⟩
                    go_wp2_with fail
                    refine (CB3'.out _ (pr.ou.rd')).mono ?_; rintro e w5 ⟨rfl, rfl⟩
                    go_wp2_with fail
                    refine (C4'.out _ (pr.oa.rd')).mono ?_; rintro e w6 ⟨rfl, g6⟩
                    go_wp2_with fail
                    go_roundg (mu R C T J p' z.1)
                    case measure => exact hmu2
                    case rel => exact ⟨p', z, rfl, HOK', HLS', HRED', Nat.le_refl _, pr.grows g6, gr.right g6⟩
      · -- all rows are done
        have HX := Lib.hid (HFU.out J hJ T x HF.out hT)
        have hT' : ¬ (T : Int) < (R : Int) := by omega
        go_wp2_with fail
        go_ret
        exact ⟨ret_bool (by rw [HX.out]; rfl), ⟨x, pr, fun y hy => by rw [HX.out] at hy; cases hy; rfl⟩, GB.out _ gr⟩
    · obtain rfl : J = C := by omega
      go_wp2_with fail
      go_ret
      exact ⟨ret_bool (by rw [HF.out]; rfl), ⟨x, pr, fun y hy => by rw [HF.out] at hy; cases hy; rfl⟩, GB.out _ gr⟩
end
end Go.Proofs.Ythajmffhgbenpaa

/- Contracts: the program's operation on the rows of a matrix. -/
namespace Go.Proofs.Ythajmffhgbenpaa
set_option linter.unusedSimpArgs false
set_option linter.unusedVariables false
open Go.RowKit

/-! ### plain -/
theorem addB_parts {x y t : Int} (hx : isNum x = true) (hy : isNum y = true) (ht : isNum t = true) : (isNum (y * t) = true → isNum (x + y * t) = true → addB x (mulB y t) = x + y * t) ∧ ((isNum (y * t) = false ∨ isNum (x + y * t) = false) → isNum (addB x (mulB y t)) = false) := by
  have e1 := mulB_num hy ht
  constructor
  · intro h1 h2
    rw [e1, fit_yes h1, addB_num hx h1, fit_yes h2]
  · intro h
    rw [e1]
    by_cases h1 : isNum (y * t) = true
    · rw [fit_yes h1, addB_num hx h1]
      rcases h with h | h
      · rw [h] at h1; cases h1
      · rw [fit_no h]; exact bad_not
    · rw [fit_no (by simpa using h1), addB_bad_right]; exact bad_not
/-- the first J columns of row i fit -/
def ColN (C i j : Nat) (t : Int) (l : List Int) (J : Nat) : Prop := ∀ b, b < J → isNum (addFn C i j t l i b) = true
theorem ColN.step {C i j J : Nat} {t : Int} {l : List Int} (h : ColN C i j t l J) (h2 : isNum (addFn C i j t l i J) = true) : ColN C i j t l (J + 1) := fun b hb => by
  by_cases e : b = J
  · rw [e]; exact h2
  · exact h b (by omega)
theorem ColN.all {R C i j : Nat} {t : Int} {l : List Int} (hl : l.length = R * C) (hn : allNum l = true) (h : ColN C i j t l C) : allNum (addT R C i j t l) = true := by
  rw [allNum_iff] at *
  intro k hk
  rw [addT_length] at hk
  obtain ⟨h1, h2, h3⟩ := idx_split hk
  rw [h3]
  show isNum (nth (tab R C (addFn C i j t l)) _) = true
  rw [tab_nth _ h1 h2]
  by_cases e : k / C = i
  · rw [e]; exact h _ h2
  · rw [addFn_other e]; exact hn _ (by rw [hl]; exact idx_lt h1 h2)
theorem addT_no {R C i j J : Nat} {t : Int} {l : List Int} (hi : i < R) (hJ : J < C) (h : isNum (addFn C i j t l i J) = false) : allNum (addT R C i j t l) = false :=
  allNum_no (i := i * C + J) (by rw [addT_length]; exact idx_lt hi hJ) (by
    show isNum (nth (tab R C (addFn C i j t l)) _) = false
    rw [tab_nth _ hi hJ]; exact h)
/-- whether all numbers fit, and the row behind: as said, if they do -/
def OpRes (w : World) (B : Nat) (v : Value) (ok : Bool) (l1 : List Int) (e : Ending) (w' : World) : Prop := ∃ m, e = .returned (.bool ok) ∧ Own w' B v m ∧ (ok = true → m = l1) ∧ w.grownBy w' v.ownBlock

section
set_option maxHeartbeats 2000000
set_option maxRecDepth 100000
theorem iAddOp_c (R C : Nat) (A : Option Addr) (l : List Int) (n cap i j B : Nat) (t : Int) (w : World) (hl : n = R * C) (hR : R ≤ 24) (hC : C ≤ 24) (ho : Own w B (.slice A n cap) l) (hnum : allNum l = true) (hi : i < R) (hj : j < R) (ht : isNum t = true) :
    Calls Try.prog 120 #[.agg #[.int .i64 R, .int .i64 C, .slice A n cap], .agg #[.int .i64 2, .int .i64 i, .int .i64 j, .int .i64 t]] w (OpRes w B (.slice A n cap) (allNum (addT R C i j t l)) (addT R C i j t l)) := by
  obtain ⟨hn, hcap, hcap2⟩ := ho.caps
  obtain ⟨w1, hw1, mb, ob, hs1, g01⟩ := mat_op w R C (.slice A n cap) 2 i j t
  have HW1 := Lib.hid hw1
  have ho1 := ho.grows g01
  have hne : ∀ g, (Value.slice A n cap).ownBlock = some g → g < w.heap.size := fun g h => (World.ownsRow.lt ho g h).2
  have HNE := Lib.hid hne
  have HL := Lib.hid hl
  have HT := Lib.hid ht
  have htb := (isNum_iff t).1 ht
  have hRC : R * C ≤ 576 := Nat.mul_le_mul hR hC
  have hiC : (i + 1) * C ≤ n := by rw [hl]; exact Nat.mul_le_mul_right C hi
  have hjC : (j + 1) * C ≤ n := by rw [hl]; exact Nat.mul_le_mul_right C hj
  have CR := Lib.hid fun W => row_c R C A l n cap i i W rfl hn hcap hcap2 hiC (by omega) (by omega)
  have CQ := Lib.hid fun W => row_c R C A l n cap j j W rfl hn hcap hcap2 hjC (by omega) (by omega)
  have CN := Lib.hid fun x W => iIsNumber_c x W
  have HALL := Lib.hid fun h => ColN.all (i := i) (j := j) (t := t) (hn.trans hl) hnum h
  have HNO := Lib.hid fun J hJ h => addT_no (R := R) (C := C) (i := i) (j := j) (J := J) (t := t) (l := l) hi hJ h
  have HNU := Lib.hid fun k hk => (allNum_iff _).1 hnum k (by rw [hn, hl]; exact hk)
  have e1 := Lib.hid (ColD.zero (f := addFn C i j t l) (hn.trans hl))
  have HCAP := Lib.hid (show i * C + C ≤ cap ∧ j * C + C ≤ cap from ⟨by rw [Nat.add_mul, Nat.one_mul] at hiC; omega, by rw [Nat.add_mul, Nat.one_mul] at hjC; omega⟩)
  have HN := Lib.hid hn
  clear hw1 hs1 hl hn ht hne ho hnum hiC hjC
  rcases Nat.eq_zero_or_pos C with hC0 | hC0
  · have HR := Lib.hid (HALL.out (fun b hb => by omega))
    have HC0 := Lib.hid hC0
    have hC1 : ¬ ((0 : Int) < (C : Int)) := by omega
    clear hC0
    rw [HR.out]
    generalize rowA cap C A i = S1 at *
    generalize rowA cap C A j = S2 at *
    go_enter Try.func120, Try.ntmps120
    go_wp2_with fail
    rw [← HW1.out]
    refine (CR.out _).mono ?_; rintro e w2 ⟨rfl, g2⟩
    obtain ⟨b0, b1, b2⟩ := (mb.grows g2).cells
    obtain ⟨x0, x1, x2, x3⟩ := (ob.grows g2).cells
    go_wp2_with fail
    refine (CQ.out _).mono ?_; rintro e w3 ⟨rfl, g3⟩
    clear b0 b1 b2 x0 x1 x2 x3
    obtain ⟨b0, b1, b2⟩ := (mb.grows (w' := w3) (by exact bel2 g3 g2)).cells
    obtain ⟨x0, x1, x2, x3⟩ := (ob.grows (w' := w3) (by exact bel2 g3 g2)).cells
    have ho3 := ho1.grows (w' := w3) (by exact bel2 g3 g2)
    have g13 : Grows w w3 := by exact bel3 g3 g2 g01
    go_wp2_with fail
    go_loopw [19] (fun k wr => k = .int .i64 0 ∧ wr = w3) (fun _ _ => 0)
    case atStart => exact ⟨rfl, rfl⟩
    case round =>
      obtain ⟨rfl, rfl⟩ := hrel
      go_wp2_with fail
      go_ret
      refine ⟨l, rfl, ho3, fun _ => ?_, ⟨g13.os, g13.tape, g13.output, g13.size, fun k hk _ => g13.block k hk⟩⟩
      refine (List.eq_nil_of_length_eq_zero ?_).trans (List.eq_nil_of_length_eq_zero ?_).symm
      · rw [HN.out, HL.out, HC0.out, Nat.mul_zero]
      · rw [addT_length, HC0.out, Nat.mul_zero]
  · have hpos : 0 < n := by rw [HL.out]; exact Nat.mul_pos (by omega) hC0
    obtain ⟨g, cap', e, hgB, hgw⟩ := ho1.form (by rw [HN.out]; exact hpos)
    simp only [Value.slice.injEq] at e
    obtain ⟨rfl, hnm, rfl⟩ := e
    clear hnm hpos
    have hg2 : g < w.heap.size := HNE.out g (by simp [Value.ownBlock])
    have cr := CR.out
    have cq := CQ.out
    rw [rowA_at HCAP.out.1 hC0] at cr
    rw [rowA_at HCAP.out.2 hC0] at cq
    have CR' := Lib.hid cr
    have CQ' := Lib.hid cq
    clear CR CQ cr cq
    go_enter Try.func120, Try.ntmps120
    go_wp2_with fail
    rw [← HW1.out]
    refine (CR'.out _).mono ?_; rintro e w2 ⟨rfl, g2⟩
    obtain ⟨b0, b1, b2⟩ := (mb.grows g2).cells
    obtain ⟨x0, x1, x2, x3⟩ := (ob.grows g2).cells
    go_wp2_with fail
    refine (CQ'.out _).mono ?_; rintro e w3 ⟨rfl, g3⟩
    clear b0 b1 b2 x0 x1 x2 x3
    have ob3 := ob.grows (w' := w3) (by exact bel2 g3 g2)
    have ho3 := ho1.grows (w' := w3) (by exact bel2 g3 g2)
    have g13 : Grows w w3 := by exact bel3 g3 g2 g01
    go_wp2_with fail
    go_loopw [19] (fun k wr => ∃ (J : Nat) (m : List Int), k = .int .i64 J ∧ J ≤ C ∧ ColN C i j t l J ∧ ColD R C (addFn C i j t l) l J m ∧ Own wr B (.slice (some ⟨g, 0, none⟩) n cap) m ∧ w3.grownBy wr (Value.slice (some ⟨g, 0, none⟩) n cap).ownBlock) (fun k _ => C - (intOf k).toNat)
    case atStart => exact ⟨0, l, rfl, Nat.zero_le _, fun b hb => absurd hb (Nat.not_lt_zero _), e1.out, ho3, World.grownBy.refl _ _⟩
    case round =>
      clear ho3 g2 g3
      obtain ⟨J, m, rfl, hJ, hcn, hd, ho, hg⟩ := hrel
      have HCN := Lib.hid hcn
      have HD := Lib.hid hd
      clear hcn hd
      have ob4 := ob3.own hg (fun g' h => by have := HNE.out g' h; omega)
      obtain ⟨x0, x1, x2, x3⟩ := ob4.cells
      by_cases hlt : J < C
      · have l1 := idx_lt hi hlt
        have l2 := idx_lt hj hlt
        have hml := HD.out.1
        have HML := Lib.hid (hml.trans HL.out.symm)
        have c1 := ho.cell (i * C + J) (by rw [hml]; exact l1)
        have c2 := ho.cell (j * C + J) (by rw [hml]; exact l2)
        have cf := ho.free (i * C + J)
        rw [HD.out.cell hi hlt] at c1
        rw [HD.out.cell hj hlt] at c2
        have n1 := HNU.out _ l1
        have n2 := HNU.out _ l2
        have hp := addB_parts n1 n2 HT.out
        have hb := mul_bd n2 HT.out
        have hb1 := (isNum_iff _).1 n1
        have hset := HD.out.set1 hi hlt (fun a ha hne => addFn_other hne)
        have hstep := HCN.out.step (J := J)
        have hbadT := HNO.out J hlt
        rw [addFn_same] at hset hstep hbadT
        have q1 : (J : Int) < (C : Int) := by omega
        generalize addB (nth l (i * C + J)) (mulB (nth l (j * C + J)) t) = z at *
        generalize hy : nth l (j * C + J) * t = y at *
        have HY := Lib.hid hy
        clear hy
        generalize nth l (i * C + J) = z0 at *
        generalize nth l (j * C + J) = y0 at *
        have CN1 := fun W => CN.out y W
        have CN2 := fun W => CN.out (z0 + y) W
        have hyt : y0 * t = y := HY.out
        clear n1 n2 hml l1 l2
        cases h1 : isNum y with
        | false =>
          have HRES := Lib.hid (hbadT (hp.2 (.inl h1)))
          rw [h1] at CN1
          have CN1' := Lib.hid CN1
          clear hp hset hstep hbadT h1 CN1 CN2
          go_wp2_with fail
          go_quiet (fail)
          go_wp2_with fail
          refine (CN1'.out _).mono ?_; rintro e w' ⟨rfl, rfl⟩
          go_wp2_with fail
          go_ret
          exact ⟨_, ret_bool (by rw [HRES.out]), (ho.put HML.out _ _), (fun h => by rw [HRES.out] at h; cases h), grown_left (only_setCell (p := ⟨g, i * C + J, none⟩) (grown_right hg (by exact bel0)) rfl _) g13⟩
        | true =>
          cases h2 : isNum (z0 + y) with
          | false =>
            have HRES := Lib.hid (hbadT (hp.2 (.inr h2)))
            rw [h1] at CN1
            rw [h2] at CN2
            have CN1' := Lib.hid CN1
            have CN2' := Lib.hid CN2
            clear hp hset hstep hbadT h1 h2 CN1 CN2
            go_wp2_with fail
            go_quiet (fail)
            go_wp2_with fail
            refine (CN1'.out _).mono ?_; rintro e w' ⟨rfl, rfl⟩
            go_wp2_with fail
            refine (CN2'.out _).mono ?_; rintro e w' ⟨rfl, rfl⟩
            go_wp2_with fail
            go_ret
            exact ⟨_, ret_bool (by rw [HRES.out]), (ho.put HML.out _ _), (fun h => by rw [HRES.out] at h; cases h), grown_left (only_setCell (p := ⟨g, i * C + J, none⟩) (grown_right hg (by exact bel0)) rfl _) g13⟩
          | true =>
            have hz := hp.1 h1 h2
            rw [hz] at hset hstep
            have HSET := Lib.hid hset
            have HSTEP := Lib.hid (hstep h2)
            rw [h1] at CN1
            rw [h2] at CN2
            have CN1' := Lib.hid CN1
            have CN2' := Lib.hid CN2
            clear hp hset hstep hbadT h1 h2 CN1 CN2 hz
            go_wp2_with fail
            go_quiet (fail)
            go_wp2_with fail
            refine (CN1'.out _).mono ?_; rintro e w' ⟨rfl, rfl⟩
            go_wp2_with fail
            refine (CN2'.out _).mono ?_; rintro e w' ⟨rfl, rfl⟩
            go_wp2_with fail
            go_round
            case rel => exact ⟨J + 1, _, by go_num, by omega, HSTEP.out, HSET.out, (ho.put HML.out _ _), only_setCell (p := ⟨g, i * C + J, none⟩) (grown_right hg (by exact bel0)) rfl _⟩
            case measure => simp [intOf]; omega
      · obtain rfl : J = C := by omega
        have HRES := Lib.hid (HALL.out HCN.out)
        go_wp2_with fail
        go_ret
        exact ⟨m, ret_bool (by rw [HRES.out]), ho, fun _ => HD.out.all, grown_left hg g13⟩
theorem iSwpOp_c (R C : Nat) (A : Option Addr) (l : List Int) (n cap i j B : Nat) (w : World) (hl : n = R * C) (hR : R ≤ 24) (hC : C ≤ 24) (ho : Own w B (.slice A n cap) l) (hnum : allNum l = true) (hi : i < R) (hj : j < R) (hij : i ≠ j) :
    Calls Try.prog 120 #[.agg #[.int .i64 R, .int .i64 C, .slice A n cap], .agg #[.int .i64 0, .int .i64 i, .int .i64 j, .int .i64 0]] w (OpRes w B (.slice A n cap) true (swpT R C i j l)) := by
  obtain ⟨hn, hcap, hcap2⟩ := ho.caps
  obtain ⟨w1, hw1, mb, ob, hs1, g01⟩ := mat_op w R C (.slice A n cap) 0 i j 0
  have HW1 := Lib.hid hw1
  have ho1 := ho.grows g01
  have hne : ∀ g, (Value.slice A n cap).ownBlock = some g → g < w.heap.size := fun g h => (World.ownsRow.lt ho g h).2
  have HNE := Lib.hid hne
  have HL := Lib.hid hl
  have hRC : R * C ≤ 576 := Nat.mul_le_mul hR hC
  have hiC : (i + 1) * C ≤ n := by rw [hl]; exact Nat.mul_le_mul_right C hi
  have hjC : (j + 1) * C ≤ n := by rw [hl]; exact Nat.mul_le_mul_right C hj
  have CR := Lib.hid fun W => row_c R C A l n cap i i W rfl hn hcap hcap2 hiC (by omega) (by omega)
  have CQ := Lib.hid fun W => row_c R C A l n cap j j W rfl hn hcap hcap2 hjC (by omega) (by omega)
  have HNU := Lib.hid fun k hk => (allNum_iff _).1 hnum k (by rw [hn, hl]; exact hk)
  have e1 := Lib.hid (ColD.zero (f := swpFn C i j l) (hn.trans hl))
  have HCAP := Lib.hid (show i * C + C ≤ cap ∧ j * C + C ≤ cap from ⟨by rw [Nat.add_mul, Nat.one_mul] at hiC; omega, by rw [Nat.add_mul, Nat.one_mul] at hjC; omega⟩)
  have HN := Lib.hid hn
  clear hw1 hs1 hl hn hne ho hnum hiC hjC
  rcases Nat.eq_zero_or_pos C with hC0 | hC0
  · have HC0 := Lib.hid hC0
    have hC1 : ¬ ((0 : Int) < (C : Int)) := by omega
    clear hC0
    generalize rowA cap C A i = S1 at *
    generalize rowA cap C A j = S2 at *
    go_enter Try.func120, Try.ntmps120
    go_wp2_with fail
    rw [← HW1.out]
    refine (CR.out _).mono ?_; rintro e w2 ⟨rfl, g2⟩
    obtain ⟨b0, b1, b2⟩ := (mb.grows g2).cells
    obtain ⟨x0, x1, x2, x3⟩ := (ob.grows g2).cells
    go_wp2_with fail
    refine (CQ.out _).mono ?_; rintro e w3 ⟨rfl, g3⟩
    clear b0 b1 b2 x0 x1 x2 x3
    obtain ⟨b0, b1, b2⟩ := (mb.grows (w' := w3) (by exact bel2 g3 g2)).cells
    obtain ⟨x0, x1, x2, x3⟩ := (ob.grows (w' := w3) (by exact bel2 g3 g2)).cells
    have ho3 := ho1.grows (w' := w3) (by exact bel2 g3 g2)
    have g13 : Grows w w3 := by exact bel3 g3 g2 g01
    go_wp2_with fail
    go_loopw [19] (fun k wr => k = .int .i64 0 ∧ wr = w3) (fun _ _ => 0)
    case atStart => exact ⟨rfl, rfl⟩
    case round =>
      obtain ⟨rfl, rfl⟩ := hrel
      go_wp2_with fail
      go_ret
      refine ⟨l, rfl, ho3, fun _ => ?_, ⟨g13.os, g13.tape, g13.output, g13.size, fun k hk _ => g13.block k hk⟩⟩
      refine (List.eq_nil_of_length_eq_zero ?_).trans (List.eq_nil_of_length_eq_zero ?_).symm
      · rw [HN.out, HL.out, HC0.out, Nat.mul_zero]
      · rw [swpT_length, HC0.out, Nat.mul_zero]
  · have hpos : 0 < n := by rw [HL.out]; exact Nat.mul_pos (by omega) hC0
    obtain ⟨g, cap', e, hgB, hgw⟩ := ho1.form (by rw [HN.out]; exact hpos)
    simp only [Value.slice.injEq] at e
    obtain ⟨rfl, hnm, rfl⟩ := e
    clear hnm hpos
    have hg2 : g < w.heap.size := HNE.out g (by simp [Value.ownBlock])
    have cr := CR.out
    have cq := CQ.out
    rw [rowA_at HCAP.out.1 hC0] at cr
    rw [rowA_at HCAP.out.2 hC0] at cq
    have CR' := Lib.hid cr
    have CQ' := Lib.hid cq
    clear CR CQ cr cq
    go_enter Try.func120, Try.ntmps120
    go_wp2_with fail
    rw [← HW1.out]
    refine (CR'.out _).mono ?_; rintro e w2 ⟨rfl, g2⟩
    obtain ⟨b0, b1, b2⟩ := (mb.grows g2).cells
    obtain ⟨x0, x1, x2, x3⟩ := (ob.grows g2).cells
    go_wp2_with fail
    refine (CQ'.out _).mono ?_; rintro e w3 ⟨rfl, g3⟩
    clear b0 b1 b2 x0 x1 x2 x3
    have ob3 := ob.grows (w' := w3) (by exact bel2 g3 g2)
    have ho3 := ho1.grows (w' := w3) (by exact bel2 g3 g2)
    have g13 : Grows w w3 := by exact bel3 g3 g2 g01
    go_wp2_with fail
    go_loopw [19] (fun k wr => ∃ (J : Nat) (m : List Int), k = .int .i64 J ∧ J ≤ C ∧ ColD R C (swpFn C i j l) l J m ∧ Own wr B (.slice (some ⟨g, 0, none⟩) n cap) m ∧ w3.grownBy wr (Value.slice (some ⟨g, 0, none⟩) n cap).ownBlock) (fun k _ => C - (intOf k).toNat)
    case atStart => exact ⟨0, l, rfl, Nat.zero_le _, e1.out, ho3, World.grownBy.refl _ _⟩
    case round =>
      clear ho3 g2 g3
      obtain ⟨J, m, rfl, hJ, hd, ho, hg⟩ := hrel
      have HD := Lib.hid hd
      clear hd
      have ob4 := ob3.own hg (fun g' h => by have := HNE.out g' h; omega)
      obtain ⟨x0, x1, x2, x3⟩ := ob4.cells
      by_cases hlt : J < C
      · have l1 := idx_lt hi hlt
        have l2 := idx_lt hj hlt
        have hml := HD.out.1
        have HML := Lib.hid (hml.trans HL.out.symm)
        have c1 := ho.cell (i * C + J) (by rw [hml]; exact l1)
        have c2 := ho.cell (j * C + J) (by rw [hml]; exact l2)
        have cf := ho.free (i * C + J)
        rw [HD.out.cell hi hlt] at c1
        rw [HD.out.cell hj hlt] at c2
        have cf2 := ho.free (j * C + J)
        have hset := HD.out.set2 hi hj hlt (fun a ha h1 h2 => swpFn_other h1 h2)
        rw [swpFn_i, swpFn_j] at hset
        have q1 : (J : Int) < (C : Int) := by omega
        have HSET := Lib.hid hset
        have ho1' : ¬ (i * C + J = j * C + J) := fun e => hij (idx_inj hlt hlt e).1
        have ho2' : ¬ (j * C + J = i * C + J) := fun e => ho1' e.symm
        clear hset hml l1 l2
        generalize nth l (i * C + J) = z0 at *
        generalize nth l (j * C + J) = y0 at *
        go_wp2_with fail
        obtain ⟨wo, rfl⟩ : ∃ wo : World, wo = wr := ⟨_, rfl⟩
        go_region
        all_goals
          go_wp2_with fail
          go_round
          case rel => exact ⟨J + 1, _, by go_num, by omega, HSET.out, ((ho.put HML.out _ _).put (by rw [List.length_set]; exact HML.out) _ _).drew, grown_right (only_setCell (p := ⟨g, j * C + J, none⟩) (only_setCell (p := ⟨g, i * C + J, none⟩) hg rfl _) rfl _) (by exact bel0)⟩
          case measure => simp [intOf]; omega
      · obtain rfl : J = C := by omega
        go_wp2_with fail
        go_ret
        exact ⟨m, rfl, ho, fun _ => HD.out.all, grown_left hg g13⟩
theorem iNegOp_c (R C : Nat) (A : Option Addr) (l : List Int) (n cap i B : Nat) (w : World) (hl : n = R * C) (hR : R ≤ 24) (hC : C ≤ 24) (ho : Own w B (.slice A n cap) l) (hnum : allNum l = true) (hi : i < R) :
    Calls Try.prog 120 #[.agg #[.int .i64 R, .int .i64 C, .slice A n cap], .agg #[.int .i64 1, .int .i64 i, .int .i64 i, .int .i64 0]] w (OpRes w B (.slice A n cap) true (negT R C i l)) := by
  obtain ⟨hn, hcap, hcap2⟩ := ho.caps
  obtain ⟨w1, hw1, mb, ob, hs1, g01⟩ := mat_op w R C (.slice A n cap) 1 i i 0
  have HW1 := Lib.hid hw1
  have ho1 := ho.grows g01
  have hne : ∀ g, (Value.slice A n cap).ownBlock = some g → g < w.heap.size := fun g h => (World.ownsRow.lt ho g h).2
  have HNE := Lib.hid hne
  have HL := Lib.hid hl
  have hRC : R * C ≤ 576 := Nat.mul_le_mul hR hC
  have hiC : (i + 1) * C ≤ n := by rw [hl]; exact Nat.mul_le_mul_right C hi
  have CR := Lib.hid fun W => row_c R C A l n cap i i W rfl hn hcap hcap2 hiC (by omega) (by omega)
  have HNU := Lib.hid fun k hk => (allNum_iff _).1 hnum k (by rw [hn, hl]; exact hk)
  have e1 := Lib.hid (ColD.zero (f := negFn C i l) (hn.trans hl))
  have HCAP := Lib.hid (show i * C + C ≤ cap by rw [Nat.add_mul, Nat.one_mul] at hiC; omega)
  have HN := Lib.hid hn
  clear hw1 hs1 hl hn hne ho hnum hiC
  rcases Nat.eq_zero_or_pos C with hC0 | hC0
  · have HC0 := Lib.hid hC0
    have hC1 : ¬ ((0 : Int) < (C : Int)) := by omega
    clear hC0
    generalize rowA cap C A i = S1 at *
    go_enter Try.func120, Try.ntmps120
    go_wp2_with fail
    rw [← HW1.out]
    refine (CR.out _).mono ?_; rintro e w2 ⟨rfl, g2⟩
    obtain ⟨b0, b1, b2⟩ := (mb.grows g2).cells
    obtain ⟨x0, x1, x2, x3⟩ := (ob.grows g2).cells
    go_wp2_with fail
    refine (CR.out _).mono ?_; rintro e w3 ⟨rfl, g3⟩
    clear b0 b1 b2 x0 x1 x2 x3
    obtain ⟨b0, b1, b2⟩ := (mb.grows (w' := w3) (by exact bel2 g3 g2)).cells
    obtain ⟨x0, x1, x2, x3⟩ := (ob.grows (w' := w3) (by exact bel2 g3 g2)).cells
    have ho3 := ho1.grows (w' := w3) (by exact bel2 g3 g2)
    have g13 : Grows w w3 := by exact bel3 g3 g2 g01
    go_wp2_with fail
    go_loopw [19] (fun k wr => k = .int .i64 0 ∧ wr = w3) (fun _ _ => 0)
    case atStart => exact ⟨rfl, rfl⟩
    case round =>
      obtain ⟨rfl, rfl⟩ := hrel
      go_wp2_with fail
      go_ret
      refine ⟨l, rfl, ho3, fun _ => ?_, ⟨g13.os, g13.tape, g13.output, g13.size, fun k hk _ => g13.block k hk⟩⟩
      refine (List.eq_nil_of_length_eq_zero ?_).trans (List.eq_nil_of_length_eq_zero ?_).symm
      · rw [HN.out, HL.out, HC0.out, Nat.mul_zero]
      · rw [negT_length, HC0.out, Nat.mul_zero]
  · have hpos : 0 < n := by rw [HL.out]; exact Nat.mul_pos (by omega) hC0
    obtain ⟨g, cap', e, hgB, hgw⟩ := ho1.form (by rw [HN.out]; exact hpos)
    simp only [Value.slice.injEq] at e
    obtain ⟨rfl, hnm, rfl⟩ := e
    clear hnm hpos
    have hg2 : g < w.heap.size := HNE.out g (by simp [Value.ownBlock])
    have cr := CR.out
    rw [rowA_at HCAP.out hC0] at cr
    have CR' := Lib.hid cr
    clear CR cr
    go_enter Try.func120, Try.ntmps120
    go_wp2_with fail
    rw [← HW1.out]
    refine (CR'.out _).mono ?_; rintro e w2 ⟨rfl, g2⟩
    obtain ⟨b0, b1, b2⟩ := (mb.grows g2).cells
    obtain ⟨x0, x1, x2, x3⟩ := (ob.grows g2).cells
    go_wp2_with fail
    refine (CR'.out _).mono ?_; rintro e w3 ⟨rfl, g3⟩
    clear b0 b1 b2 x0 x1 x2 x3
    have ob3 := ob.grows (w' := w3) (by exact bel2 g3 g2)
    have ho3 := ho1.grows (w' := w3) (by exact bel2 g3 g2)
    have g13 : Grows w w3 := by exact bel3 g3 g2 g01
    go_wp2_with fail
    go_loopw [19] (fun k wr => ∃ (J : Nat) (m : List Int), k = .int .i64 J ∧ J ≤ C ∧ ColD R C (negFn C i l) l J m ∧ Own wr B (.slice (some ⟨g, 0, none⟩) n cap) m ∧ w3.grownBy wr (Value.slice (some ⟨g, 0, none⟩) n cap).ownBlock) (fun k _ => C - (intOf k).toNat)
    case atStart => exact ⟨0, l, rfl, Nat.zero_le _, e1.out, ho3, World.grownBy.refl _ _⟩
    case round =>
      clear ho3 g2 g3
      obtain ⟨J, m, rfl, hJ, hd, ho, hg⟩ := hrel
      have HD := Lib.hid hd
      clear hd
      have ob4 := ob3.own hg (fun g' h => by have := HNE.out g' h; omega)
      obtain ⟨x0, x1, x2, x3⟩ := ob4.cells
      by_cases hlt : J < C
      · have l1 := idx_lt hi hlt
        have hml := HD.out.1
        have HML := Lib.hid (hml.trans HL.out.symm)
        have c1 := ho.cell (i * C + J) (by rw [hml]; exact l1)
        have cf := ho.free (i * C + J)
        rw [HD.out.cell hi hlt] at c1
        have n1 := HNU.out _ l1
        have hset := HD.out.set1 hi hlt (fun a ha hne => negFn_other hne)
        rw [negFn_same, mulB_neg n1] at hset
        have hb1 := (isNum_iff _).1 n1
        have q1 : (J : Int) < (C : Int) := by omega
        have HSET := Lib.hid hset
        clear hset hml l1 n1
        generalize nth l (i * C + J) = z0 at *
        go_wp2_with fail
        go_round
        case rel => exact ⟨J + 1, _, by go_num, by omega, HSET.out, (ho.put HML.out _ _), only_setCell (p := ⟨g, i * C + J, none⟩) hg rfl _⟩
        case measure => simp [intOf]; omega
      · obtain rfl : J = C := by omega
        go_wp2_with fail
        go_ret
        exact ⟨m, rfl, ho, fun _ => HD.out.all, grown_left hg g13⟩
end
end Go.Proofs.Ythajmffhgbenpaa
