/- Contracts and lemmas, put together. -/
import Derived.Test.YtpgoefdeodoacaaPkF
/- The Smith form as an algorithm on lists. -/
namespace Go.Proofs.Ytpgoefdeodoacaa
set_option linter.unusedSimpArgs false
set_option linter.unusedVariables false

/-! ### operations on columns -/
def addCT (R C i j : Nat) (t : Int) (l : List Int) : List Int := tab R C fun a b => if b = i then addB (nth l (a * C + i)) (mulB (nth l (a * C + j)) t) else nth l (a * C + b)
def swpCT (R C i j : Nat) (l : List Int) : List Int := tab R C fun a b => if b = i then nth l (a * C + j) else if b = j then nth l (a * C + i) else nth l (a * C + b)
theorem addCT_length (R C i j : Nat) (t : Int) (l : List Int) : (addCT R C i j t l).length = R * C := tab_length _ _ _
theorem swpCT_length (R C i j : Nat) (l : List Int) : (swpCT R C i j l).length = R * C := tab_length _ _ _
theorem addCT_mkd {R C i j : Nat} {t : Int} {l : List Int} (hl : l.length = R * C) (h : mkd l) : mkd (addCT R C i j t l) := mkd_tab fun a b ha hb => by
  split
  · exact addB_or' _ _
  · exact mkd_nth hl h ha hb
theorem swpCT_mkd {R C i j : Nat} {l : List Int} (hl : l.length = R * C) (h : mkd l) (hi : i < C) (hj : j < C) : mkd (swpCT R C i j l) := mkd_tab fun a b ha hb => by
  split
  · exact mkd_nth hl h ha hj
  · split
    · exact mkd_nth hl h ha hi
    · exact mkd_nth hl h ha hb
theorem addCT_other {R C i j a b : Nat} {t : Int} {l : List Int} (ha : a < R) (hb : b < C) (h : b ≠ i) : nth (addCT R C i j t l) (a * C + b) = nth l (a * C + b) := by
  unfold addCT; rw [tab_nth _ ha hb, if_neg h]
theorem addCT_same {R C i j a : Nat} {t : Int} {l : List Int} (hi : i < C) (ha : a < R) (h : allNum (addCT R C i j t l) = true) : nth (addCT R C i j t l) (a * C + i) = nth l (a * C + i) + nth l (a * C + j) * t := by
  have := (allNum_iff _).1 h (a * C + i) (by rw [addCT_length]; exact idx_lt ha hi)
  unfold addCT at *
  rw [tab_nth _ ha hi, if_pos rfl] at *
  exact isNum_addB this
theorem addCT_stay {R C i j : Nat} {t : Int} {l : List Int} (hl : l.length = R * C) (hm : mkd l) (h : allNum l = false) : allNum (addCT R C i j t l) = false := by
  obtain ⟨a, b, ha, hb, e⟩ := not_num hl h hm
  refine has_bad (i := a * C + b) (by rw [addCT_length]; exact idx_lt ha hb) ?_
  by_cases he : b = i
  · subst he
    unfold addCT; rw [tab_nth _ ha hb, if_pos rfl, e, addB_bad_left]
  · rw [addCT_other ha hb he]; exact e
theorem swpCT_cell {R C i j a b : Nat} {l : List Int} (ha : a < R) (hb : b < C) : nth (swpCT R C i j l) (a * C + b) = if b = i then nth l (a * C + j) else if b = j then nth l (a * C + i) else nth l (a * C + b) := by
  unfold swpCT; rw [tab_nth _ ha hb]
theorem swpCT_stay {R C i j : Nat} {l : List Int} (hl : l.length = R * C) (hm : mkd l) (hi : i < C) (hj : j < C) (h : allNum l = false) : allNum (swpCT R C i j l) = false := by
  obtain ⟨a, b, ha, hb, e⟩ := not_num hl h hm
  by_cases h1 : b = i
  · refine has_bad (i := a * C + j) (by rw [swpCT_length]; exact idx_lt ha hj) ?_
    rw [swpCT_cell ha hj]
    split
    · rename_i h2; rw [h2, ← h1, e]
    · rw [if_pos rfl, ← h1, e]
  · by_cases h2 : b = j
    · refine has_bad (i := a * C + i) (by rw [swpCT_length]; exact idx_lt ha hi) ?_
      rw [swpCT_cell ha hi, if_pos rfl, ← h2, e]
    · refine has_bad (i := a * C + b) (by rw [swpCT_length]; exact idx_lt ha hb) ?_
      rw [swpCT_cell ha hb, if_neg h1, if_neg h2, e]
theorem swpCT_num {R C i j : Nat} {l : List Int} (hl : l.length = R * C) (hi : i < C) (hj : j < C) (h : allNum l = true) : allNum (swpCT R C i j l) = true := by
  rw [allNum_iff] at *
  intro k hk
  rw [swpCT_length] at hk
  obtain ⟨h1, h2, h3⟩ := idx_split hk
  rw [h3, swpCT_cell h1 h2]
  split
  · exact h _ (by rw [hl]; exact idx_lt h1 hj)
  · split
    · exact h _ (by rw [hl]; exact idx_lt h1 hi)
    · exact h _ (by rw [hl]; exact idx_lt h1 h2)

/-! ### triples: a matrix, and those of the operations to rows and to columns -/
abbrev L3 := List Int × List Int × List Int
def thr (a u v : List Int) : Option L3 := if allNum a && (allNum u && allNum v) then some (a, u, v) else none
theorem thr_some {a u v : List Int} {s : L3} (h : thr a u v = some s) : s = (a, u, v) ∧ allNum a = true ∧ allNum u = true ∧ allNum v = true := by
  unfold thr at h
  split at h
  · rename_i hh; rw [Bool.and_eq_true, Bool.and_eq_true] at hh; cases h; exact ⟨rfl, hh.1, hh.2.1, hh.2.2⟩
  · cases h
theorem thr_none {a u v : List Int} (h : thr a u v = none) : allNum a = false ∨ allNum u = false ∨ allNum v = false := by
  unfold thr at h
  cases h1 : allNum a
  · exact .inl rfl
  · cases h2 : allNum u
    · exact .inr (.inl rfl)
    · cases h3 : allNum v
      · exact .inr (.inr rfl)
      · rw [h1, h2, h3] at h; cases h
theorem none_thr {a u v : List Int} (h : allNum a = false ∨ allNum u = false ∨ allNum v = false) : thr a u v = none := by
  unfold thr
  rcases h with h | h | h <;> simp [h]
structure Ok3 (R C : Nat) (s : L3) : Prop where
  l1 : s.1.length = R * C
  l2 : s.2.1.length = R * R
  l3 : s.2.2.length = C * C
  n1 : allNum s.1 = true
  n2 : allNum s.2.1 = true
  n3 : allNum s.2.2 = true
def addR3 (R C i j : Nat) (t : Int) (s : L3) : L3 := (addT R C i j t s.1, addT R R i j t s.2.1, s.2.2)
def addC3 (R C i j : Nat) (t : Int) (s : L3) : L3 := (addCT R C i j t s.1, s.2.1, addCT C C i j t s.2.2)
def swpR3 (R C i j : Nat) (s : L3) : L3 := (swpT R C i j s.1, swpT R R i j s.2.1, s.2.2)
def swpC3 (R C i j : Nat) (s : L3) : L3 := (swpCT R C i j s.1, s.2.1, swpCT C C i j s.2.2)
def negR3 (R C i : Nat) (s : L3) : L3 := (negT R C i s.1, negT R R i s.2.1, s.2.2)
/-- the triple if all its numbers fit -/
def fit3 (s : L3) : Option L3 := thr s.1 s.2.1 s.2.2
theorem fit3_some {s t : L3} (h : fit3 s = some t) : t = s ∧ allNum s.1 = true ∧ allNum s.2.1 = true ∧ allNum s.2.2 = true := thr_some h
theorem Ok3.fit {R C : Nat} {s : L3} (h : Ok3 R C s) : fit3 s = some s := by unfold fit3 thr; rw [h.n1, h.n2, h.n3]; rfl
structure Mk3 (R C : Nat) (x : L3) : Prop where
  l1 : x.1.length = R * C
  l2 : x.2.1.length = R * R
  l3 : x.2.2.length = C * C
  m1 : mkd x.1
  m2 : mkd x.2.1
  m3 : mkd x.2.2
def Stands3 (R C : Nat) (s : Option L3) (x : L3) : Prop := Mk3 R C x ∧ s = fit3 x
theorem Ok3.mk3 {R C : Nat} {s : L3} (h : Ok3 R C s) : Mk3 R C s := ⟨h.l1, h.l2, h.l3, mkd_of h.n1, mkd_of h.n2, mkd_of h.n3⟩
theorem Ok3.stands {R C : Nat} {s : L3} (h : Ok3 R C s) : Stands3 R C (some s) s := ⟨h.mk3, h.fit.symm⟩
theorem Stands3.some_eq {R C : Nat} {s x : L3} (h : Stands3 R C (some s) x) : x = s ∧ Ok3 R C s := by
  obtain ⟨e, h1, h2, h3⟩ := fit3_some h.2.symm
  obtain rfl : s = x := e
  exact ⟨rfl, h.1.l1, h.1.l2, h.1.l3, h1, h2, h3⟩
theorem Stands3.addR {R C i j : Nat} {t : Int} {s : Option L3} {x : L3} (h : Stands3 R C s x) : Stands3 R C (s.bind fun s => fit3 (addR3 R C i j t s)) (addR3 R C i j t x) := by
  refine ⟨⟨addT_length _ _ _ _ _ _, addT_length _ _ _ _ _ _, h.1.l3, addT_mkd h.1.l1 h.1.m1, addT_mkd h.1.l2 h.1.m2, h.1.m3⟩, ?_⟩
  cases s with
  | some s => obtain ⟨rfl, _⟩ := h.some_eq; rfl
  | none =>
    refine (none_thr ?_).symm
    rcases thr_none h.2.symm with e | e | e
    · exact .inl (addT_stay h.1.l1 h.1.m1 e)
    · exact .inr (.inl (addT_stay h.1.l2 h.1.m2 e))
    · exact .inr (.inr e)
theorem Stands3.addC {R C i j : Nat} {t : Int} {s : Option L3} {x : L3} (h : Stands3 R C s x) : Stands3 R C (s.bind fun s => fit3 (addC3 R C i j t s)) (addC3 R C i j t x) := by
  refine ⟨⟨addCT_length _ _ _ _ _ _, h.1.l2, addCT_length _ _ _ _ _ _, addCT_mkd h.1.l1 h.1.m1, h.1.m2, addCT_mkd h.1.l3 h.1.m3⟩, ?_⟩
  cases s with
  | some s => obtain ⟨rfl, _⟩ := h.some_eq; rfl
  | none =>
    refine (none_thr ?_).symm
    rcases thr_none h.2.symm with e | e | e
    · exact .inl (addCT_stay h.1.l1 h.1.m1 e)
    · exact .inr (.inl e)
    · exact .inr (.inr (addCT_stay h.1.l3 h.1.m3 e))
theorem swpR3_ok {R C i j : Nat} {s : L3} (h : Ok3 R C s) (hi : i < R) (hj : j < R) : Ok3 R C (swpR3 R C i j s) :=
  ⟨swpT_length _ _ _ _ _, swpT_length _ _ _ _ _, h.l3, swpT_num h.l1 hi hj h.n1, swpT_num h.l2 hi hj h.n2, h.n3⟩
theorem swpC3_ok {R C i j : Nat} {s : L3} (h : Ok3 R C s) (hi : i < C) (hj : j < C) : Ok3 R C (swpC3 R C i j s) :=
  ⟨swpCT_length _ _ _ _ _, h.l2, swpCT_length _ _ _ _ _, swpCT_num h.l1 hi hj h.n1, h.n2, swpCT_num h.l3 hi hj h.n3⟩
theorem negR3_ok {R C i : Nat} {s : L3} (h : Ok3 R C s) (hi : i < R) : Ok3 R C (negR3 R C i s) :=
  ⟨negT_length _ _ _ _, negT_length _ _ _ _, h.l3, negT_num h.l1 hi h.n1, negT_num h.l2 hi h.n2, h.n3⟩
theorem addR3_ok {R C i j : Nat} {t : Int} {s s' : L3} (h : Ok3 R C s) (e : fit3 (addR3 R C i j t s) = some s') : s' = addR3 R C i j t s ∧ Ok3 R C s' := by
  obtain ⟨rfl, h1, h2, h3⟩ := fit3_some e
  exact ⟨rfl, addT_length _ _ _ _ _ _, addT_length _ _ _ _ _ _, h.l3, h1, h2, h3⟩
theorem addC3_ok {R C i j : Nat} {t : Int} {s s' : L3} (h : Ok3 R C s) (e : fit3 (addC3 R C i j t s) = some s') : s' = addC3 R C i j t s ∧ Ok3 R C s' := by
  obtain ⟨rfl, h1, h2, h3⟩ := fit3_some e
  exact ⟨rfl, addCT_length _ _ _ _ _ _, h.l2, addCT_length _ _ _ _ _ _, h1, h2, h3⟩
end Go.Proofs.Ytpgoefdeodoacaa
