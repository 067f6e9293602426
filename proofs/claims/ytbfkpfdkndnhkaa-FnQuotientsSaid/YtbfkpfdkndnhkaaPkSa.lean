/- Contracts and lemmas, put together. -/
import Derived.Test.YtbfkpfdkndnhkaaPkA
import Derived.Test.YtbfkpfdkndnhkaaPkF
import Derived.Test.YtbfkpfdkndnhkaaPkG
/- The Smith form as an algorithm on lists. -/
namespace Go.Proofs.Ytbfkpfdkndnhkaa
set_option linter.unusedSimpArgs false
set_option linter.unusedVariables false

/-! ### operations on columns -/
def addCT (R C i j : Nat) (t : Int) (l : List Int) : List Int := tab R C fun a b => if b = i then addB (nth l (a * C + i)) (mulB (nth l (a * C + j)) t) else nth l (a * C + b)
def swpCT (R C i j : Nat) (l : List Int) : List Int := tab R C fun a b => if b = i then nth l (a * C + j) else if b = j then nth l (a * C + i) else nth l (a * C + b)
theorem addCT_length (R C i j : Nat) (t : Int) (l : List Int) : (addCT R C i j t l).length = R * C := tab_length _ _ _
theorem swpCT_length (R C i j : Nat) (l : List Int) : (swpCT R C i j l).length = R * C := tab_length _ _ _
theorem addCT_mkd {R C i j : Nat} {t : Int} {l : List Int} (hl : l.length = R * C) (h : mkd l) : mkd (addCT R C i j t l) := mkd_tab fun a b ha hb => by
  split
  · exact addB_or' _ _
  · exact mkd_nth hl h ha hb
theorem swpCT_mkd {R C i j : Nat} {l : List Int} (hl : l.length = R * C) (h : mkd l) (hi : i < C) (hj : j < C) : mkd (swpCT R C i j l) := mkd_tab fun a b ha hb => by
  split
  · exact mkd_nth hl h ha hj
  · split
    · exact mkd_nth hl h ha hi
    · exact mkd_nth hl h ha hb
theorem addCT_other {R C i j a b : Nat} {t : Int} {l : List Int} (ha : a < R) (hb : b < C) (h : b ≠ i) : nth (addCT R C i j t l) (a * C + b) = nth l (a * C + b) := by
  unfold addCT; rw [tab_nth _ ha hb, if_neg h]
theorem addCT_same {R C i j a : Nat} {t : Int} {l : List Int} (hi : i < C) (ha : a < R) (h : allNum (addCT R C i j t l) = true) : nth (addCT R C i j t l) (a * C + i) = nth l (a * C + i) + nth l (a * C + j) * t := by
  have := (allNum_iff _).1 h (a * C + i) (by rw [addCT_length]; exact idx_lt ha hi)
  unfold addCT at *
  rw [tab_nth _ ha hi, if_pos rfl] at *
  exact isNum_addB this
theorem addCT_stay {R C i j : Nat} {t : Int} {l : List Int} (hl : l.length = R * C) (hm : mkd l) (h : allNum l = false) : allNum (addCT R C i j t l) = false := by
  obtain ⟨a, b, ha, hb, e⟩ := not_num hl h hm
  refine has_bad (i := a * C + b) (by rw [addCT_length]; exact idx_lt ha hb) ?_
  by_cases he : b = i
  · subst he
    unfold addCT; rw [tab_nth _ ha hb, if_pos rfl, e, addB_bad_left]
  · rw [addCT_other ha hb he]; exact e
theorem swpCT_cell {R C i j a b : Nat} {l : List Int} (ha : a < R) (hb : b < C) : nth (swpCT R C i j l) (a * C + b) = if b = i then nth l (a * C + j) else if b = j then nth l (a * C + i) else nth l (a * C + b) := by
  unfold swpCT; rw [tab_nth _ ha hb]
theorem swpCT_stay {R C i j : Nat} {l : List Int} (hl : l.length = R * C) (hm : mkd l) (hi : i < C) (hj : j < C) (h : allNum l = false) : allNum (swpCT R C i j l) = false := by
  obtain ⟨a, b, ha, hb, e⟩ := not_num hl h hm
  by_cases h1 : b = i
  · refine has_bad (i := a * C + j) (by rw [swpCT_length]; exact idx_lt ha hj) ?_
    rw [swpCT_cell ha hj]
    split
    · rename_i h2; rw [h2, ← h1, e]
    · rw [if_pos rfl, ← h1, e]
  · by_cases h2 : b = j
    · refine has_bad (i := a * C + i) (by rw [swpCT_length]; exact idx_lt ha hi) ?_
      rw [swpCT_cell ha hi, if_pos rfl, ← h2, e]
    · refine has_bad (i := a * C + b) (by rw [swpCT_length]; exact idx_lt ha hb) ?_
      rw [swpCT_cell ha hb, if_neg h1, if_neg h2, e]
theorem swpCT_num {R C i j : Nat} {l : List Int} (hl : l.length = R * C) (hi : i < C) (hj : j < C) (h : allNum l = true) : allNum (swpCT R C i j l) = true := by
  rw [allNum_iff] at *
  intro k hk
  rw [swpCT_length] at hk
  obtain ⟨h1, h2, h3⟩ := idx_split hk
  rw [h3, swpCT_cell h1 h2]
  split
  · exact h _ (by rw [hl]; exact idx_lt h1 hj)
  · split
    · exact h _ (by rw [hl]; exact idx_lt h1 hi)
    · exact h _ (by rw [hl]; exact idx_lt h1 h2)

/-! ### triples: a matrix, and those of the operations to rows and to columns -/
abbrev L3 := List Int × List Int × List Int
def thr (a u v : List Int) : Option L3 := if allNum a && (allNum u && allNum v) then some (a, u, v) else none
theorem thr_some {a u v : List Int} {s : L3} (h : thr a u v = some s) : s = (a, u, v) ∧ allNum a = true ∧ allNum u = true ∧ allNum v = true := by
  unfold thr at h
  split at h
  · rename_i hh; rw [Bool.and_eq_true, Bool.and_eq_true] at hh; cases h; exact ⟨rfl, hh.1, hh.2.1, hh.2.2⟩
  · cases h
theorem thr_none {a u v : List Int} (h : thr a u v = none) : allNum a = false ∨ allNum u = false ∨ allNum v = false := by
  unfold thr at h
  cases h1 : allNum a
  · exact .inl rfl
  · cases h2 : allNum u
    · exact .inr (.inl rfl)
    · cases h3 : allNum v
      · exact .inr (.inr rfl)
      · rw [h1, h2, h3] at h; cases h
theorem none_thr {a u v : List Int} (h : allNum a = false ∨ allNum u = false ∨ allNum v = false) : thr a u v = none := by
  unfold thr
  rcases h with h | h | h <;> simp [h]
structure Ok3 (R C : Nat) (s : L3) : Prop where
  l1 : s.1.length = R * C
  l2 : s.2.1.length = R * R
  l3 : s.2.2.length = C * C
  n1 : allNum s.1 = true
  n2 : allNum s.2.1 = true
  n3 : allNum s.2.2 = true
def addR3 (R C i j : Nat) (t : Int) (s : L3) : L3 := (addT R C i j t s.1, addT R R i j t s.2.1, s.2.2)
def addC3 (R C i j : Nat) (t : Int) (s : L3) : L3 := (addCT R C i j t s.1, s.2.1, addCT C C i j t s.2.2)
def swpR3 (R C i j : Nat) (s : L3) : L3 := (swpT R C i j s.1, swpT R R i j s.2.1, s.2.2)
def swpC3 (R C i j : Nat) (s : L3) : L3 := (swpCT R C i j s.1, s.2.1, swpCT C C i j s.2.2)
def negR3 (R C i : Nat) (s : L3) : L3 := (negT R C i s.1, negT R R i s.2.1, s.2.2)
/-- the triple if all its numbers fit -/
def fit3 (s : L3) : Option L3 := thr s.1 s.2.1 s.2.2
theorem fit3_some {s t : L3} (h : fit3 s = some t) : t = s ∧ allNum s.1 = true ∧ allNum s.2.1 = true ∧ allNum s.2.2 = true := thr_some h
theorem Ok3.fit {R C : Nat} {s : L3} (h : Ok3 R C s) : fit3 s = some s := by unfold fit3 thr; rw [h.n1, h.n2, h.n3]; rfl
structure Mk3 (R C : Nat) (x : L3) : Prop where
  l1 : x.1.length = R * C
  l2 : x.2.1.length = R * R
  l3 : x.2.2.length = C * C
  m1 : mkd x.1
  m2 : mkd x.2.1
  m3 : mkd x.2.2
def Stands3 (R C : Nat) (s : Option L3) (x : L3) : Prop := Mk3 R C x ∧ s = fit3 x
theorem Ok3.mk3 {R C : Nat} {s : L3} (h : Ok3 R C s) : Mk3 R C s := ⟨h.l1, h.l2, h.l3, mkd_of h.n1, mkd_of h.n2, mkd_of h.n3⟩
theorem Ok3.stands {R C : Nat} {s : L3} (h : Ok3 R C s) : Stands3 R C (some s) s := ⟨h.mk3, h.fit.symm⟩
theorem Stands3.some_eq {R C : Nat} {s x : L3} (h : Stands3 R C (some s) x) : x = s ∧ Ok3 R C s := by
  obtain ⟨e, h1, h2, h3⟩ := fit3_some h.2.symm
  obtain rfl : s = x := e
  exact ⟨rfl, h.1.l1, h.1.l2, h.1.l3, h1, h2, h3⟩
theorem Stands3.addR {R C i j : Nat} {t : Int} {s : Option L3} {x : L3} (h : Stands3 R C s x) : Stands3 R C (s.bind fun s => fit3 (addR3 R C i j t s)) (addR3 R C i j t x) := by
  refine ⟨⟨addT_length _ _ _ _ _ _, addT_length _ _ _ _ _ _, h.1.l3, addT_mkd h.1.l1 h.1.m1, addT_mkd h.1.l2 h.1.m2, h.1.m3⟩, ?_⟩
  cases s with
  | some s => obtain ⟨rfl, _⟩ := h.some_eq; rfl
  | none =>
    refine (none_thr ?_).symm
    rcases thr_none h.2.symm with e | e | e
    · exact .inl (addT_stay h.1.l1 h.1.m1 e)
    · exact .inr (.inl (addT_stay h.1.l2 h.1.m2 e))
    · exact .inr (.inr e)
theorem Stands3.addC {R C i j : Nat} {t : Int} {s : Option L3} {x : L3} (h : Stands3 R C s x) : Stands3 R C (s.bind fun s => fit3 (addC3 R C i j t s)) (addC3 R C i j t x) := by
  refine ⟨⟨addCT_length _ _ _ _ _ _, h.1.l2, addCT_length _ _ _ _ _ _, addCT_mkd h.1.l1 h.1.m1, h.1.m2, addCT_mkd h.1.l3 h.1.m3⟩, ?_⟩
  cases s with
  | some s => obtain ⟨rfl, _⟩ := h.some_eq; rfl
  | none =>
    refine (none_thr ?_).symm
    rcases thr_none h.2.symm with e | e | e
    · exact .inl (addCT_stay h.1.l1 h.1.m1 e)
    · exact .inr (.inl e)
    · exact .inr (.inr (addCT_stay h.1.l3 h.1.m3 e))
theorem swpR3_ok {R C i j : Nat} {s : L3} (h : Ok3 R C s) (hi : i < R) (hj : j < R) : Ok3 R C (swpR3 R C i j s) :=
  ⟨swpT_length _ _ _ _ _, swpT_length _ _ _ _ _, h.l3, swpT_num h.l1 hi hj h.n1, swpT_num h.l2 hi hj h.n2, h.n3⟩
theorem swpC3_ok {R C i j : Nat} {s : L3} (h : Ok3 R C s) (hi : i < C) (hj : j < C) : Ok3 R C (swpC3 R C i j s) :=
  ⟨swpCT_length _ _ _ _ _, h.l2, swpCT_length _ _ _ _ _, swpCT_num h.l1 hi hj h.n1, h.n2, swpCT_num h.l3 hi hj h.n3⟩
theorem negR3_ok {R C i : Nat} {s : L3} (h : Ok3 R C s) (hi : i < R) : Ok3 R C (negR3 R C i s) :=
  ⟨negT_length _ _ _ _, negT_length _ _ _ _, h.l3, negT_num h.l1 hi h.n1, negT_num h.l2 hi h.n2, h.n3⟩
theorem addR3_ok {R C i j : Nat} {t : Int} {s s' : L3} (h : Ok3 R C s) (e : fit3 (addR3 R C i j t s) = some s') : s' = addR3 R C i j t s ∧ Ok3 R C s' := by
  obtain ⟨rfl, h1, h2, h3⟩ := fit3_some e
  exact ⟨rfl, addT_length _ _ _ _ _ _, addT_length _ _ _ _ _ _, h.l3, h1, h2, h3⟩
theorem addC3_ok {R C i j : Nat} {t : Int} {s s' : L3} (h : Ok3 R C s) (e : fit3 (addC3 R C i j t s) = some s') : s' = addC3 R C i j t s ∧ Ok3 R C s' := by
  obtain ⟨rfl, h1, h2, h3⟩ := fit3_some e
  exact ⟨rfl, addCT_length _ _ _ _ _ _, h.l2, addCT_length _ _ _ _ _ _, h1, h2, h3⟩
end Go.Proofs.Ytbfkpfdkndnhkaa

/- The Smith form: rounds, and why they end. -/
namespace Go.Proofs.Ytbfkpfdkndnhkaa
set_option linter.unusedSimpArgs false
set_option linter.unusedVariables false
open Go.RowKit

/-! ### the first of the least cells from (t, t) on -/
abbrev Pl := Nat × Nat
def bt (C : Nat) (a : List Int) (o : Option Pl) (i j : Nat) : Option Pl :=
  if nth a (i * C + j) = 0 then o else match o with
    | none => some (i, j)
    | some q => if absI (nth a (i * C + j)) < absI (nth a (q.1 * C + q.2)) then some (i, j) else some q
def lsJ (C t : Nat) (a : List Int) (i : Nat) (o : Option Pl) : Nat → Option Pl
  | 0 => o
  | k + 1 => bt C a (lsJ C t a i o k) i (t + k)
def lsI (C t : Nat) (a : List Int) : Nat → Option Pl
  | 0 => none
  | k + 1 => lsJ C t a (t + k) (lsI C t a k) (C - t)
def lst (R C t : Nat) (a : List Int) : Option Pl := lsI C t a (R - t)
/-- what is known behind the cells V -/
structure LI (C t : Nat) (a : List Int) (V : Nat → Nat → Prop) (o : Option Pl) : Prop where
  no : o = none → ∀ i j, V i j → nth a (i * C + j) = 0
  yes : ∀ q, o = some q → V q.1 q.2 ∧ nth a (q.1 * C + q.2) ≠ 0 ∧ ∀ i j, V i j → nth a (i * C + j) ≠ 0 → absI (nth a (q.1 * C + q.2)) ≤ absI (nth a (i * C + j))
  fst : V t t → nth a (t * C + t) ≠ 0 → ∃ q, o = some q ∧ (q = (t, t) ∨ absI (nth a (q.1 * C + q.2)) < absI (nth a (t * C + t)))
theorem LI.same {C t : Nat} {a : List Int} {V V' : Nat → Nat → Prop} {o : Option Pl} (h : LI C t a V o) (hv : ∀ i j, V' i j ↔ V i j) : LI C t a V' o := by
  have : V' = V := funext fun i => funext fun j => propext (hv i j)
  rw [this]; exact h
theorem LI.bt {C t : Nat} {a : List Int} {V : Nat → Nat → Prop} {o : Option Pl} {i j : Nat} (h : LI C t a V o) (h0 : (i, j) = (t, t) → o = none) (hnv : ¬ V i j) :
    LI C t a (fun i' j' => V i' j' ∨ (i' = i ∧ j' = j)) (bt C a o i j) := by
  unfold Proofs.Ytbfkpfdkndnhkaa.bt
  by_cases hz : nth a (i * C + j) = 0
  · rw [if_pos hz]
    refine ⟨fun e i' j' hv => ?_, fun q e => ?_, fun hv hn => ?_⟩
    · rcases hv with hv | ⟨rfl, rfl⟩
      · exact h.no e i' j' hv
      · exact hz
    · obtain ⟨h1, h2, h3⟩ := h.yes q e
      refine ⟨.inl h1, h2, fun i' j' hv hn => ?_⟩
      rcases hv with hv | ⟨rfl, rfl⟩
      · exact h3 i' j' hv hn
      · exact absurd hz hn
    · rcases hv with hv | ⟨rfl, rfl⟩
      · exact h.fst hv hn
      · exact absurd hz hn
  · rw [if_neg hz]
    cases o with
    | none =>
      refine ⟨fun e => by (cases e), fun q e => ?_, fun hv hn => ?_⟩
      · cases e
        refine ⟨.inr ⟨rfl, rfl⟩, hz, fun i' j' hv hn => ?_⟩
        rcases hv with hv | ⟨rfl, rfl⟩
        · exact absurd (h.no rfl i' j' hv) hn
        · exact Int.le_refl _
      · rcases hv with hv | ⟨rfl, rfl⟩
        · exact absurd (h.no rfl t t hv) hn
        · exact ⟨_, rfl, .inl rfl⟩
    | some q =>
      obtain ⟨h1, h2, h3⟩ := h.yes q rfl
      have hne : (i, j) ≠ (t, t) := fun e => by cases h0 e
      dsimp only
      by_cases hlt : absI (nth a (i * C + j)) < absI (nth a (q.1 * C + q.2))
      · rw [if_pos hlt]
        refine ⟨fun e => by (cases e), fun q' e => ?_, fun hv hn => ?_⟩
        · cases e
          refine ⟨.inr ⟨rfl, rfl⟩, hz, fun i' j' hv hn => ?_⟩
          rcases hv with hv | ⟨rfl, rfl⟩
          · have := h3 i' j' hv hn; show absI (nth a (i * C + j)) ≤ _; omega
          · exact Int.le_refl _
        · rcases hv with hv | ⟨rfl, rfl⟩
          · obtain ⟨q', e, hq⟩ := h.fst hv hn
            cases e
            refine ⟨_, rfl, .inr ?_⟩
            rcases hq with rfl | hq
            · exact hlt
            · show absI (nth a (i * C + j)) < _; omega
          · exact absurd rfl hne
      · rw [if_neg hlt]
        refine ⟨fun e => by (cases e), fun q' e => ?_, fun hv hn => ?_⟩
        · cases e
          refine ⟨.inl h1, h2, fun i' j' hv hn => ?_⟩
          rcases hv with hv | ⟨rfl, rfl⟩
          · exact h3 i' j' hv hn
          · omega
        · rcases hv with hv | ⟨rfl, rfl⟩
          · exact h.fst hv hn
          · exact absurd rfl hne
theorem LI.lsJ {C t i : Nat} {a : List Int} {V : Nat → Nat → Prop} {o : Option Pl} (h : LI C t a V o) (h0 : i = t → o = none) (hnv : ∀ j, ¬ V i j) (k : Nat) :
    LI C t a (fun i' j' => V i' j' ∨ (i' = i ∧ t ≤ j' ∧ j' < t + k)) (lsJ C t a i o k) := by
  induction k with
  | zero => exact h.same fun i' j' => ⟨fun hv => by rcases hv with hv | ⟨_, h1, h2⟩; exact hv; omega, .inl⟩
  | succ k ih =>
    have hk : (i, t + k) = (t, t) → Proofs.Ytbfkpfdkndnhkaa.lsJ C t a i o k = none := fun e => by
      simp only [Prod.mk.injEq] at e
      obtain rfl : k = 0 := by omega
      exact h0 e.1
    refine (ih.bt hk (fun hv => ?_)).same fun i' j' => ⟨fun hv => ?_, fun hv => ?_⟩
    · rcases hv with hv | ⟨_, h1, h2⟩
      · exact hnv _ hv
      · omega
    · rcases hv with hv | ⟨h1, h2, h3⟩
      · exact .inl (.inl hv)
      · by_cases e : j' = t + k
        · exact .inr ⟨h1, e⟩
        · exact .inl (.inr ⟨h1, h2, by omega⟩)
    · rcases hv with (hv | ⟨h1, h2, h3⟩) | ⟨h1, h2⟩
      · exact .inl hv
      · exact .inr ⟨h1, h2, by omega⟩
      · exact .inr ⟨h1, by omega, by omega⟩
theorem LI.lsI {C t : Nat} (a : List Int) (k : Nat) : LI C t a (fun i' j' => t ≤ i' ∧ i' < t + k ∧ t ≤ j' ∧ j' < C) (lsI C t a k) := by
  induction k with
  | zero => exact ⟨fun _ i j h => by omega, fun q e => by (cases e), fun h _ => by omega⟩
  | succ k ih =>
    refine (ih.lsJ (i := t + k) (fun e => ?_) (fun j h => by omega) (C - t)).same fun i' j' => ⟨fun hv => ?_, fun hv => ?_⟩
    · obtain rfl : k = 0 := by omega
      rfl
    · by_cases e : i' = t + k
      · exact .inr ⟨e, by omega, by omega⟩
      · exact .inl ⟨by omega, by omega, by omega, by omega⟩
    · rcases hv with hv | ⟨h1, h2, h3⟩
      · exact ⟨by omega, by omega, by omega, by omega⟩
      · exact ⟨by omega, by omega, by omega, by omega⟩
theorem lst_LI (R C t : Nat) (a : List Int) : LI C t a (fun i' j' => t ≤ i' ∧ i' < R ∧ t ≤ j' ∧ j' < C) (lst R C t a) :=
  (LI.lsI a (R - t)).same fun i' j' => ⟨fun h => by omega, fun h => by omega⟩

/-! ### a round -/
def smA (R C t : Nat) (s : L3) : Nat → Option L3
  | 0 => some s
  | k + 1 => (smA R C t s k).bind fun x => if nth x.1 ((t + 1 + k) * C + t) = 0 then some x else fit3 (addR3 R C (t + 1 + k) t (-(nth x.1 ((t + 1 + k) * C + t) / nth x.1 (t * C + t))) x)
def smB (R C t : Nat) (s : L3) : Nat → Option L3
  | 0 => some s
  | k + 1 => (smB R C t s k).bind fun x => if nth x.1 (t * C + (t + 1 + k)) = 0 then some x else fit3 (addC3 R C (t + 1 + k) t (-(nth x.1 (t * C + (t + 1 + k)) / nth x.1 (t * C + t))) x)
structure AI (R C t k : Nat) (s s' : L3) : Prop where
  ok : Ok3 R C s'
  same : ∀ r b, r < R → b < C → (r ≤ t ∨ t + 1 + k ≤ r) → nth s'.1 (r * C + b) = nth s.1 (r * C + b)
  red : ∀ r, t < r → r < t + 1 + k → nth s'.1 (r * C + t) = nth s.1 (r * C + t) % nth s.1 (t * C + t)
structure BI (R C t k : Nat) (s s' : L3) : Prop where
  ok : Ok3 R C s'
  same : ∀ r b, r < R → b < C → (b ≤ t ∨ t + 1 + k ≤ b) → nth s'.1 (r * C + b) = nth s.1 (r * C + b)
  red : ∀ b, t < b → b < t + 1 + k → nth s'.1 (t * C + b) = nth s.1 (t * C + b) % nth s.1 (t * C + t)
theorem emodS_step (x y : Int) : x + y * (-(x / y)) = x % y := by rw [Int.emod_def, Int.mul_neg]; omega
theorem smA_AI {R C t : Nat} {s : L3} (hs : Ok3 R C s) (htR : t < R) (htC : t < C) {k : Nat} (hk : t + 1 + k ≤ R) {s' : L3} (h : smA R C t s k = some s') : AI R C t k s s' := by
  induction k generalizing s' with
  | zero => cases h; exact ⟨hs, fun _ _ _ _ _ => rfl, fun r h1 h2 => by omega⟩
  | succ k ih =>
    rw [smA] at h
    obtain ⟨x, h1, h2⟩ := Option.bind_eq_some_iff.1 h
    have E := ih (by omega) h1
    have ep := E.same t t htR htC (.inl (Nat.le_refl _))
    have ek := E.same (t + 1 + k) t (by omega) htC (.inr (Nat.le_refl _))
    split at h2
    · rename_i hz
      cases h2
      refine ⟨E.ok, fun r b hr hb hx => E.same r b hr hb (by omega), fun r h3 h4 => ?_⟩
      by_cases e : r = t + 1 + k
      · subst e; rw [← ek, hz]; simp
      · exact E.red r h3 (by omega)
    · obtain ⟨rfl, ok'⟩ := addR3_ok E.ok h2
      refine ⟨ok', fun r b hr hb hx => ?_, fun r h3 h4 => ?_⟩
      · show nth (addT R C _ _ _ _) _ = _
        rw [addT_other hr hb (by omega)]
        exact E.same r b hr hb (by omega)
      · show nth (addT R C _ _ _ _) _ = _
        by_cases e : r = t + 1 + k
        · subst e
          rw [addT_same (by omega) htC ok'.n1, emodS_step, ek, ep]
        · rw [addT_other (by omega) htC e]
          exact E.red r h3 (by omega)
theorem smB_BI {R C t : Nat} {s : L3} (hs : Ok3 R C s) (htR : t < R) (htC : t < C) {k : Nat} (hk : t + 1 + k ≤ C) {s' : L3} (h : smB R C t s k = some s') : BI R C t k s s' := by
  induction k generalizing s' with
  | zero => cases h; exact ⟨hs, fun _ _ _ _ _ => rfl, fun r h1 h2 => by omega⟩
  | succ k ih =>
    rw [smB] at h
    obtain ⟨x, h1, h2⟩ := Option.bind_eq_some_iff.1 h
    have E := ih (by omega) h1
    have ep := E.same t t htR htC (.inl (Nat.le_refl _))
    have ek := E.same t (t + 1 + k) htR (by omega) (.inr (Nat.le_refl _))
    split at h2
    · rename_i hz
      cases h2
      refine ⟨E.ok, fun r b hr hb hx => E.same r b hr hb (by omega), fun b h3 h4 => ?_⟩
      by_cases e : b = t + 1 + k
      · subst e; rw [← ek, hz]; simp
      · exact E.red b h3 (by omega)
    · obtain ⟨rfl, ok'⟩ := addC3_ok E.ok h2
      refine ⟨ok', fun r b hr hb hx => ?_, fun b h3 h4 => ?_⟩
      · show nth (addCT R C _ _ _ _) _ = _
        rw [addCT_other hr hb (by omega)]
        exact E.same r b hr hb (by omega)
      · show nth (addCT R C _ _ _ _) _ = _
        by_cases e : b = t + 1 + k
        · subst e
          rw [addCT_same (by omega) htR ok'.n1, emodS_step, ek, ep]
        · rw [addCT_other htR (by omega) e]
          exact E.red b h3 (by omega)
/-- is something left in the column, in the row -/
def lfA (C t : Nat) (a : List Int) : Nat → Bool
  | 0 => false
  | k + 1 => lfA C t a k || decide (nth a ((t + 1 + k) * C + t) ≠ 0)
def lfB (C t : Nat) (a : List Int) : Nat → Bool
  | 0 => false
  | k + 1 => lfB C t a k || decide (nth a (t * C + (t + 1 + k)) ≠ 0)
def lf (R C t : Nat) (a : List Int) : Bool := lfA C t a (R - t - 1) || lfB C t a (C - t - 1)
theorem lfA_true {C t : Nat} {a : List Int} {k : Nat} : lfA C t a k = true ↔ ∃ r, t < r ∧ r < t + 1 + k ∧ nth a (r * C + t) ≠ 0 := by
  induction k with
  | zero => exact ⟨fun h => by (cases h), fun ⟨r, h1, h2, _⟩ => by omega⟩
  | succ k ih =>
    rw [lfA, Bool.or_eq_true, ih, decide_eq_true_iff]
    constructor
    · rintro (⟨r, h1, h2, h3⟩ | h)
      · exact ⟨r, h1, by omega, h3⟩
      · exact ⟨t + 1 + k, by omega, by omega, h⟩
    · rintro ⟨r, h1, h2, h3⟩
      by_cases e : r = t + 1 + k
      · subst e; exact .inr h3
      · exact .inl ⟨r, h1, by omega, h3⟩
theorem lfB_true {C t : Nat} {a : List Int} {k : Nat} : lfB C t a k = true ↔ ∃ b, t < b ∧ b < t + 1 + k ∧ nth a (t * C + b) ≠ 0 := by
  induction k with
  | zero => exact ⟨fun h => by (cases h), fun ⟨r, h1, h2, _⟩ => by omega⟩
  | succ k ih =>
    rw [lfB, Bool.or_eq_true, ih, decide_eq_true_iff]
    constructor
    · rintro (⟨r, h1, h2, h3⟩ | h)
      · exact ⟨r, h1, by omega, h3⟩
      · exact ⟨t + 1 + k, by omega, by omega, h⟩
    · rintro ⟨r, h1, h2, h3⟩
      by_cases e : r = t + 1 + k
      · subst e; exact .inr h3
      · exact .inl ⟨r, h1, by omega, h3⟩
/-- the first row with a number that the pivot does not divide -/
def ndJ (C t : Nat) (a : List Int) (i : Nat) : Nat → Bool
  | 0 => false
  | k + 1 => ndJ C t a i k || decide (nth a (i * C + (t + 1 + k)) % nth a (t * C + t) ≠ 0)
def ndI (C t : Nat) (a : List Int) : Nat → Option Nat
  | 0 => none
  | k + 1 => match ndI C t a k with
    | some i => some i
    | none => if ndJ C t a (t + 1 + k) (C - t - 1) then some (t + 1 + k) else none
theorem ndJ_true {C t i : Nat} {a : List Int} {k : Nat} : ndJ C t a i k = true ↔ ∃ b, t < b ∧ b < t + 1 + k ∧ nth a (i * C + b) % nth a (t * C + t) ≠ 0 := by
  induction k with
  | zero => exact ⟨fun h => by (cases h), fun ⟨r, h1, h2, _⟩ => by omega⟩
  | succ k ih =>
    rw [ndJ, Bool.or_eq_true, ih, decide_eq_true_iff]
    constructor
    · rintro (⟨r, h1, h2, h3⟩ | h)
      · exact ⟨r, h1, by omega, h3⟩
      · exact ⟨t + 1 + k, by omega, by omega, h⟩
    · rintro ⟨r, h1, h2, h3⟩
      by_cases e : r = t + 1 + k
      · subst e; exact .inr h3
      · exact .inl ⟨r, h1, by omega, h3⟩
theorem ndI_some {C t i : Nat} {a : List Int} {k : Nat} (h : ndI C t a k = some i) : t < i ∧ i < t + 1 + k ∧ ndJ C t a i (C - t - 1) = true := by
  induction k with
  | zero => cases h
  | succ k ih =>
    rw [ndI] at h
    cases hn : ndI C t a k with
    | some i' =>
      rw [hn] at h; cases h
      obtain ⟨h1, h2, h3⟩ := ih hn
      exact ⟨h1, by omega, h3⟩
    | none =>
      rw [hn] at h
      dsimp only at h
      split at h
      · rename_i hj; cases h; exact ⟨by omega, by omega, hj⟩
      · cases h
theorem ndI_up {C t i : Nat} {a : List Int} {k n : Nat} (h : ndI C t a k = some i) (hn : k ≤ n) : ndI C t a n = some i := by
  induction n with
  | zero => obtain rfl : k = 0 := by omega
            exact h
  | succ n ih =>
    by_cases e : k = n + 1
    · rw [← e]; exact h
    · rw [ndI, ih (by omega)]
theorem ndI_here {C t : Nat} {a : List Int} {k n : Nat} (h : ndI C t a k = none) (hj : ndJ C t a (t + 1 + k) (C - t - 1) = true) (hn : k < n) : ndI C t a n = some (t + 1 + k) :=
  ndI_up (k := k + 1) (by rw [ndI, h]; dsimp only; rw [if_pos hj]) hn
theorem ndJ_up {C t i : Nat} {a : List Int} {k n : Nat} (h : ndJ C t a i k = true) (hn : k ≤ n) : ndJ C t a i n = true := by
  rw [ndJ_true] at *
  obtain ⟨b, h1, h2, h3⟩ := h
  exact ⟨b, h1, by omega, h3⟩
theorem ndI_next {C t : Nat} {a : List Int} {k : Nat} (h : ndI C t a k = none) (hj : ndJ C t a (t + 1 + k) (C - t - 1) = false) : ndI C t a (k + 1) = none := by rw [ndI, h]; dsimp only; rw [hj]; rfl

def piv (R C t : Nat) (q : Pl) (s : L3) : L3 :=
  let s1 := if q.1 = t then s else swpR3 R C q.1 t s
  if q.2 = t then s1 else swpC3 R C q.2 t s1
def smEnd (R C t : Nat) (y : L3) : Option (L3 × Bool) :=
  if lf R C t y.1 then some (y, true) else match ndI C t y.1 (R - t - 1) with
    | some i => (fit3 (addR3 R C t i 1 y)).map fun z => (z, true)
    | none => some (y, false)
def smRound (R C t : Nat) (s : L3) : Option (L3 × Bool) := match lst R C t s.1 with
  | none => none
  | some q => (smA R C t (piv R C t q s) (R - t - 1)).bind fun x => (smB R C t x (C - t - 1)).bind fun y => smEnd R C t y
theorem piv_ok {R C t : Nat} {q : Pl} {s : L3} (h : Ok3 R C s) (htR : t < R) (htC : t < C) (h1 : q.1 < R) (h2 : q.2 < C) : Ok3 R C (piv R C t q s) := by
  unfold piv
  dsimp only
  have h3 : Ok3 R C (if q.1 = t then s else swpR3 R C q.1 t s) := by
    split
    · exact h
    · exact swpR3_ok h h1 htR
  split
  · exact h3
  · exact swpC3_ok h3 h2 htC
theorem piv_cell {R C t : Nat} {q : Pl} {s : L3} (htR : t < R) (htC : t < C) (h1 : q.1 < R) (h2 : q.2 < C) : nth (piv R C t q s).1 (t * C + t) = nth s.1 (q.1 * C + q.2) := by
  unfold piv
  dsimp only
  have h3 : ∀ b, b < C → nth (if q.1 = t then s else swpR3 R C q.1 t s).1 (t * C + b) = nth s.1 (q.1 * C + b) := fun b hb => by
    split
    · rename_i e; rw [e]
    · rename_i e
      show nth (swpT R C q.1 t s.1) _ = _
      rw [swpT_cell htR hb, if_neg (fun h => e h.symm), if_pos rfl]
  split
  · rename_i e; rw [h3 t htC, e]
  · rename_i e
    show nth (swpCT R C q.2 t _) _ = _
    rw [swpCT_cell htR htC, if_neg (fun h => e h.symm), if_pos rfl, h3 _ h2]
theorem piv_id {R C t : Nat} {s : L3} : piv R C t (t, t) s = s := by unfold piv; simp

/-! ### the rounds end -/
open Classical in
noncomputable def smu (R C t : Nat) (a : List Int) : Nat := match lst R C t a with
  | none => 0
  | some q => 2 * (nth a (q.1 * C + q.2)).natAbs + (if q = (t, t) ∧ ∃ b, t < b ∧ b < C ∧ nth a (t * C + b) % nth a (t * C + t) ≠ 0 then 0 else 1)
theorem smu_le {R C t : Nat} {a : List Int} {q : Pl} (h : lst R C t a = some q) : smu R C t a ≤ 2 * (nth a (q.1 * C + q.2)).natAbs + 1 := by
  unfold smu; rw [h]; dsimp only; split <;> omega
theorem smu_ge {R C t : Nat} {a : List Int} {q : Pl} (h : lst R C t a = some q) : 2 * (nth a (q.1 * C + q.2)).natAbs ≤ smu R C t a := by
  unfold smu; rw [h]; dsimp only; omega
theorem smu_small {R C t : Nat} {a b : List Int} {q : Pl} (h : lst R C t a = some q) {i j : Nat} (hi : t ≤ i ∧ i < R ∧ t ≤ j ∧ j < C) (hne : nth b (i * C + j) ≠ 0) (hlt : (nth b (i * C + j)).natAbs < (nth a (q.1 * C + q.2)).natAbs) : (∃ q', lst R C t b = some q') ∧ smu R C t b < smu R C t a := by
  have L := lst_LI R C t b
  cases hq : lst R C t b with
  | none => exact absurd (L.no hq i j hi) hne
  | some q' =>
    obtain ⟨_, _, h3⟩ := L.yes q' hq
    have h4 := h3 i j hi hne
    rw [absI_natAbs, absI_natAbs] at h4
    have h5 := smu_le hq
    have h6 := smu_ge h
    exact ⟨⟨_, rfl⟩, by omega⟩
theorem round_again {R C t : Nat} {s y : L3} (hs : Ok3 R C s) (htR : t < R) (htC : t < C) (h : smRound R C t s = some (y, true)) : Ok3 R C y ∧ (∃ q, lst R C t y.1 = some q) ∧ smu R C t y.1 < smu R C t s.1 := by
  unfold smRound at h
  cases hl : lst R C t s.1 with
  | none => rw [hl] at h; cases h
  | some q =>
    rw [hl] at h
    dsimp only at h
    obtain ⟨⟨hq1, hq2, hq3, hq4⟩, hqn, hqle⟩ := (lst_LI R C t s.1).yes q hl
    obtain ⟨x, h1, h⟩ := Option.bind_eq_some_iff.1 h
    obtain ⟨y0, h2, h3⟩ := Option.bind_eq_some_iff.1 h
    have hp := piv_cell (s := s) (q := q) htR htC hq2 hq4
    have A := smA_AI (piv_ok hs htR htC hq2 hq4) htR htC (by omega) h1
    have B := smB_BI A.ok htR htC (by omega) h2
    have ex : nth x.1 (t * C + t) = nth s.1 (q.1 * C + q.2) := (A.same t t htR htC (.inl (Nat.le_refl _))).trans hp
    have ey : nth y0.1 (t * C + t) = nth s.1 (q.1 * C + q.2) := (B.same t t htR htC (.inl (Nat.le_refl _))).trans ex
    have hrem : ∀ z : Int, (z % nth s.1 (q.1 * C + q.2)).natAbs < (nth s.1 (q.1 * C + q.2)).natAbs := fun z => by
      have e1 := Int.emod_nonneg z hqn
      have e2 := Int.emod_lt z hqn
      omega
    unfold smEnd at h3
    cases hlf : lf R C t y0.1
    · rw [hlf] at h3
      simp only [Bool.false_eq_true, if_false] at h3
      unfold lf at hlf
      rw [Bool.or_eq_false_iff] at hlf
      cases hn : ndI C t y0.1 (R - t - 1) with
      | none => rw [hn] at h3; cases h3
      | some i =>
        rw [hn] at h3
        dsimp only at h3
        obtain ⟨z, h4, h5⟩ := Option.map_eq_some_iff.1 h3
        cases h5
        obtain ⟨rfl, okz⟩ := addR3_ok B.ok h4
        obtain ⟨i1, i2, i3⟩ := ndI_some hn
        obtain ⟨b, b1, b2, b3⟩ := ndJ_true.1 i3
        have hbC : b < C := by omega
        have hcol : nth y0.1 (i * C + t) = 0 := Decidable.byContradiction fun hne => by
          have := lfA_true.2 ⟨i, i1, (by omega : i < t + 1 + (R - t - 1)), hne⟩
          rw [hlf.1] at this; cases this
        have hrow : ∀ b, t < b → b < C → nth y0.1 (t * C + b) = 0 := fun b hb1 hb2 => Decidable.byContradiction fun hne => by
          have := lfB_true.2 ⟨b, hb1, (by omega : b < t + 1 + (C - t - 1)), hne⟩
          rw [hlf.2] at this; cases this
        have z1 : nth (addR3 R C t i 1 y0).1 (t * C + t) = nth s.1 (q.1 * C + q.2) := by
          show nth (addT R C t i 1 y0.1) _ = _
          rw [addT_same htR htC okz.n1, hcol, ey]; omega
        have z2 : nth (addR3 R C t i 1 y0).1 (t * C + b) = nth y0.1 (i * C + b) := by
          show nth (addT R C t i 1 y0.1) _ = _
          rw [addT_same htR (by omega) okz.n1, hrow b b1 (by omega)]; omega
        refine ⟨okz, ?_⟩
        have L := lst_LI R C t (addR3 R C t i 1 y0).1
        cases hq : lst R C t (addR3 R C t i 1 y0).1 with
        | none =>
          have := L.no hq t t ⟨Nat.le_refl _, htR, Nat.le_refl _, htC⟩
          rw [z1] at this
          exact absurd this hqn
        | some q' =>
          refine ⟨⟨_, rfl⟩, ?_⟩
          obtain ⟨_, _, g3⟩ := L.yes q' hq
          have g4 := g3 t t ⟨Nat.le_refl _, htR, Nat.le_refl _, htC⟩ (by rw [z1]; exact hqn)
          rw [z1, absI_natAbs, absI_natAbs] at g4
          obtain ⟨q2, e2, hq2'⟩ := L.fst ⟨Nat.le_refl _, htR, Nat.le_refl _, htC⟩ (by rw [z1]; exact hqn)
          rw [hq] at e2
          cases e2
          rw [z1, absI_natAbs, absI_natAbs] at hq2'
          have u1 := smu_le hq
          have u2 := smu_ge hl
          rcases hq2' with rfl | hlt
          · have u3 : smu R C t (addR3 R C t i 1 y0).1 = 2 * (nth s.1 (q.1 * C + q.2)).natAbs := by
              unfold smu
              rw [hq]
              dsimp only
              rw [if_pos ⟨rfl, b, b1, by omega, by rw [z2, z1, ← ey]; exact b3⟩, z1]; omega
            have u4 : smu R C t s.1 = 2 * (nth s.1 (q.1 * C + q.2)).natAbs + 1 := by
              unfold smu
              rw [hl]
              dsimp only
              rw [if_neg]
              rintro ⟨rfl, b', c1, c2, c3⟩
              have := hrow b' c1 c2
              rw [B.red b' c1 (by omega), ex, A.same t b' htR c2 (.inl (Nat.le_refl _)), piv_id] at this
              exact c3 this
            omega
          · omega
    · rw [hlf] at h3
      simp only [if_true] at h3
      cases h3
      refine ⟨B.ok, ?_⟩
      unfold lf at hlf
      rw [Bool.or_eq_true] at hlf
      rcases hlf with hh | hh
      · obtain ⟨r, r1, r2, r3⟩ := lfA_true.1 hh
        refine smu_small hl (i := r) (j := t) ⟨by omega, by omega, Nat.le_refl _, htC⟩ r3 ?_
        rw [B.same r t (by omega) htC (.inl (Nat.le_refl _)), A.red r r1 (by omega), hp]
        exact hrem _
      · obtain ⟨b, b1, b2, b3⟩ := lfB_true.1 hh
        refine smu_small hl (i := t) (j := b) ⟨Nat.le_refl _, htR, by omega, by omega⟩ b3 ?_
        rw [B.red b b1 (by omega), ex]
        exact hrem _
theorem round_done {R C t : Nat} {s y : L3} {k : Bool} (hs : Ok3 R C s) (htR : t < R) (htC : t < C) (h : smRound R C t s = some (y, k)) : Ok3 R C y := by
  cases k
  · unfold smRound at h
    cases hl : lst R C t s.1 with
    | none => rw [hl] at h; cases h
    | some q =>
      rw [hl] at h
      dsimp only at h
      obtain ⟨⟨hq1, hq2, hq3, hq4⟩, hqn, hqle⟩ := (lst_LI R C t s.1).yes q hl
      obtain ⟨x, h1, h⟩ := Option.bind_eq_some_iff.1 h
      obtain ⟨y0, h2, h3⟩ := Option.bind_eq_some_iff.1 h
      have A := smA_AI (piv_ok hs htR htC hq2 hq4) htR htC (by omega) h1
      have B := smB_BI A.ok htR htC (by omega) h2
      unfold smEnd at h3
      split at h3
      · cases h3
      · split at h3
        · obtain ⟨z, h4, h5⟩ := Option.map_eq_some_iff.1 h3
          cases h5
        · cases h3; exact B.ok
  · exact (round_again hs htR htC h).1

/-! ### all rounds for t, and all t -/
def ngv (R C t : Nat) (y : L3) : L3 := if nth y.1 (t * C + t) < 0 then negR3 R C t y else y
theorem ngv_ok {R C t : Nat} {y : L3} (h : Ok3 R C y) (htR : t < R) : Ok3 R C (ngv R C t y) := by
  unfold ngv; split
  · exact negR3_ok h htR
  · exact h
inductive SmT (R C t : Nat) : L3 → Option L3 → Prop
  | bad {s : L3} : smRound R C t s = none → SmT R C t s none
  | done {s y : L3} : smRound R C t s = some (y, false) → SmT R C t s (some (ngv R C t y))
  | again {s y : L3} {o : Option L3} : smRound R C t s = some (y, true) → SmT R C t y o → SmT R C t s o
theorem SmT.uniq {R C t : Nat} {s : L3} {o o' : Option L3} (h : SmT R C t s o) (h' : SmT R C t s o') : o = o' := by
  induction h with
  | bad e => cases h' with
    | bad _ => rfl
    | done e' => rw [e] at e'; cases e'
    | again e' _ => rw [e] at e'; cases e'
  | done e => cases h' with
    | bad e' => rw [e] at e'; cases e'
    | done e' => rw [e] at e'; cases e'; rfl
    | again e' _ => rw [e] at e'; cases e'
  | again e _ ih => cases h' with
    | bad e' => rw [e] at e'; cases e'
    | done e' => rw [e] at e'; cases e'
    | again e' k => rw [e] at e'; cases e'; exact ih k
theorem SmT.ok {R C t : Nat} {s : L3} {o : Option L3} (h : SmT R C t s o) (hs : Ok3 R C s) (htR : t < R) (htC : t < C) : ∀ y, o = some y → Ok3 R C y := by
  induction h with
  | bad _ => intro y e; cases e
  | done e => intro y h; cases h; exact ngv_ok (round_done hs htR htC e) htR
  | again e _ ih => exact ih (round_done hs htR htC e)
inductive SmF (R C : Nat) : Nat → L3 → Option L3 → Prop
  | stop {t : Nat} {s : L3} : (¬ (t < R ∧ t < C) ∨ lst R C t s.1 = none) → SmF R C t s (some s)
  | bad {t : Nat} {s : L3} : t < R → t < C → lst R C t s.1 ≠ none → SmT R C t s none → SmF R C t s none
  | step {t : Nat} {s y : L3} {o : Option L3} : t < R → t < C → lst R C t s.1 ≠ none → SmT R C t s (some y) → SmF R C (t + 1) y o → SmF R C t s o
theorem SmF.uniq {R C t : Nat} {s : L3} {o o' : Option L3} (h : SmF R C t s o) (h' : SmF R C t s o') : o = o' := by
  induction h with
  | stop e => cases h' with
    | stop _ => rfl
    | bad h1 h2 h3 _ => rcases e with e | e; exact absurd ⟨h1, h2⟩ e; exact absurd e h3
    | step h1 h2 h3 _ _ => rcases e with e | e; exact absurd ⟨h1, h2⟩ e; exact absurd e h3
  | bad h1 h2 h3 k => cases h' with
    | stop e => rcases e with e | e; exact absurd ⟨h1, h2⟩ e; exact absurd e h3
    | bad _ _ _ _ => rfl
    | step _ _ _ k' _ => have := k.uniq k'; cases this
  | step h1 h2 h3 k _ ih => cases h' with
    | stop e => rcases e with e | e; exact absurd ⟨h1, h2⟩ e; exact absurd e h3
    | bad _ _ _ k' => have := k.uniq k'; cases this
    | step _ _ _ k' m => have := k.uniq k'; cases this; exact ih m
open Classical in
/-- the Smith form with the matrices of the operations -/
noncomputable def smF (R C : Nat) (s : L3) : Option L3 := if h : ∃ o, SmF R C 0 s o then h.choose else none
theorem smF_eq {R C : Nat} {s : L3} {o : Option L3} (h : SmF R C 0 s o) : smF R C s = o := by
  have hx : ∃ o, SmF R C 0 s o := ⟨o, h⟩
  unfold smF
  rw [dif_pos hx]
  exact hx.choose_spec.uniq h
end Go.Proofs.Ytbfkpfdkndnhkaa

/- Plain: operations on columns are those on the rows of the transposed matrix. -/
namespace Go.Proofs.Ytbfkpfdkndnhkaa
set_option linter.unusedSimpArgs false
set_option linter.unusedVariables false
open Go.RowKit

theorem trL_length (R C : Nat) (l : List Int) : (trL R C l).length = C * R := tab_length _ _ _
theorem trL_cell {R C i j : Nat} {l : List Int} (hi : i < R) (hj : j < C) : nth (trL R C l) (j * R + i) = nth l (i * C + j) := by
  unfold trL; rw [tab_nth _ hj hi]
theorem trL_trL {R C : Nat} {l : List Int} (h : l.length = R * C) : trL C R (trL R C l) = l := by
  refine (tab_ext h fun i j hi hj => ?_).symm
  exact (trL_cell hi hj).symm
theorem trL_num {R C : Nat} {l : List Int} (hl : l.length = R * C) (h : allNum l = true) : allNum (trL R C l) = true := by
  rw [allNum_iff] at *
  intro k hk
  rw [trL_length] at hk
  obtain ⟨h1, h2, h3⟩ := idx_split hk
  rw [h3, trL_cell h2 h1]
  exact h _ (by rw [hl]; exact idx_lt h2 h1)
theorem trL_num' {R C : Nat} {l : List Int} (hl : l.length = R * C) : allNum (trL R C l) = allNum l := by
  cases h : allNum l
  · cases h2 : allNum (trL R C l)
    · rfl
    · have := trL_num (trL_length R C l) h2
      rw [trL_trL hl, h] at this
      cases this
  · exact trL_num hl h
theorem trL_id (R : Nat) : trL R R (idL R) = idL R := by
  refine tab_ext (trL_length _ _ _) fun i j hi hj => ?_
  rw [trL_cell hj hi]
  unfold idL
  rw [tab_nth _ hj hi]
  by_cases e : i = j
  · rw [if_pos e, if_pos e.symm]
  · rw [if_neg e, if_neg fun h => e h.symm]
theorem addCT_tr {R C i j : Nat} {t : Int} {l : List Int} (hi : i < C) (hj : j < C) : trL C R (addT C R i j t (trL R C l)) = addCT R C i j t l := by
  unfold addCT
  refine tab_ext (trL_length _ _ _) fun a b ha hb => ?_
  rw [trL_cell hb ha]
  unfold addT
  rw [tab_nth _ hb ha, trL_cell ha hi, trL_cell ha hj, trL_cell ha hb]
theorem swpCT_tr {R C i j : Nat} {l : List Int} (hi : i < C) (hj : j < C) : trL C R (swpT C R i j (trL R C l)) = swpCT R C i j l := by
  unfold swpCT
  refine tab_ext (trL_length _ _ _) fun a b ha hb => ?_
  rw [trL_cell hb ha]
  unfold swpT
  rw [tab_nth _ hb ha, trL_cell ha hi, trL_cell ha hj, trL_cell ha hb]
end Go.Proofs.Ytbfkpfdkndnhkaa

/- Contract: an operation on the columns of a matrix under work, the program's. -/
namespace Go.Proofs.Ytbfkpfdkndnhkaa
set_option linter.unusedSimpArgs false
set_option linter.unusedVariables false
open Go.RowKit

theorem tr_c (R C : Nat) (A : Option Addr) (l : List Int) (n cap : Nat) (w : World) (hn : n = R * C) (hl : l.length = n) (hR : R ≤ 24) (hC : C ≤ 24) (hnum : allNum l = true) (ha : Rd w A l) :
    Calls Try.prog 118 #[.agg #[.int .i64 R, .int .i64 C, .slice A n cap]] w fun e w' => ∃ A' c', e = .returned (.tuple #[.agg #[.int .i64 C, .int .i64 R, .slice A' (C * R) c'], .bool true]) ∧ Own w' w.heap.size (.slice A' (C * R) c') (trL R C l) ∧ Grows w w' := by
  have hRC : R * C ≤ 576 := Nat.mul_le_mul hR hC
  have hm : isMat R C l = true := by rw [isMat_made hR hC (hl.trans hn)]; exact hnum
  have e : trO ⟨R, C, l⟩ = some ⟨C, R, trL R C l⟩ := by
    unfold trO trM MX.ok
    simp only [hm, if_true, Int.toNat_natCast]
  refine (iTr_m R C A l n cap w hl ha (by omega)).mono ?_
  rintro e2 w' h
  obtain ⟨v, rfl, o, g⟩ := matRet_out h
  rw [e] at o ⊢
  have o' : Own w' w.heap.size v (trL R C l) := o
  obtain ⟨A', c', rfl, _, _⟩ := o'.val
  rw [trL_length] at o' ⊢
  exact ⟨A', c', rfl, o', g⟩
theorem WBox.putM {w : World} {b : Nat} {R C : Int} {A U V : Value} {bd : Bool} (h : WBox w b R C A U V bd) (A' : Value) : WBox (((w.setCell ⟨b, 0, none⟩ (.int .i64 R)).setCell ⟨b, 1, none⟩ (.int .i64 C)).setCell ⟨b, 2, none⟩ A') b R C A' U V bd := by
  obtain ⟨h0, h1, h2, h3, h4, h5, h6, h7, h8, h9⟩ := h.cells
  have hl := h.lt
  have hf := h.fz
  exact ⟨by simp; exact hl, by simp [go_sem, h0], by simp [go_sem, h1], by simp [go_sem, h2], by simp [go_sem, h3], by simp [go_sem, h4], by simp [go_sem, h5], by simp [go_sem, h6], by simp [go_sem, h7], by simp [go_sem, h8], by simp [go_sem, h9], fun o => by simp [go_sem, hf]⟩
theorem WBox.putV {w : World} {b : Nat} {R C : Int} {A U V : Value} {bd : Bool} (h : WBox w b R C A U V bd) (V' : Value) : WBox (((w.setCell ⟨b, 6, none⟩ (.int .i64 C)).setCell ⟨b, 7, none⟩ (.int .i64 C)).setCell ⟨b, 8, none⟩ V') b R C A U V' bd := by
  obtain ⟨h0, h1, h2, h3, h4, h5, h6, h7, h8, h9⟩ := h.cells
  have hl := h.lt
  have hf := h.fz
  exact ⟨by simp; exact hl, by simp [go_sem, h0], by simp [go_sem, h1], by simp [go_sem, h2], by simp [go_sem, h3], by simp [go_sem, h4], by simp [go_sem, h5], by simp [go_sem, h6], by simp [go_sem, h7], by simp [go_sem, h8], by simp [go_sem, h9], fun o => by simp [go_sem, hf]⟩
theorem Own.put3 {w : World} {B b o1 o2 o3 : Nat} {v : Value} {l : List Int} (h : Own w B v l) (hne : ∀ g, v.ownBlock = some g → g ≠ b) (x y z : Value) : Own (((w.setCell ⟨b, o1, none⟩ x).setCell ⟨b, o2, none⟩ y).setCell ⟨b, o3, none⟩ z) B v l :=
  ((h.far (p := ⟨b, o1, none⟩) hne x).far (p := ⟨b, o2, none⟩) hne y).far (p := ⟨b, o3, none⟩) hne z
theorem MBox.put3 {w : World} {b b' o1 o2 o3 : Nat} {r c : Int} {v : Value} (h : MBox w b r c v) (hne : b ≠ b') (x y z : Value) : MBox (((w.setCell ⟨b', o1, none⟩ x).setCell ⟨b', o2, none⟩ y).setCell ⟨b', o3, none⟩ z) b r c v :=
  ((h.far (p := ⟨b', o1, none⟩) (by simpa using hne) x).far (p := ⟨b', o2, none⟩) (by simpa using hne) y).far (p := ⟨b', o3, none⟩) (by simpa using hne) z
theorem col_keep {w W : World} {b x R C n m q : Nat} {A U V : Option Addr} {ca cu cv : Nat} {bd : Bool} {k i j t : Int} (h : WBox W b R C (.slice A n ca) (.slice U m cu) (.slice V q cv) bd) (o : OBox W x k i j t) (g : Grows W w) :
    w.cell? ⟨b, 1, none⟩ = some (.int .i64 C) ∧ w.cell? ⟨b, 9, none⟩ = some (.bool bd) ∧ w.cell? ⟨x, 0, none⟩ = some (.int .i64 k) ∧ w.cell? ⟨x, 1, none⟩ = some (.int .i64 i) ∧ w.cell? ⟨x, 2, none⟩ = some (.int .i64 j) ∧ w.cell? ⟨x, 3, none⟩ = some (.int .i64 t) :=
  ⟨(h.grows g).c1, (h.grows g).c9, (o.grows g).c0, (o.grows g).c1, (o.grows g).c2, (o.grows g).c3⟩
section
set_option maxHeartbeats 40000000
set_option maxRecDepth 100000
theorem cols_c (R C n m q B b : Nat) (A U V : Option Addr) (ca cu cv : Nat) (k i j t : Int) (a u v a1 v1 : List Int) (k1 k2 : Bool) (w : World) (wk : Wk w B b R C n m q A U V ca cu cv a u v false)
    (hn : n = R * C) (hq : q = C * C) (hR : R ≤ 24) (hC : C ≤ 24) (hal : a.length = n) (hvl : v.length = q) (hna : allNum a = true) (hnv : allNum v = true) (hl1 : a1.length = C * R) (hl2 : v1.length = C * C) (hn1 : k1 = true → allNum a1 = true) (hn2 : k2 = true → allNum v1 = true)
    (HI : ∀ W, Calls Try.prog 154 #[.agg #[.int .i64 k, .int .i64 i, .int .i64 j, .int .i64 t], .int .i64 C] W fun e w' => e = .returned (.bool true) ∧ Grows W w')
    (HA : ∀ W B' A' c', Own W B' (.slice A' (C * R) c') (trL R C a) → Calls Try.prog 113 #[.agg #[.int .i64 C, .int .i64 R, .slice A' (C * R) c'], .agg #[.int .i64 k, .int .i64 i, .int .i64 j, .int .i64 t]] W (OpRes W B' (.slice A' (C * R) c') k1 a1))
    (HV : ∀ W B' A' c', Own W B' (.slice A' (C * C) c') (trL C C v) → Calls Try.prog 113 #[.agg #[.int .i64 C, .int .i64 C, .slice A' (C * C) c'], .agg #[.int .i64 k, .int .i64 i, .int .i64 j, .int .i64 t]] W (OpRes W B' (.slice A' (C * C) c') k2 v1)) :
    Calls Try.prog 185 #[.pointer (some ⟨b, 0, none⟩), .agg #[.int .i64 k, .int .i64 i, .int .i64 j, .int .i64 t]] w fun e w' => e = .returned (.tuple #[]) ∧
      (∃ (A' V' : Option Addr) (ca' cv' : Nat) (a' v' : List Int), Wk w' B b R C n m q A' U V' ca' cu cv' a' u v' (!(k1 && k2)) ∧ ((k1 && k2) = true → a' = trL C R a1 ∧ v' = trL C C v1) ∧ (∀ x, x < w.heap.size → (Value.slice A n ca).ownBlock ≠ some x → (Value.slice V q cv).ownBlock ≠ some x → (Value.slice A' n ca').ownBlock ≠ some x ∧ (Value.slice V' q cv').ownBlock ≠ some x)) ∧ Below B w w' ∧ ∀ x, x < w.heap.size → x ≠ b → w'.heap[x]? = w.heap[x]? := by
  obtain ⟨w1, hw1⟩ : ∃ w1, w1 = w.alloc (.cells #[.int .i64 k, .int .i64 i, .int .i64 j, .int .i64 t] 105) := ⟨_, rfl⟩
  have g01 : Grows w w1 := by rw [hw1]; exact bel0
  have ob : OBox w1 w.heap.size k i j t := by rw [hw1]; exact OBox.new_ _ _ _ _ _ _ rfl
  have wk1 := wk.grows g01
  have hBs := wk.size
  have hs01 := Below.size g01
  have HW1 := Lib.hid hw1
  have HI' := Lib.hid HI
  have HA' := Lib.hid HA
  have HV' := Lib.hid HV
  have HN1 := Lib.hid hn1
  have HN2 := Lib.hid hn2
  have CT1 := Lib.hid fun W h => tr_c R C A a n ca W hn hal hR hC hna h
  have CT2 := Lib.hid fun W h => tr_c C C V v q cv W hq hvl hC hC hnv h
  have CT3 := Lib.hid fun A' c' W hk h => tr_c C R A' a1 (C * R) c' W rfl hl1 hC hR (hn1 hk) h
  have CT4 := Lib.hid fun A' c' W hk h => tr_c C C A' v1 (C * C) c' W rfl hl2 hC hC (hn2 hk) h
  have HNN := Lib.hid hn
  have HQQ := Lib.hid hq
  clear hw1 HI HA HV hn1 hn2 hn hq hal hvl hna hnv hl1 hl2
  go_enter Try.func185, Try.ntmps185
  go_wp2_with fail
  rw [← HW1.out]
  (refine wp_region_heldL (fun W => W.cell? ⟨b, 1, none⟩ = some (.int .i64 C) ∧ W.cell? ⟨b, 9, none⟩ = some (.bool false) ∧ W.cell? ⟨w.heap.size, 0, none⟩ = some (.int .i64 k) ∧ W.cell? ⟨w.heap.size, 1, none⟩ = some (.int .i64 i) ∧ W.cell? ⟨w.heap.size, 2, none⟩ = some (.int .i64 j) ∧ W.cell? ⟨w.heap.size, 3, none⟩ = some (.int .i64 t)) (by kernel_rfl) (by ((try dsimp only); (first | exact col_keep wk1.bx ob (by exact bel1 g2) | exact col_keep wk1.bx ob (by exact bel0)))) (fun hHeld => ?_); refine heldL_take (i := 0) (v := _) (by rfl) (by kernel_rfl) (by kernel_rfl) (by kernel_rfl) (fun _ _ _ h => h) (Or.inl ⟨by rfl, fun wS hSw => by ((try dsimp only at hSw); go_simp; (try with_reducible rfl))⟩) (by assumption) ?_; simp only [Act.put, List.setIfInBounds_toArray, List.set_cons_zero, List.set_cons_succ]; refine heldL_take (i := 1) (v := _) (by rfl) (by kernel_rfl) (by kernel_rfl) (by kernel_rfl) (fun _ _ _ h => h) (Or.inl ⟨by rfl, fun wS hSw => by ((try dsimp only at hSw); go_simp; (try with_reducible rfl))⟩) (by assumption) ?_; simp only [Act.put, List.setIfInBounds_toArray, List.set_cons_zero, List.set_cons_succ]; refine heldL_take (i := 2) (v := _) (by rfl) (by kernel_rfl) (by kernel_rfl) (by kernel_rfl) (fun _ _ _ h => h) (Or.inl ⟨by rfl, fun wS hSw => by ((try dsimp only at hSw); go_simp; (try with_reducible rfl))⟩) (by assumption) ?_; simp only [Act.put, List.setIfInBounds_toArray, List.set_cons_zero, List.set_cons_succ]; refine heldL_take (i := 3) (v := _) (by rfl) (by kernel_rfl) (by kernel_rfl) (by kernel_rfl) (fun _ _ _ h => h) (Or.inl ⟨by rfl, fun wS hSw => by ((try dsimp only at hSw); go_simp; (try with_reducible rfl))⟩) (by assumption) ?_; simp only [Act.put, List.setIfInBounds_toArray, List.set_cons_zero, List.set_cons_succ]; refine heldL_take (i := 4) (v := _) (by rfl) (by kernel_rfl) (by kernel_rfl) (by kernel_rfl) (fun _ _ _ h => h) (Or.inl ⟨by rfl, fun wS hSw => by ((try dsimp only at hSw); go_simp; (try with_reducible rfl))⟩) (by assumption) ?_; simp only [Act.put, List.setIfInBounds_toArray, List.set_cons_zero, List.set_cons_succ]; refine heldL_take (i := 5) (v := _) (by rfl) (by kernel_rfl) (by kernel_rfl) (by kernel_rfl) (fun _ _ _ h => h) (Or.inl ⟨by rfl, fun wS hSw => by ((try dsimp only at hSw); go_simp; (try with_reducible rfl))⟩) (by assumption) ?_; simp only [Act.put, List.setIfInBounds_toArray, List.set_cons_zero, List.set_cons_succ]; refine heldL_take (i := 6) (v := _) (by rfl) (by kernel_rfl) (by kernel_rfl) (by kernel_rfl) (fun _ _ _ h => h) (Or.inl ⟨by rfl, fun wS hSw => by ((try dsimp only at hSw); go_simp; (try with_reducible rfl))⟩) (by assumption) ?_; simp only [Act.put, List.setIfInBounds_toArray, List.set_cons_zero, List.set_cons_succ]; refine heldL_take (i := 7) (v := _) (by rfl) (by kernel_rfl) (by kernel_rfl) (by kernel_rfl) (fun _ _ _ h => h) (Or.inl ⟨by rfl, fun wS hSw => by ((try dsimp only at hSw); go_simp; (try with_reducible rfl))⟩) (by assumption) ?_; simp only [Act.put, List.setIfInBounds_toArray, List.set_cons_zero, List.set_cons_succ]; refine heldL_take (i := 8) (v := _) (by rfl) (by kernel_rfl) (by kernel_rfl) (by kernel_rfl) (fun _ _ _ h => h) (Or.inl ⟨by rfl, fun wS hSw => by ((try dsimp only at hSw); go_simp; (try with_reducible rfl))⟩) (by assumption) ?_; simp only [Act.put, List.setIfInBounds_toArray, List.set_cons_zero, List.set_cons_succ]; refine heldL_take (i := 9) (v := _) (by rfl) (by kernel_rfl) (by kernel_rfl) (by kernel_rfl) (fun _ _ _ h => h) (Or.inl ⟨by rfl, fun wS hSw => by ((try dsimp only at hSw); go_simp; (try with_reducible rfl))⟩) (by assumption) ?_; simp only [Act.put, List.setIfInBounds_toArray, List.set_cons_zero, List.set_cons_succ]; refine heldL_take (i := 10) (v := _) (by rfl) (by kernel_rfl) (by kernel_rfl) (by kernel_rfl) (fun _ _ _ h => h) (Or.inl ⟨by rfl, fun wS hSw => by ((try dsimp only at hSw); go_simp; (try with_reducible rfl))⟩) (by assumption) ?_; simp only [Act.put, List.setIfInBounds_toArray, List.set_cons_zero, List.set_cons_succ]; refine heldL_step (i := 11) (by kernel_rfl) (by rfl) (fun K hK => ?_); go_simp; (go_at_call 154; refine (HI'.out _).mono ?_; rintro e w2 ⟨rfl, g2⟩; have hs2 : w1.heap.size ≤ w2.heap.size := (by have := Below.size g2; simpa using this)) ; (try (go_wp2_with fail)); refine hK.out _ _ (by ((try dsimp only); (first | exact col_keep wk1.bx ob (by exact bel1 g2) | exact col_keep wk1.bx ob (by exact bel0)))) (fun hHeld => ?_); clear hK K; (try simp only [Act.put, List.setIfInBounds_toArray, List.set_cons_zero, List.set_cons_succ]); refine heldL_take (i := 12) (v := _) (by rfl) (by kernel_rfl) (by kernel_rfl) (by kernel_rfl) (fun _ _ _ h => h) (Or.inl ⟨by rfl, fun wS hSw => by ((try dsimp only at hSw); go_simp; (try with_reducible rfl))⟩) (by assumption) ?_; simp only [Act.put, List.setIfInBounds_toArray, List.set_cons_zero, List.set_cons_succ]; refine heldL_take (i := 13) (v := _) (by rfl) (by kernel_rfl) (by kernel_rfl) (by kernel_rfl) (fun _ _ _ h => h) (Or.inl ⟨by rfl, fun wS hSw => by ((try dsimp only at hSw); go_simp; (try with_reducible rfl))⟩) (by assumption) ?_; simp only [Act.put, List.setIfInBounds_toArray, List.set_cons_zero, List.set_cons_succ]; refine wpAnyH_done (by kernel_rfl) ?_ _; refine NoPanic.normal ?_)
  have g12 : Grows w1 w2 := by exact bel1 g2
  have wk2 := wk1.grows g12
  have ob2 := ob.grows g12
  obtain ⟨c0, c1, c2, c3, c4, c5, c6, c7, c8, c9⟩ := wk2.bx.cells
  have hbl := wk2.bx.lt
  go_wp2_with fail
  refine (CT1.out _ wk2.oa.rd').mono ?_; rintro e w3 ⟨A3, c3', rfl, o3, g3⟩
  have hs3 := Below.size g3
  clear c0 c1 c2 c3 c4 c5 c6 c7 c8 c9
  obtain ⟨c0, c1, c2, c3, c4, c5, c6, c7, c8, c9⟩ := (wk2.bx.grows g3).cells
  have hbl3 := (wk2.bx.grows g3).lt
  have hrv := wk2.ov.rd'
  go_wp2_with fail
  refine (CT2.out _ (by exact (Rd.grows hrv (by exact bel1 g3)))).mono ?_; rintro e w4 ⟨A4, c4', rfl, o4, g4⟩
  have hs4 := Below.size g4
  simp at hs4
  have m3 : MBox w4 w3.heap.size C R (.slice A3 (C * R) c3') := (MBox.mk_ w3 C R (.slice A3 (C * R) c3') 26).grows g4
  obtain ⟨w5, hw5⟩ : ∃ w5, w5 = w4.alloc (.cells #[.int .i64 C, .int .i64 C, .slice A4 (C * C) c4'] 26) := ⟨_, rfl⟩
  have m5 : MBox w5 w3.heap.size C R (.slice A3 (C * R) c3') := by rw [hw5]; exact m3.alloc _
  have m6 : MBox w5 w4.heap.size C C (.slice A4 (C * C) c4') := by rw [hw5]; exact MBox.mk_ _ _ _ _ _
  have g45 : Grows w4 w5 := by rw [hw5]; exact bel0
  have g35 : Grows w3 w5 := by rw [hw5]; exact bel1 g4
  have g25 : Grows w2 w5 := by exact bel2 g35 g3
  have hA3 : ∀ g, (Value.slice A3 (C * R) c3').ownBlock = some g → w2.heap.size ≤ g ∧ g < w3.heap.size := fun g h => World.ownsRow.lt o3 g h
  have hA4 : ∀ g, (Value.slice A4 (C * C) c4').ownBlock = some g → w3.heap.size + 1 ≤ g ∧ g < w4.heap.size := fun g h => by have := World.ownsRow.lt o4 g h; simpa using this
  have o35 : Own w5 w2.heap.size (.slice A3 (C * R) c3') (trL R C a) := o3.grows g35
  have o45 : Own w5 w2.heap.size (.slice A4 (C * C) c4') (trL C C v) := (o4.grows g45).less (by simp; omega)
  have hs5 : w5.heap.size = w4.heap.size + 1 := by rw [hw5]; simp
  have HW5 := Lib.hid hw5
  have HA3 := Lib.hid hA3
  have HA4 := Lib.hid hA4
  have ob5 := ob2.grows g25
  have ob4 := ob2.grows (w' := w4) (by exact bel2 g4 g3)
  obtain ⟨x0, x1, x2, x3⟩ := ob4.cells
  have xl := ob4.lt
  obtain ⟨y0, y1, y2⟩ := m3.cells
  have yl := m3.lt
  clear hw5 hA3 hA4 m3 o3 o4 c0 c1 c2 c3 c4 c5 c6 c7 c8 c9 CT1 CT2
  have kp2 : Grows w w2 := Below.trans g01 (Below.mono g12 (by omega))
  have hb2 : Below B w w2 := Below.trans (Below.mono g01 hBs) (Below.mono g12 (by omega))
  go_wp2_with fail
  rw [← HW5.out]
  refine (HA'.out _ _ _ _ o35).mono ?_; rintro e w6 hop
  obtain ⟨m6', rfl, o36, hm6, g6⟩ := opRes_out hop
  have G6 := Lib.hid g6
  have HM6 := Lib.hid hm6
  have g56 : Below w2.heap.size w5 w6 := below_app o35 (by omega) g6
  have g26 : Grows w2 w6 := Below.trans g25 g56
  have hs6 := g6.size
  have ob6 := ob2.grows g26
  clear hop hm6 x0 x1 x2 x3 y0 y1 y2 xl yl ob4
  cases k1
  · have wk6 := wk2.grows g26
    have c9 := wk6.bx.c9
    have cl := wk6.bx.lt
    have cf := wk6.bx.fz
    clear g6
    go_wp2_with fail
    ((try simp only [Exit.inBlock, Exit.then]); refine bodyPost_ret (results_none rfl _ _ _) rfl ?_)
    exact ⟨rfl, ⟨A, V, ca, cv, a, v, wk6.setBad true, (fun h => by cases h), fun x _ h1 h2 => ⟨h1, h2⟩⟩, (Below.trans hb2 (Below.mono g26 (by omega))).setCell wk6.lo _, fun x hx hxb => (Below.heap_setCell _ _ _ _ hxb).trans ((g26.block x (by omega)).trans (kp2.block x hx))⟩
  · have m66 := m6.own g6 (fun g h => by have := HA3.out g h; omega)
    have m56 := m5.own g6 (fun g h => by have := HA3.out g h; omega)
    have o46 : Own w6 w2.heap.size (.slice A4 (C * C) c4') (trL C C v) := o45.other g6 (fun g h1 h2 => by have := HA3.out g h1; have := HA4.out g h2; omega)
    have e6 : m6' = a1 := HM6.out rfl
    subst e6
    clear g6
    obtain ⟨x0, x1, x2, x3⟩ := ob6.cells
    obtain ⟨y0, y1, y2⟩ := m66.cells
    go_wp2_with fail
    refine (HV'.out _ _ _ _ o46).mono ?_; rintro e w7 hop
    obtain ⟨m7', rfl, o47, hm7, g7⟩ := opRes_out hop
    have HM7 := Lib.hid hm7
    have g67 : Below w2.heap.size w6 w7 := below_app o46 (by omega) g7
    have g27 : Grows w2 w7 := Below.trans g26 g67
    have hs7 := g7.size
    clear hop hm7 x0 x1 x2 x3 y0 y1 y2
    cases k2
    · have wk7 := wk2.grows g27
      have c9 := wk7.bx.c9
      have cl := wk7.bx.lt
      have cf := wk7.bx.fz
      clear g7
      go_wp2_with fail
      ((try simp only [Exit.inBlock, Exit.then]); refine bodyPost_ret (results_none rfl _ _ _) rfl ?_)
      exact ⟨rfl, ⟨A, V, ca, cv, a, v, wk7.setBad true, (fun h => by cases h), fun x _ h1 h2 => ⟨h1, h2⟩⟩, (Below.trans hb2 (Below.mono g27 (by omega))).setCell wk7.lo _, fun x hx hxb => (Below.heap_setCell _ _ _ _ hxb).trans ((g27.block x (by omega)).trans (kp2.block x hx))⟩
    · have m67 := m66.own g7 (fun g h => by have := HA4.out g h; omega)
      have m57 := m56.own g7 (fun g h => by have := HA4.out g h; omega)
      have o37 : Own w7 w2.heap.size (.slice A3 (C * R) c3') m6' := o36.other g7 (fun g h1 h2 => by have := HA4.out g h1; have := HA3.out g h2; omega)
      have e7 : m7' = v1 := HM7.out rfl
      subst e7
      clear g7
      obtain ⟨y0, y1, y2⟩ := m57.cells
      have wk7 := wk2.grows g27
      go_wp2_with fail
      refine (CT3.out _ _ _ (by first | rfl | trivial) o37.rd').mono ?_; rintro e w8 ⟨A8, c8', rfl, o8, g8⟩
      have hs8 := Below.size g8
      have wk8 := wk7.grows g8
      have cl := wk8.bx.lt
      have cf := wk8.bx.fz
      obtain ⟨d0, d1, d2, d3, d4, d5, d6, d7, d8, d9⟩ := wk8.bx.cells
      have m68 := m67.grows g8
      have o48 := o47.grows g8
      clear y0 y1 y2
      obtain ⟨w9, hw9⟩ : ∃ w9, w9 = ((w8.setCell ⟨b, 0, none⟩ (.int .i64 R)).setCell ⟨b, 1, none⟩ (.int .i64 C)).setCell ⟨b, 2, none⟩ (.slice A8 (R * C) c8') := ⟨_, rfl⟩
      have hb2s : b < w2.heap.size := hbl
      have bx9 : WBox w9 b R C (.slice A8 (R * C) c8') (.slice U m cu) (.slice V q cv) false := by rw [hw9]; exact wk8.bx.putM _
      have m69 : MBox w9 w4.heap.size C C (.slice A4 (C * C) c4') := by rw [hw9]; exact m68.put3 (by omega) _ _ _
      have o49 : Own w9 w2.heap.size (.slice A4 (C * C) c4') m7' := by rw [hw9]; exact o48.put3 (fun g h => by have := HA4.out g h; omega) _ _ _
      have h8 : ∀ g, (Value.slice A8 (R * C) c8').ownBlock = some g → w7.heap.size ≤ g ∧ g < w8.heap.size := fun g h => World.ownsRow.lt o8 g h
      have H8 := Lib.hid h8
      have o89 : Own w9 w7.heap.size (.slice A8 (R * C) c8') (trL C R m6') := by rw [hw9]; exact o8.put3 (fun g h => by have := H8.out g h; omega) _ _ _
      have ou9 : Own w9 B (.slice U m cu) u := by rw [hw9]; exact wk8.ou.put3 wk8.ub _ _ _
      have hs9 : w9.heap.size = w8.heap.size := by rw [hw9]; simp [World.setCell]
      have hb9 : Below B w w9 := by rw [hw9]; exact (((Below.trans (Below.trans hb2 (Below.mono g27 (by omega))) (Below.mono g8 (by omega))).setCell wk8.lo _).setCell wk8.lo _).setCell wk8.lo _
      have kp9 : ∀ x, x < w.heap.size → x ≠ b → w9.heap[x]? = w.heap[x]? := fun x hx hxb => by
        rw [hw9]
        exact (Below.heap_setCell _ _ _ _ hxb).trans ((Below.heap_setCell _ _ _ _ hxb).trans ((Below.heap_setCell _ _ _ _ hxb).trans ((g8.block x (by omega)).trans ((g27.block x (by omega)).trans (kp2.block x hx)))))
      have HW9 := Lib.hid hw9
      clear hw9 h8
      obtain ⟨y0, y1, y2⟩ := m69.cells
      have hgU : ∀ g, (Value.slice U m cu).ownBlock = some g → g < w2.heap.size := fun g h => (World.ownsRow.lt wk2.ou g h).2
      have HGU := Lib.hid hgU
      have HUB := Lib.hid wk2.ub
      have hlo := wk2.lo
      clear hgU
      go_upto_region 8 with fail
      rw [← HW9.out]
      clear d0 d1 d2 d3 d4 d5 d6 d7 d8 d9
      go_wp2_with fail
      refine (CT4.out _ _ _ (by first | rfl | trivial) o49.rd').mono ?_; rintro e w10 ⟨A10, c10', rfl, o10, g10⟩
      have hs10 := Below.size g10
      have bx10 := bx9.grows g10
      have cl := bx10.lt
      have cf := bx10.fz
      obtain ⟨d0, d1, d2, d3, d4, d5, d6, d7, d8, d9⟩ := bx10.cells
      have h10 : ∀ g, (Value.slice A10 (C * C) c10').ownBlock = some g → w9.heap.size ≤ g ∧ g < w10.heap.size := fun g h => World.ownsRow.lt o10 g h
      have H10 := Lib.hid h10
      clear h10 y0 y1 y2
      go_wp2_with fail
      go_end0
      have hn := HNN.out
      have hq := HQQ.out
      subst hn hq
      refine ⟨rfl, ⟨A8, A10, c8', c10', trL C R m6', trL C C m7', ⟨bx10.putV _, ((o89.grows g10).less (by omega)).put3 (fun g h => by have := H8.out g h; omega) _ _ _, (ou9.grows g10).put3 HUB.out _ _ _, (o10.less (by omega)).put3 (fun g h => by have := H10.out g h; omega) _ _ _, fun g h => by have := H8.out g h; omega, HUB.out, fun g h => by have := H10.out g h; omega, fun g h h2 => by have := H8.out g h; have := HGU.out g h2; omega, fun g h h2 => by have := H8.out g h; have := H10.out g h2; omega, fun g h h2 => by have := HGU.out g h; have := H10.out g h2; omega, hlo⟩, fun _ => ⟨rfl, rfl⟩, fun x hx _ _ => ⟨fun e => by have := H8.out x e; omega, fun e => by have := H10.out x e; omega⟩⟩, ?_, fun x hx hxb => (Below.heap_setCell _ _ _ _ hxb).trans ((Below.heap_setCell _ _ _ _ hxb).trans ((Below.heap_setCell _ _ _ _ hxb).trans ((g10.block x (by omega)).trans (kp9 x hx hxb))))⟩
      exact (((Below.trans hb9 (Below.mono g10 (by omega))).setCell hlo _).setCell hlo _).setCell hlo _
end
end Go.Proofs.Ytbfkpfdkndnhkaa

/- Contracts: a triple under work, the program's operations to its rows and columns. -/
namespace Go.Proofs.Ytbfkpfdkndnhkaa
set_option linter.unusedSimpArgs false
set_option linter.unusedVariables false
open Go.RowKit

def WkS (w : World) (B b R C : Nat) (s : L3) : Prop := ∃ (A U V : Option Addr) (ca cu cv : Nat), Wk w B b R C (R * C) (R * R) (C * C) A U V ca cu cv s.1 s.2.1 s.2.2 false
def WkT (w : World) (B b R C : Nat) : Prop := ∃ (A U V : Option Addr) (ca cu cv : Nat) (a u v : List Int), Wk w B b R C (R * C) (R * R) (C * C) A U V ca cu cv a u v true
def WkSO (w : World) (B b R C : Nat) (o : Option L3) : Prop := (∀ s, o = some s → WkS w B b R C s) ∧ (o = none → WkT w B b R C)
theorem WkS.grows {w w' : World} {B b R C : Nat} {s : L3} (h : WkS w B b R C s) (g : Grows w w') : WkS w' B b R C s := by
  obtain ⟨A, U, V, ca, cu, cv, h⟩ := h
  exact ⟨A, U, V, ca, cu, cv, h.grows g⟩
theorem WkT.grows {w w' : World} {B b R C : Nat} (h : WkT w B b R C) (g : Grows w w') : WkT w' B b R C := by
  obtain ⟨A, U, V, ca, cu, cv, a, u, v, h⟩ := h
  exact ⟨A, U, V, ca, cu, cv, a, u, v, h.grows g⟩
theorem WkSO.grows {w w' : World} {B b R C : Nat} {o : Option L3} (h : WkSO w B b R C o) (g : Grows w w') : WkSO w' B b R C o := ⟨fun s e => (h.1 s e).grows g, fun e => (h.2 e).grows g⟩
theorem WkS.toO {w : World} {B b R C : Nat} {s : L3} (h : WkS w B b R C s) : WkSO w B b R C (some s) := ⟨fun y hy => by cases hy; exact h, (fun hy => by cases hy)⟩
theorem WkT.toO {w : World} {B b R C : Nat} (h : WkT w B b R C) : WkSO w B b R C none := ⟨(fun y hy => by cases hy), fun _ => h⟩
theorem WkSO.some {w : World} {B b R C : Nat} {s : L3} (h : WkSO w B b R C (some s)) : WkS w B b R C s := h.1 s rfl
theorem WkSO.none {w : World} {B b R C : Nat} (h : WkSO w B b R C none) : WkT w B b R C := h.2 rfl
theorem WkO.toS {w : World} {B b R C : Nat} {A U V : Option Addr} {ca cu cv : Nat} {o : Option LL} {v : List Int} (h : WkO w B b R C (R * C) (R * R) (C * C) A U V ca cu cv o v) : WkSO w B b R C (o.map fun x => (x.1, x.2, v)) := by
  cases o with
  | none =>
    obtain ⟨a, u, wk⟩ := h.none
    exact (show WkT w B b R C from ⟨A, U, V, ca, cu, cv, a, u, v, wk⟩).toO
  | some x =>
    exact (show WkS w B b R C (x.1, x.2, v) from ⟨A, U, V, ca, cu, cv, h.some⟩).toO
theorem Ok3.two {R C : Nat} {s : L3} (h : Ok3 R C s) : Ok2 R C ((s.1, s.2.1) : LL) := ⟨h.l1, h.l2, h.n1, h.n2⟩
theorem fit3_addR {R C i j : Nat} {t : Int} {s : L3} (ok : Ok3 R C s) : fit3 (addR3 R C i j t s) = (addS R C i j t (s.1, s.2.1)).map fun x => (x.1, x.2, s.2.2) := by
  unfold fit3 thr addR3 addS two
  dsimp only
  rw [ok.n3, Bool.and_true]
  split <;> rfl
section
set_option maxHeartbeats 4000000
theorem addW3_c (R C B b i j : Nat) (t : Int) (s : L3) (w : World) (hR : R ≤ 24) (hC : C ≤ 24) (ok : Ok3 R C s) (hi : i < R) (hj : j < R) (hij : i ≠ j) (ht : isNum t = true) (wk : WkS w B b R C s) :
    Calls Try.prog 103 #[.pointer (some ⟨b, 0, none⟩), .int .i64 i, .int .i64 j, .int .i64 t] w fun e w' => e = .returned (.tuple #[]) ∧ WkSO w' B b R C (fit3 (addR3 R C i j t s)) ∧ Below B w w' := by
  obtain ⟨A, U, V, ca, cu, cv, wk⟩ := wk
  refine (addW_c R C (R * C) (R * R) (C * C) B b i j t A U V ca cu cv (s.1, s.2.1) s.2.2 w rfl rfl hR hC ok.two hi hj hij ht (Wk.toO (s := (s.1, s.2.1)) wk)).mono ?_
  rintro e w' ⟨rfl, h2, h3⟩
  exact ⟨rfl, by rw [fit3_addR ok]; exact h2.toS, h3⟩
theorem swpW3_c (R C B b i j : Nat) (s : L3) (w : World) (hR : R ≤ 24) (hC : C ≤ 24) (ok : Ok3 R C s) (hi : i < R) (hj : j < R) (hij : i ≠ j) (wk : WkS w B b R C s) :
    Calls Try.prog 104 #[.pointer (some ⟨b, 0, none⟩), .agg #[.int .i64 0, .int .i64 i, .int .i64 j, .int .i64 0]] w fun e w' => e = .returned (.tuple #[]) ∧ WkS w' B b R C (swpR3 R C i j s) ∧ Below B w w' := by
  obtain ⟨A, U, V, ca, cu, cv, wk⟩ := wk
  refine (swpR_c R C (R * C) (R * R) (C * C) B b i j A U V ca cu cv (s.1, s.2.1) s.2.2 w rfl rfl hR hC ok.two hi hj hij (Wk.toO (s := (s.1, s.2.1)) wk)).mono ?_
  rintro e w' ⟨rfl, h2, h3⟩
  exact ⟨rfl, h2.toS.some, h3⟩
theorem negW3_c (R C B b i : Nat) (s : L3) (w : World) (hR : R ≤ 24) (hC : C ≤ 24) (ok : Ok3 R C s) (hi : i < R) (wk : WkS w B b R C s) :
    Calls Try.prog 104 #[.pointer (some ⟨b, 0, none⟩), .agg #[.int .i64 1, .int .i64 i, .int .i64 i, .int .i64 0]] w fun e w' => e = .returned (.tuple #[]) ∧ WkS w' B b R C (negR3 R C i s) ∧ Below B w w' := by
  obtain ⟨A, U, V, ca, cu, cv, wk⟩ := wk
  refine (negR_c R C (R * C) (R * R) (C * C) B b i A U V ca cu cv (s.1, s.2.1) s.2.2 w rfl rfl hR hC ok.two hi (Wk.toO (s := (s.1, s.2.1)) wk)).mono ?_
  rintro e w' ⟨rfl, h2, h3⟩
  exact ⟨rfl, h2.toS.some, h3⟩
theorem addC3_c (R C B b i j : Nat) (t : Int) (s : L3) (w : World) (hR : R ≤ 24) (hC : C ≤ 24) (ok : Ok3 R C s) (hi : i < C) (hj : j < C) (hij : i ≠ j) (ht : isNum t = true) (wk : WkS w B b R C s) :
    Calls Try.prog 185 #[.pointer (some ⟨b, 0, none⟩), .agg #[.int .i64 2, .int .i64 i, .int .i64 j, .int .i64 t]] w fun e w' => e = .returned (.tuple #[]) ∧ WkSO w' B b R C (fit3 (addC3 R C i j t s)) ∧ Below B w w' := by
  obtain ⟨A, U, V, ca, cu, cv, wk⟩ := wk
  have e1 : trL C R (addT C R i j t (trL R C s.1)) = addCT R C i j t s.1 := addCT_tr hi hj
  have e2 : trL C C (addT C C i j t (trL C C s.2.2)) = addCT C C i j t s.2.2 := addCT_tr hi hj
  have e3 : allNum (addT C R i j t (trL R C s.1)) = allNum (addCT R C i j t s.1) := by rw [← e1, trL_num' (addT_length _ _ _ _ _ _)]
  have e4 : allNum (addT C C i j t (trL C C s.2.2)) = allNum (addCT C C i j t s.2.2) := by rw [← e2, trL_num' (addT_length _ _ _ _ _ _)]
  refine (cols_c R C (R * C) (R * R) (C * C) B b A U V ca cu cv 2 i j t s.1 s.2.1 s.2.2 (addT C R i j t (trL R C s.1)) (addT C C i j t (trL C C s.2.2)) (allNum (addT C R i j t (trL R C s.1))) (allNum (addT C C i j t (trL C C s.2.2))) w wk rfl rfl hR hC ok.l1 ok.l3 ok.n1 ok.n3 (addT_length _ _ _ _ _ _) (addT_length _ _ _ _ _ _) (fun h => h) (fun h => h)
    (fun W => isAdd_c C i j t W hC hi hj hij ht)
    (fun W B' A' c' o => iAddOp_c C R A' _ (C * R) c' i j B' t W rfl hC hR o (trL_num ok.l1 ok.n1) hi hj ht)
    (fun W B' A' c' o => iAddOp_c C C A' _ (C * C) c' i j B' t W rfl hC hC o (trL_num ok.l3 ok.n3) hi hj ht)).mono ?_
  rintro e w' ⟨rfl, ⟨A', V', ca', cv', a', v', wk', hav, _⟩, b3, _⟩
  refine ⟨rfl, ?_, b3⟩
  rw [e3, e4] at wk' hav
  have ef : fit3 (addC3 R C i j t s) = if allNum (addCT R C i j t s.1) && allNum (addCT C C i j t s.2.2) then some (addC3 R C i j t s) else none := by
    unfold fit3 thr addC3
    dsimp only
    rw [ok.n2, Bool.true_and]
  rw [ef]
  cases hk : allNum (addCT R C i j t s.1) && allNum (addCT C C i j t s.2.2)
  · rw [hk] at wk'
    exact (show WkT _ B b R C from ⟨_, _, _, _, _, _, _, _, _, wk'⟩).toO
  · obtain ⟨rfl, rfl⟩ := hav hk
    rw [hk, e1, e2] at wk'
    exact (show WkS _ B b R C (addC3 R C i j t s) from ⟨_, _, _, _, _, _, wk'⟩).toO
theorem swpC3_c (R C B b i j : Nat) (s : L3) (w : World) (hR : R ≤ 24) (hC : C ≤ 24) (ok : Ok3 R C s) (hi : i < C) (hj : j < C) (hij : i ≠ j) (wk : WkS w B b R C s) :
    Calls Try.prog 185 #[.pointer (some ⟨b, 0, none⟩), .agg #[.int .i64 0, .int .i64 i, .int .i64 j, .int .i64 0]] w fun e w' => e = .returned (.tuple #[]) ∧ WkS w' B b R C (swpC3 R C i j s) ∧ Below B w w' := by
  obtain ⟨A, U, V, ca, cu, cv, wk⟩ := wk
  have e1 : trL C R (swpT C R i j (trL R C s.1)) = swpCT R C i j s.1 := swpCT_tr hi hj
  have e2 : trL C C (swpT C C i j (trL C C s.2.2)) = swpCT C C i j s.2.2 := swpCT_tr hi hj
  refine (cols_c R C (R * C) (R * R) (C * C) B b A U V ca cu cv 0 i j 0 s.1 s.2.1 s.2.2 (swpT C R i j (trL R C s.1)) (swpT C C i j (trL C C s.2.2)) true true w wk rfl rfl hR hC ok.l1 ok.l3 ok.n1 ok.n3 (swpT_length _ _ _ _ _) (swpT_length _ _ _ _ _) (fun _ => swpT_num (trL_length _ _ _) hi hj (trL_num ok.l1 ok.n1)) (fun _ => swpT_num (trL_length _ _ _) hi hj (trL_num ok.l3 ok.n3))
    (fun W => isSwp_c C i j W hC hi hj hij)
    (fun W B' A' c' o => iSwpOp_c C R A' _ (C * R) c' i j B' W rfl hC hR o (trL_num ok.l1 ok.n1) hi hj hij)
    (fun W B' A' c' o => iSwpOp_c C C A' _ (C * C) c' i j B' W rfl hC hC o (trL_num ok.l3 ok.n3) hi hj hij)).mono ?_
  rintro e w' ⟨rfl, ⟨A', V', ca', cv', a', v', wk', hav, _⟩, b3, _⟩
  refine ⟨rfl, ?_, b3⟩
  obtain ⟨rfl, rfl⟩ := hav rfl
  rw [e1, e2] at wk'
  exact ⟨_, _, _, _, _, _, wk'⟩
end
end Go.Proofs.Ytbfkpfdkndnhkaa

/- Contract: the place of the least cell, the program's. -/
namespace Go.Proofs.Ytbfkpfdkndnhkaa
set_option linter.unusedSimpArgs false
set_option linter.unusedVariables false
open Go.RowKit

def encR (o : Option Pl) : Int := match o with | none => -1 | some q => q.1
def encC (o : Option Pl) : Int := match o with | none => -1 | some q => q.2
theorem lsJ_next {C t i J : Nat} {a : List Int} {o : Option Pl} (h : t ≤ J) : lsJ C t a i o (J + 1 - t) = bt C a (lsJ C t a i o (J - t)) i J := by
  rw [show J + 1 - t = (J - t) + 1 by omega, lsJ, show t + (J - t) = J by omega]
theorem lsI_next {C t I : Nat} {a : List Int} (h : t ≤ I) : lsI C t a (I + 1 - t) = lsJ C t a I (lsI C t a (I - t)) (C - t) := by
  rw [show I + 1 - t = (I - t) + 1 by omega, lsI, show t + (I - t) = I by omega]
theorem lsJ_zero {C t i J : Nat} {a : List Int} {o : Option Pl} (h : t ≤ J) (hz : nth a (i * C + J) = 0) : lsJ C t a i o (J + 1 - t) = lsJ C t a i o (J - t) := by
  rw [lsJ_next h]; unfold bt; rw [if_pos hz]
theorem lsJ_first {C t i J : Nat} {a : List Int} {o : Option Pl} (h : t ≤ J) (hz : nth a (i * C + J) ≠ 0) (hb : lsJ C t a i o (J - t) = none) : lsJ C t a i o (J + 1 - t) = some (i, J) := by
  rw [lsJ_next h]; unfold bt; rw [if_neg hz, hb]
theorem lsJ_less {C t i J : Nat} {a : List Int} {o : Option Pl} {q : Pl} (h : t ≤ J) (hz : nth a (i * C + J) ≠ 0) (hb : lsJ C t a i o (J - t) = some q) (hc : absI (nth a (i * C + J)) < absI (nth a (q.1 * C + q.2))) : lsJ C t a i o (J + 1 - t) = some (i, J) := by
  rw [lsJ_next h]; unfold bt; rw [if_neg hz, hb]; dsimp only; rw [if_pos hc]
theorem lsJ_more {C t i J : Nat} {a : List Int} {o : Option Pl} {q : Pl} (h : t ≤ J) (hz : nth a (i * C + J) ≠ 0) (hb : lsJ C t a i o (J - t) = some q) (hc : ¬ absI (nth a (i * C + J)) < absI (nth a (q.1 * C + q.2))) : lsJ C t a i o (J + 1 - t) = some q := by
  rw [lsJ_next h]; unfold bt; rw [if_neg hz, hb]; dsimp only; rw [if_neg hc]
theorem lsJ_in {R C t I J : Nat} {a : List Int} {q : Pl} (hI : t ≤ I) (hR : I < R) (hJ : J ≤ C) (h : lsJ C t a I (lsI C t a (I - t)) (J - t) = some q) : q.1 < R ∧ q.2 < C := by
  have L := (LI.lsI (C := C) (t := t) a (I - t)).lsJ (i := I) (fun e => by subst e; rw [Nat.sub_self]; rfl) (fun j hv => by omega) (J - t)
  obtain ⟨hv, _⟩ := L.yes q h
  rcases hv with hv | hv
  · exact ⟨by omega, by omega⟩
  · exact ⟨by omega, by omega⟩
section
set_option maxHeartbeats 4000000
set_option maxRecDepth 100000
theorem lstFrom_c (R C B b t : Nat) (s : L3) (w : World) (hR : R ≤ 24) (hC : C ≤ 24) (ok : Ok3 R C s) (htR : t ≤ R) (htC : t ≤ C) (ws : WkS w B b R C s) :
    Calls Try.prog 164 #[.pointer (some ⟨b, 0, none⟩), .int .i64 t] w fun e w' => e = .returned (.tuple #[.int .i64 (encR (lst R C t s.1)), .int .i64 (encC (lst R C t s.1)), .bool (lst R C t s.1).isSome]) ∧ Grows w w' := by
  obtain ⟨A, U, V, ca, cu, cv, wk⟩ := ws
  obtain ⟨a, ha⟩ : ∃ a, a = s.1 := ⟨_, rfl⟩
  have hl := ok.l1
  have hnum := (allNum_iff _).1 ok.n1
  have hoa := wk.oa
  have bx1 := wk.bx
  rw [← ha] at hl hnum hoa ⊢
  obtain ⟨LR, hLR⟩ : ∃ x, x = lst R C t a := ⟨_, rfl⟩
  rw [← hLR]
  have HLR := Lib.hid hLR
  clear hLR
  have ha1 := hoa.rd'
  have hRC : R * C ≤ 576 := Nat.mul_le_mul hR hC
  have HB : ∀ i, i < R → i * C ≤ 576 := fun i hi => by have := Nat.mul_le_mul_right C (Nat.le_of_lt hi); omega
  have CC := Lib.hid fun (i j : Nat) (hi : i < R) (hj : j < C) W h => at_c R C A a (R * C) ca i j W hl h (castMul i C) (by have := castMulLe (HB i hi); omega) (castPos i C j) (castLt (by rw [hl]; exact idx_lt hi hj)) (by rw [hl]; omega)
  have HNUM := Lib.hid fun i j (hi : i < R) (hj : j < C) => (isNum_iff _).1 (hnum (i * C + j) (by rw [hl]; exact idx_lt hi hj))
  have HP := Lib.hid fun I J q h1 h2 h3 h => lsJ_in (R := R) (C := C) (t := t) (I := I) (J := J) (a := a) (q := q) h1 h2 h3 h
  clear hl hnum HB wk ok ha hoa
  go_enter Try.func164, Try.ntmps164
  go_wp2_with fail
  go_loopw [7, 8, 9] (fun p q i wr => ∃ (I : Nat), i = .int .i64 I ∧ t ≤ I ∧ I ≤ R ∧ p = .int .i64 (encR (lsI C t a (I - t))) ∧ q = .int .i64 (encC (lsI C t a (I - t))) ∧ Grows w wr) (fun _ _ i _ => R - (intOf i).toNat)
  case atStart => exact ⟨t, rfl, Nat.le_refl _, htR, by rw [Nat.sub_self]; rfl, by rw [Nat.sub_self]; rfl, by exact bel0⟩
  case round =>
    obtain ⟨I, rfl, hIt, hI, rfl, rfl, hgi⟩ := hrel
    obtain ⟨wo, rfl⟩ : ∃ wo : World, wo = wr := ⟨_, rfl⟩
    have bxi := bx1.grows hgi
    obtain ⟨b0, b1, b2, b3, b4, b5, b6, b7, b8, b9⟩ := bxi.cells
    have bl := bxi.lt
    by_cases hlt : I < R
    · have hlt' : (I : Int) < (R : Int) := by omega
      have HNI := Lib.hid (lsI_next (C := C) (a := a) hIt)
      obtain ⟨o, ho⟩ : ∃ o, o = lsI C t a (I - t) := ⟨_, rfl⟩
      have HP' := Lib.hid fun J q h3 h => HP.out I J q hIt hlt h3 h
      rw [← ho] at HP' HNI ⊢
      clear ho
      go_wp2_with fail
      go_loopw [7, 8, 10] (fun p q j wr => ∃ (J : Nat), j = .int .i64 J ∧ t ≤ J ∧ J ≤ C ∧ p = .int .i64 (encR (lsJ C t a I o (J - t))) ∧ q = .int .i64 (encC (lsJ C t a I o (J - t))) ∧ Grows wo wr) (fun _ _ j _ => C - (intOf j).toNat)
      case atStart => exact ⟨t, rfl, Nat.le_refl _, htC, by rw [Nat.sub_self]; rfl, by rw [Nat.sub_self]; rfl, by exact bel0⟩
      case round =>
        clear b0 b1 b2 b3 b4 b5 b6 b7 b8 b9 bl
        obtain ⟨J, rfl, hJt, hJ, rfl, rfl, hg⟩ := hrel
        have bx := bxi.grows hg
        have hd : Rd wr A a := (ha1.grows hgi).grows hg
        obtain ⟨b0, b1, b2, b3, b4, b5, b6, b7, b8, b9⟩ := bx.cells
        have bl := bx.lt
        by_cases hltj : J < C
        · have hltj' : (J : Int) < (C : Int) := by omega
          have C1 := fun W h => CC.out I J hlt hltj W h
          have X1 := Lib.hid fun W => absInt_c (nth a (I * C + J)) W (by have := HNUM.out I J hlt hltj; omega)
          rw [castIdx] at C1
          have C1' := Lib.hid C1
          clear C1
          by_cases hx : nth a (I * C + J) = 0
          · have HX := Lib.hid (lsJ_zero (i := I) (o := o) hJt hx)
            rw [hx] at C1' X1
            rw [show absI 0 = 0 from rfl] at X1
            clear hx
            generalize lsJ C t a I o (J - t) = bb at *
            go_wp2_with fail
            refine (C1'.out _ (by exact (Rd.grows hd (by exact bel0)))).mono ?_; rintro e w3 ⟨rfl, g3⟩
            go_wp2_with fail
            refine (X1.out _).mono ?_; rintro e w' ⟨rfl, rfl⟩
            go_wp2_with fail
            go_round
            case rel => exact ⟨J + 1, by go_num, by omega, by omega, by rw [HX.out], by rw [HX.out], by exact bel2 g3 hg⟩
            case measure => simp [intOf]; omega
          · have hx' : (absI (nth a (I * C + J)) != 0) = true := by
              rw [bne_iff_ne]; unfold absI; split <;> omega
            obtain ⟨bb, hbb⟩ : ∃ bb, bb = encR (lsJ C t a I o (J - t)) := ⟨_, rfl⟩
            obtain ⟨cc, hcc⟩ : ∃ cc, cc = encC (lsJ C t a I o (J - t)) := ⟨_, rfl⟩
            rw [← hbb, ← hcc]
            cases hb : lsJ C t a I o (J - t) with
            | none =>
              rw [hb] at hbb hcc
              obtain rfl : bb = -1 := hbb
              obtain rfl : cc = -1 := hcc
              have HX := Lib.hid (lsJ_first hJt hx hb)
              clear hx hb
              generalize absI (nth a (I * C + J)) = x1 at *
              generalize nth a (I * C + J) = x at *
              go_wp2_with fail
              refine (C1'.out _ (by exact (Rd.grows hd (by exact bel0)))).mono ?_; rintro e w3 ⟨rfl, g3⟩
              go_wp2_with fail
              refine (X1.out _).mono ?_; rintro e w' ⟨rfl, rfl⟩
              go_wp2_with fail
              go_round
              case rel => exact ⟨J + 1, by go_num, by omega, by omega, by rw [HX.out]; rfl, by rw [HX.out]; rfl, by exact bel2 g3 hg⟩
              case measure => simp [intOf]; omega
            | some q =>
              obtain ⟨p1, p2⟩ := q
              rw [hb] at hbb hcc
              obtain rfl : bb = (p1 : Int) := hbb
              obtain rfl : cc = (p2 : Int) := hcc
              obtain ⟨h1, h2⟩ := HP'.out J (p1, p2) hJ hb
              simp only at h1 h2
              have hp0 : decide (((p1 : Nat) : Int) < 0) = false := by rw [decide_eq_false_iff_not]; omega
              have C2 := fun W h => CC.out p1 p2 h1 h2 W h
              have X2 := Lib.hid fun W => absInt_c (nth a (p1 * C + p2)) W (by have := HNUM.out p1 p2 h1 h2; omega)
              rw [castIdx] at C2
              have C2' := Lib.hid C2
              clear C2 h1 h2
              by_cases hc : absI (nth a (I * C + J)) < absI (nth a (p1 * C + p2))
              · have HX := Lib.hid (lsJ_less hJt hx hb hc)
                clear hx hb
                generalize absI (nth a (I * C + J)) = x1 at *
                generalize absI (nth a (p1 * C + p2)) = y1 at *
                generalize nth a (I * C + J) = x at *
                generalize nth a (p1 * C + p2) = y at *
                go_wp2_with fail
                refine (C1'.out _ (by exact (Rd.grows hd (by exact bel0)))).mono ?_; rintro e w3 ⟨rfl, g3⟩
                clear b0 b1 b2 b3 b4 b5 b6 b7 b8 b9 bl
                replace bx := bx.grows (w' := w3) (by exact bel1 g3)
                replace hd : Rd w3 A a := hd.grows (by exact bel1 g3)
                obtain ⟨b0, b1, b2, b3, b4, b5, b6, b7, b8, b9⟩ := bx.cells
                have bl := bx.lt
                go_wp2_with fail
                refine (X1.out _).mono ?_; rintro e w' ⟨rfl, rfl⟩
                go_wp2_with fail
                refine (C2'.out _ (by exact (Rd.grows hd (by exact bel0)))).mono ?_; rintro e w4 ⟨rfl, g4⟩
                go_wp2_with fail
                refine (X2.out _).mono ?_; rintro e w' ⟨rfl, rfl⟩
                go_wp2_with fail
                go_round
                case rel => exact ⟨J + 1, by go_num, by omega, by omega, by rw [HX.out]; rfl, by rw [HX.out]; rfl, by exact bel3 g4 g3 hg⟩
                case measure => simp [intOf]; omega
              · have HX := Lib.hid (lsJ_more hJt hx hb hc)
                clear hx hb
                generalize absI (nth a (I * C + J)) = x1 at *
                generalize absI (nth a (p1 * C + p2)) = y1 at *
                generalize nth a (I * C + J) = x at *
                generalize nth a (p1 * C + p2) = y at *
                go_wp2_with fail
                refine (C1'.out _ (by exact (Rd.grows hd (by exact bel0)))).mono ?_; rintro e w3 ⟨rfl, g3⟩
                clear b0 b1 b2 b3 b4 b5 b6 b7 b8 b9 bl
                replace bx := bx.grows (w' := w3) (by exact bel1 g3)
                replace hd : Rd w3 A a := hd.grows (by exact bel1 g3)
                obtain ⟨b0, b1, b2, b3, b4, b5, b6, b7, b8, b9⟩ := bx.cells
                have bl := bx.lt
                go_wp2_with fail
                refine (X1.out _).mono ?_; rintro e w' ⟨rfl, rfl⟩
                go_wp2_with fail
                refine (C2'.out _ (by exact (Rd.grows hd (by exact bel0)))).mono ?_; rintro e w4 ⟨rfl, g4⟩
                go_wp2_with fail
                refine (X2.out _).mono ?_; rintro e w' ⟨rfl, rfl⟩
                go_wp2_with fail
                go_round
                case rel => exact ⟨J + 1, by go_num, by omega, by omega, by rw [HX.out]; rfl, by rw [HX.out]; rfl, by exact bel3 g4 g3 hg⟩
                case measure => simp [intOf]; omega
        · obtain rfl : J = C := by omega
          have HNI' := Lib.hid HNI.out
          generalize lsJ J t a I o (J - t) = bb at *
          go_wp2_with fail
          go_round
          case rel => exact ⟨I + 1, by go_num, by omega, by omega, by rw [HNI.out], by rw [HNI.out], by exact bel2 hg hgi⟩
          case measure => simp [intOf]; omega
    · obtain rfl : I = R := by omega
      have HE := Lib.hid (show LR = lsI C t a (I - t) from HLR.out)
      cases hbb : lsI C t a (I - t) with
      | none =>
        have e1 : encR none = -1 := rfl
        have e2 : encC none = -1 := rfl
        rw [e1, e2]
        obtain rfl : LR = none := HE.out.trans hbb
        clear hbb e1 e2
        go_wp2_with fail
        refine bodyPost_ret (v := .tuple #[.int .i64 (-1), .int .i64 (-1), .bool false]) ?_ rfl ?_
        · simp [results, Try.results164, go_sem]
        · exact ⟨rfl, by exact bel1 hgi⟩
      | some q =>
        obtain ⟨p1, p2⟩ := q
        have e1 : encR (some (p1, p2)) = (p1 : Int) := rfl
        have e2 : encC (some (p1, p2)) = (p2 : Int) := rfl
        rw [e1, e2]
        have hp0 : (0 : Int) ≤ (p1 : Int) := by omega
        obtain rfl : LR = some (p1, p2) := HE.out.trans hbb
        clear hbb e1 e2
        go_wp2_with fail
        refine bodyPost_ret (v := .tuple #[.int .i64 p1, .int .i64 p2, .bool true]) ?_ rfl ?_
        · simp [results, Try.results164, go_sem]
        · exact ⟨rfl, by exact bel1 hgi⟩
end
end Go.Proofs.Ytbfkpfdkndnhkaa
