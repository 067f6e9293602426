/- Matrices as one value each; contracts of functions that return a matrix and whether there is one. -/
import Derived.Test.YtpfijhcjempfjaaGramOf
import Derived.Test.YtpfijhcjempfjaaDist
namespace Go.Proofs.Ytpfijhcjempfjaa
open Go.RowKit

structure MX where
  r : Int
  c : Int
  l : List Int
def MX.nil : MX := ⟨0, 0, []⟩
def MX.ok (m : MX) : Bool := isMat m.r m.c m.l
def oM (o : Option MX) : MX := o.getD MX.nil
theorem oM_some (m : MX) : oM (some m) = m := rfl
theorem oM_none : oM none = MX.nil := rfl
/-- the answer is the matrix m, in memory of its own, and the bool ok -/
def MatR (m : MX) (ok : Bool) (w : World) (e : Ending) (w' : World) : Prop :=
  ∃ v, e = .returned (.tuple #[.agg #[.int .i64 m.r, .int .i64 m.c, v], .bool ok]) ∧ Own w' w.heap.size v m.l ∧ Grows w w'
def MatRet (o : Option MX) (w : World) (e : Ending) (w' : World) : Prop := MatR (oM o) o.isSome w e w'
/-- the answer is the matrix m, in memory of its own -/
def Mat1 (m : MX) (w : World) (e : Ending) (w' : World) : Prop :=
  ∃ v, e = .returned (.agg #[.int .i64 m.r, .int .i64 m.c, v]) ∧ Own w' w.heap.size v m.l ∧ Grows w w'

theorem matRet_out {o : Option MX} {w w' : World} {e : Ending} (h : MatRet o w e w') : ∃ v, e = .returned (.tuple #[.agg #[.int .i64 (oM o).r, .int .i64 (oM o).c, v], .bool o.isSome]) ∧ Own w' w.heap.size v (oM o).l ∧ Grows w w' := h

def trM (m : MX) : MX := ⟨m.c, m.r, trL m.r.toNat m.c.toNat m.l⟩
def trO (m : MX) : Option MX := if m.ok then some (trM m) else none
def mulO (a b : MX) : Option MX := if mulOk a.r a.c a.l b.r b.c b.l then some ⟨a.r, b.c, mulL a.r.toNat a.c.toNat b.c.toNat a.l b.l⟩ else none
theorem mulO_no {a b : MX} (h : a.ok = false) : mulO a b = none := by
  unfold mulO; rw [if_neg]; unfold MX.ok at h; unfold mulOk; rw [h]; simp
theorem mulO_eq (a b : MX) : (oM (mulO a b)).r = mulR a.r a.c a.l b.r b.c b.l ∧ (oM (mulO a b)).c = mulC a.r a.c a.l b.r b.c b.l ∧ (oM (mulO a b)).l = mulV a.r a.c a.l b.r b.c b.l ∧ (mulO a b).isSome = mulOk a.r a.c a.l b.r b.c b.l := by
  unfold mulO mulR mulC mulV
  cases mulOk a.r a.c a.l b.r b.c b.l <;> simp [oM, MX.nil]
theorem isMat_ok {m : MX} (h : m.ok = true) : ∃ R C : Nat, m.r = (R : Int) ∧ m.c = (C : Int) ∧ R ≤ 24 ∧ C ≤ 24 ∧ m.l.length = R * C ∧ ∀ i, i < m.l.length → isNum (nth m.l i) = true := isMat_nat h
theorem oM_length {o : Option MX} (h : ∀ m, o = some m → m.ok = true) : (oM o).l.length ≤ 576 := by
  cases o with
  | none => simp [oM, MX.nil]
  | some m =>
    obtain ⟨R, C, _, _, h1, h2, h3, _⟩ := isMat_ok (h m rfl)
    have := Nat.mul_le_mul h1 h2
    show m.l.length ≤ 576
    omega
theorem mulO_ok {a b m : MX} (h : mulO a b = some m) : m.ok = true := by
  unfold mulO at h
  split at h
  · rename_i hm
    cases h
    unfold mulOk at hm
    simp only [Bool.and_eq_true] at hm
    obtain ⟨⟨⟨h1, h2⟩, h3⟩, h4⟩ := hm
    obtain ⟨R, C, e1, e2, hR, hC, _, _⟩ := isMat_nat h1
    obtain ⟨R', C', e3, e4, hR', hC', _, _⟩ := isMat_nat h2
    unfold MX.ok
    simp only [e1, e2, e4, Int.toNat_natCast] at h4 ⊢
    rw [isMat_made hR hC' (mulL_length _ _ _ _ _)]
    exact h4
  · cases h
theorem trM_ok {m : MX} (h : m.ok = true) : (trM m).ok = true := by
  obtain ⟨R, C, e1, e2, _⟩ := isMat_ok h
  unfold MX.ok at *
  unfold trM
  simp only [e1, e2, Int.toNat_natCast] at h ⊢
  exact isMat_tr h
theorem trO_ok {a m : MX} (h : trO a = some m) : m.ok = true := by
  unfold trO at h
  split at h
  · cases h; exact trM_ok ‹_›
  · cases h

section
set_option maxHeartbeats 1000000
theorem iTr_m (r c : Int) (A : Option Addr) (l : List Int) (n cap : Nat) (w : World) (hn : l.length = n) (ha : Rd w A l) (hl : n ≤ 1099511627776) :
    Calls Try.prog 56 #[.agg #[.int .i64 r, .int .i64 c, .slice A n cap]] w (MatRet (trO ⟨r, c, l⟩) w) := by
  cases hm : isMat r c l
  · have e : trO ⟨r, c, l⟩ = none := by unfold trO MX.ok; simp [hm]
    rw [e]
    exact (iTransposeOf_no r c A l n cap w hn ha hl hm).mono fun e w' ⟨h1, h2⟩ => ⟨_, h1, Own.nil _ _, h2⟩
  · obtain ⟨R, C, rfl, rfl, hR, hC, hlen, hnum⟩ := isMat_nat hm
    have e : trO ⟨R, C, l⟩ = some ⟨C, R, trL R C l⟩ := by unfold trO MX.ok trM; simp [hm]
    rw [e]
    exact iTransposeOf_yes R C A l n cap w hn ha hm
theorem iMul_m (r c r' c' : Int) (A B : Option Addr) (a b : List Int) (n m ca cb : Nat) (w : World) (hn : a.length = n) (hm : b.length = m) (ha : Rd w A a) (hb : Rd w B b) (hl : n ≤ 1099511627776) (hl2 : m ≤ 1099511627776) :
    Calls Try.prog 58 #[.agg #[.int .i64 r, .int .i64 c, .slice A n ca], .agg #[.int .i64 r', .int .i64 c', .slice B m cb]] w (MatRet (mulO ⟨r, c, a⟩ ⟨r', c', b⟩) w) := by
  obtain ⟨e1, e2, e3, e4⟩ := mulO_eq ⟨r, c, a⟩ ⟨r', c', b⟩
  unfold MatRet MatR
  rw [e1, e2, e3, e4]
  exact iMul_c r c r' c' A B a b n m ca cb w hn hm ha hb hl hl2
theorem sMul_m (r c r' c' : Int) (A B : Option Addr) (a b : List Int) (n m ca cb : Nat) (w : World) (hn : a.length = n) (hm : b.length = m) (ha : Rd w A a) (hb : Rd w B b) (hl : n ≤ 1099511627776) (hl2 : m ≤ 1099511627776) :
    Calls Try.prog 54 #[.agg #[.int .i64 r, .int .i64 c, .slice A n ca], .agg #[.int .i64 r', .int .i64 c', .slice B m cb]] w (MatRet (mulO ⟨r, c, a⟩ ⟨r', c', b⟩) w) := by
  obtain ⟨e1, e2, e3, e4⟩ := mulO_eq ⟨r, c, a⟩ ⟨r', c', b⟩
  unfold MatRet MatR
  rw [e1, e2, e3, e4]
  exact sMul_c r c r' c' A B a b n m ca cb w hn hm ha hb hl hl2
/-- the variables of a function with two matrices and a matrix to return -/
theorem two_mats (w : World) (r c r' c' : Int) (u v : Value) :
    ∃ w1, w1 = ((w.alloc (.cells #[.int .i64 r, .int .i64 c, u] 26)).alloc (.cells #[.int .i64 r', .int .i64 c', v] 26)).alloc (.cells #[.int .i64 0, .int .i64 0, .slice none 0 0] 26) ∧
      MBox w1 w.heap.size r c u ∧ MBox w1 (w.heap.size + 1) r' c' v ∧ MBox w1 (w.heap.size + 1 + 1) 0 0 (.slice none 0 0) ∧ w1.heap.size = w.heap.size + 3 ∧ Grows w w1 :=
  ⟨_, rfl, ((MBox.mk_ _ _ _ _ _).grows ((Below.refl _ _).alloc (Nat.le_refl _) _)).grows ((Below.refl _ _).alloc (Nat.le_refl _) _), (by
    have := (MBox.mk_ (w.alloc (.cells #[.int .i64 r, .int .i64 c, u] 26)) r' c' v 26).grows ((Below.refl _ _).alloc (Nat.le_refl _) (.cells #[.int .i64 0, .int .i64 0, .slice none 0 0] 26))
    simpa using this), (by
    have := MBox.mk_ ((w.alloc (.cells #[.int .i64 r, .int .i64 c, u] 26)).alloc (.cells #[.int .i64 r', .int .i64 c', v] 26)) 0 0 (.slice none 0 0) 26
    simpa using this), by simp, by ((repeat' (first | with_reducible exact Below.refl _ _ | with_reducible assumption | (with_reducible refine Below.setCell ?_ ?_ _) | (with_reducible refine Below.alloc ?_ ?_ _) | (with_reducible refine Below.drew ?_) | (with_reducible refine below_drewN ?_ _))); all_goals (first | omega | (simp; done) | (simp; omega) | (simp [*]; done) | (simp at *; omega)))⟩
/-- .. with one -/
theorem one_mat (w : World) (r c : Int) (u : Value) :
    ∃ w1, w1 = (w.alloc (.cells #[.int .i64 r, .int .i64 c, u] 26)).alloc (.cells #[.int .i64 0, .int .i64 0, .slice none 0 0] 26) ∧
      MBox w1 w.heap.size r c u ∧ MBox w1 (w.heap.size + 1) 0 0 (.slice none 0 0) ∧ w1.heap.size = w.heap.size + 2 ∧ Grows w w1 :=
  ⟨_, rfl, (MBox.mk_ _ _ _ _ _).grows ((Below.refl _ _).alloc (Nat.le_refl _) _), (by
    have := MBox.mk_ (w.alloc (.cells #[.int .i64 r, .int .i64 c, u] 26)) 0 0 (.slice none 0 0) 26
    simpa using this), by simp, by ((repeat' (first | with_reducible exact Below.refl _ _ | with_reducible assumption | (with_reducible refine Below.setCell ?_ ?_ _) | (with_reducible refine Below.alloc ?_ ?_ _) | (with_reducible refine Below.drew ?_) | (with_reducible refine below_drewN ?_ _))); all_goals (first | omega | (simp; done) | (simp; omega) | (simp [*]; done) | (simp at *; omega)))⟩
end
end Go.Proofs.Ytpfijhcjempfjaa
