/- Contracts and lemmas, put together. -/
import Derived.Test.YtpgoefdeodoacaaPkC
import Derived.Test.YtpgoefdeodoacaaPkL
import Derived.Test.YtpgoefdeodoacaaQLawKitQ
/- Contracts: a coefficient of the account. -/
namespace Go.Proofs.Ytpgoefdeodoacaa
set_option linter.unusedSimpArgs false
set_option linter.unusedVariables false
open Go.RowKit

def cofO (g : MX) (i j : Int) : Option Q2 :=
  if isDef g.r g.c g.l && (decide (0 ≤ i) && decide (i < g.r) && decide (0 ≤ j) && decide (j < i)) then
    (accF g.r.toNat g.l g.r.toNat).bind fun s => if okQ (nthQ (s.1.getD i.toNat []) j.toNat) then some (nthQ (s.1.getD i.toNat []) j.toNat) else none
  else none
theorem cofO_no {g : MX} {i j : Int} (h : isDef g.r g.c g.l = false ∨ i < 0 ∨ g.r ≤ i ∨ j < 0 ∨ i ≤ j) : cofO g i j = none := by
  unfold cofO
  rw [if_neg]
  simp only [Bool.and_eq_true, decide_eq_true_eq]
  rcases h with h | h
  · simp [h]
  · omega
theorem cofO_yes {R I J : Nat} {l : List Int} (h : isDef R R l = true) (h1 : I < R) (h2 : J < I) : cofO ⟨R, R, l⟩ I J = (accF R l R).bind fun s => if okQ (nthQ (s.1.getD I []) J) then some (nthQ (s.1.getD I []) J) else none := by
  unfold cofO
  rw [if_pos]
  · simp only [Int.toNat_natCast]
  · simp only [Bool.and_eq_true, decide_eq_true_eq]
    exact ⟨h, by omega, by omega⟩
def oQ (o : Option Q2) : Q2 := o.getD (0, 0)
/-- the answer is a fraction, and whether there is one -/
def QORet (o : Option Q2) (w : World) (e : Ending) (w' : World) : Prop := e = .returned (.tuple #[.agg #[.int .i64 (oQ o).1, .int .i64 (oQ o).2], .bool o.isSome]) ∧ Grows w w'
theorem qoRet_out {o : Option Q2} {w w' : World} {e : Ending} (h : QORet o w e w') : e = .returned (.tuple #[.agg #[.int .i64 (oQ o).1, .int .i64 (oQ o).2], .bool o.isSome]) ∧ Grows w w' := h
theorem isDef_nat {r c : Int} {l : List Int} (h : isDef r c l = true) : ∃ R : Nat, r = R ∧ c = R ∧ R ≤ 6 ∧ l.length = R * R := by
  obtain ⟨_, R, rfl, rfl, hR, hlen, _⟩ := isSq_nat (isDef_sq h)
  exact ⟨R, rfl, rfl, hR, hlen⟩
theorem mat_q (w : World) (r c : Int) (u : Value) :
    ∃ w1, w1 = (w.alloc (.cells #[.int .i64 r, .int .i64 c, u] 28)).alloc (.cells #[.int .i64 0, .int .i64 0] 62) ∧
      MBox w1 w.heap.size r c u ∧ QBox w1 (w.heap.size + 1) (0, 0) ∧ w1.heap.size = w.heap.size + 2 ∧ Grows w w1 :=
  ⟨_, rfl, (MBox.mk_ _ _ _ _ _).grows ((Below.refl _ _).alloc (Nat.le_refl _) _), QBox.new_ _ (0, 0) _ (by simp), by simp, by exact bel0⟩

section
set_option maxHeartbeats 4000000
end
end Go.Proofs.Ytpgoefdeodoacaa
