/- Contracts and lemmas, put together. -/
import Derived.Test.YticmopedbgoflaaPkB
/- Contracts: the Gram matrix as a matrix. -/
namespace Go.Proofs.Yticmopedbgoflaa
set_option linter.unusedSimpArgs false
set_option linter.unusedVariables false
open Go.RowKit

def gmO (b : MX) : Option MX := if gmOk b.r b.c b.l then some ⟨b.r, b.r, gmL b.r.toNat b.c.toNat b.l⟩ else none
theorem gmO_eq (b : MX) : (oM (gmO b)).r = gmR b.r b.c b.l ∧ (oM (gmO b)).c = gmR b.r b.c b.l ∧ (oM (gmO b)).l = gmV b.r b.c b.l ∧ (gmO b).isSome = gmOk b.r b.c b.l := by
  unfold gmO gmR gmV
  cases gmOk b.r b.c b.l <;> simp [oM, MX.nil]
theorem gmO_length (b : MX) : (oM (gmO b)).l.length ≤ 576 := by rw [(gmO_eq b).2.2.1]; exact gmV_length _ _ _
theorem iGm_m (r c : Int) (A : Option Addr) (l : List Int) (n cap : Nat) (w : World) (hn : l.length = n) (ha : Rd w A l) (hl : n ≤ 1099511627776) :
    Calls Try.prog 22 #[.agg #[.int .i64 r, .int .i64 c, .slice A n cap]] w (MatRet (gmO ⟨r, c, l⟩) w) := by
  obtain ⟨e1, e2, e3, e4⟩ := gmO_eq ⟨r, c, l⟩
  unfold MatRet MatR
  rw [e1, e2, e3, e4]
  exact iGramOf_c r c A l n cap w hn ha hl
theorem sGm_m (r c : Int) (A : Option Addr) (l : List Int) (n cap : Nat) (w : World) (hn : l.length = n) (ha : Rd w A l) (hl : n ≤ 1099511627776) :
    Calls Try.prog 137 #[.agg #[.int .i64 r, .int .i64 c, .slice A n cap]] w (MatRet (gmO ⟨r, c, l⟩) w) := by
  obtain ⟨e1, e2, e3, e4⟩ := gmO_eq ⟨r, c, l⟩
  unfold MatRet MatR
  rw [e1, e2, e3, e4]
  exact sGramOf_c r c A l n cap w hn ha hl
end Go.Proofs.Yticmopedbgoflaa
