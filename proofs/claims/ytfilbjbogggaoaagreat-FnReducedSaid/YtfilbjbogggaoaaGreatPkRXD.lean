/- Contracts and lemmas, put together. -/
import Derived.Test.YtfilbjbogggaoaaGreatPkB
import Derived.Test.YtfilbjbogggaoaaGreatPkDr
import Derived.Test.YtfilbjbogggaoaaGreatPkTD
/- The draws: any matrix; a form and a vector. -/
namespace Go.Proofs.YtfilbjbogggaoaaGreat
set_option linter.unusedSimpArgs false
set_option linter.unusedVariables false
open Go.RowKit

/-- a matrix drawn from a code -/
def DMatC (m : Nat) (w : World) (e : Ending) (w' : World) : Prop := ∃ (r c : Int) (V : Option Addr) (cv : Nat) (l : List Int), e = .returned (.agg #[.int .i64 r, .int .i64 c, .slice V l.length cv]) ∧ (-1 ≤ r ∧ r ≤ 8) ∧ l.length ≤ m ∧ Own w' w.heap.size (.slice V l.length cv) l ∧ Grows w w'
/-- a matrix and a vector of as many cells as it has rows, drawn from a code -/
def DMatV (w : World) (e : Ending) (w' : World) : Prop := ∃ (r c : Int) (V : Option Addr) (cv : Nat) (l : List Int) (V2 : Option Addr) (cv2 : Nat) (l2 : List Int), e = .returned (.tuple #[.agg #[.int .i64 r, .int .i64 c, .slice V l.length cv], .slice V2 l2.length cv2]) ∧ (-1 ≤ r ∧ r ≤ 8) ∧ l.length ≤ 10 ∧ l2.length = r.toNat ∧ Own w' w.heap.size (.slice V l.length cv) l ∧ Own w' w.heap.size (.slice V2 l2.length cv2) l2 ∧ Grows w w'
section
set_option maxHeartbeats 4000000
set_option maxRecDepth 10000
end
end Go.Proofs.YtfilbjbogggaoaaGreat

/- Contracts: the Gram matrix as a matrix. -/
namespace Go.Proofs.YtfilbjbogggaoaaGreat
set_option linter.unusedSimpArgs false
set_option linter.unusedVariables false
open Go.RowKit

def gmO (b : MX) : Option MX := if gmOk b.r b.c b.l then some ⟨b.r, b.r, gmL b.r.toNat b.c.toNat b.l⟩ else none
theorem gmO_eq (b : MX) : (oM (gmO b)).r = gmR b.r b.c b.l ∧ (oM (gmO b)).c = gmR b.r b.c b.l ∧ (oM (gmO b)).l = gmV b.r b.c b.l ∧ (gmO b).isSome = gmOk b.r b.c b.l := by
  unfold gmO gmR gmV
  cases gmOk b.r b.c b.l <;> simp [oM, MX.nil]
theorem gmO_length (b : MX) : (oM (gmO b)).l.length ≤ 576 := by rw [(gmO_eq b).2.2.1]; exact gmV_length _ _ _
theorem iGm_m (r c : Int) (A : Option Addr) (l : List Int) (n cap : Nat) (w : World) (hn : l.length = n) (ha : Rd w A l) (hl : n ≤ 1099511627776) :
    Calls Tryz.prog 92 #[.agg #[.int .i64 r, .int .i64 c, .slice A n cap]] w (MatRet (gmO ⟨r, c, l⟩) w) := by
  obtain ⟨e1, e2, e3, e4⟩ := gmO_eq ⟨r, c, l⟩
  unfold MatRet MatR
  rw [e1, e2, e3, e4]
  exact iGramOf_c r c A l n cap w hn ha hl
theorem sGm_m (r c : Int) (A : Option Addr) (l : List Int) (n cap : Nat) (w : World) (hn : l.length = n) (ha : Rd w A l) (hl : n ≤ 1099511627776) :
    Calls Tryz.prog 93 #[.agg #[.int .i64 r, .int .i64 c, .slice A n cap]] w (MatRet (gmO ⟨r, c, l⟩) w) := by
  obtain ⟨e1, e2, e3, e4⟩ := gmO_eq ⟨r, c, l⟩
  unfold MatRet MatR
  rw [e1, e2, e3, e4]
  exact sGramOf_c r c A l n cap w hn ha hl
end Go.Proofs.YtfilbjbogggaoaaGreat

/- Plain: the cells of a product of matrices. -/
namespace Go.Proofs.YtfilbjbogggaoaaGreat
set_option linter.unusedSimpArgs false
set_option linter.unusedVariables false
open Go.RowKit

/-- the cells of a product -/
theorem mulO_cells {R K C : Nat} {a b : List Int} {p : MX} (h : mulO ⟨R, K, a⟩ ⟨K, C, b⟩ = some p) : p.r = R ∧ p.c = C ∧ p.l.length = R * C ∧ ∀ i j, i < R → j < C → nth p.l (i * C + j) = sumN K fun k => nth a (i * K + k) * nth b (k * C + j) := by
  have e := mulO_eq ⟨R, K, a⟩ ⟨K, C, b⟩
  rw [h] at e
  obtain ⟨e1, e2, e3, e4⟩ := e
  have hok : mulOk R K a K C b = true := e4.symm
  have e1' : p.r = mulR R K a K C b := e1
  have e2' : p.c = mulC R K a K C b := e2
  have e3' : p.l = mulV R K a K C b := e3
  unfold mulR at e1'; unfold mulC at e2'; unfold mulV at e3'
  rw [hok] at e1' e2' e3'
  simp only [if_true, Int.toNat_natCast] at e1' e2' e3'
  refine ⟨e1', e2', by rw [e3', mulL_length], fun i j hi hj => ?_⟩
  rw [e3']
  have t := tab_nth (R := R) (C := C) (i := i) (j := j) (fun i j => dotTo a b K C i j K) hi hj
  refine Eq.trans t ?_
  have : ∀ n, dotTo a b K C i j n = sumN n fun t => nth a (i * K + t) * nth b (t * C + j) := fun n => by
    induction n with
    | zero => rfl
    | succ n ih => rw [dotTo, sumN, ih]
  exact this K
end Go.Proofs.YtfilbjbogggaoaaGreat
