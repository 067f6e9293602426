/- Contracts and lemmas, put together. -/
import Derived.Test.YthajmffhgbenpaaPkB
import Init
/- Finite sums of whole numbers. -/
namespace Go.Proofs.Ythajmffhgbenpaa
set_option linter.unusedSimpArgs false
set_option linter.unusedVariables false

/-! ### sums -/
def sumN : Nat → (Nat → Int) → Int
  | 0, _ => 0
  | n + 1, f => sumN n f + f n
theorem sumN_congr {n : Nat} {f g : Nat → Int} (h : ∀ i, i < n → f i = g i) : sumN n f = sumN n g := by
  induction n with
  | zero => rfl
  | succ n ih => rw [sumN, sumN, ih (fun i hi => h i (by omega)), h n (by omega)]
theorem sumN_zero {n : Nat} {f : Nat → Int} (h : ∀ i, i < n → f i = 0) : sumN n f = 0 := by
  induction n with
  | zero => rfl
  | succ n ih => rw [sumN, ih (fun i hi => h i (by omega)), h n (by omega)]; rfl
theorem sumN_add (n : Nat) (f g : Nat → Int) : sumN n (fun i => f i + g i) = sumN n f + sumN n g := by
  induction n with
  | zero => rfl
  | succ n ih => simp only [sumN, ih]; omega
theorem sumN_mul (n : Nat) (c : Int) (f : Nat → Int) : sumN n (fun i => c * f i) = c * sumN n f := by
  induction n with
  | zero => simp [sumN]
  | succ n ih => simp only [sumN, ih, Int.mul_add]
theorem sumN_neg (n : Nat) (f : Nat → Int) : sumN n (fun i => - f i) = - sumN n f := by
  induction n with
  | zero => rfl
  | succ n ih => simp only [sumN, ih]; omega
theorem sumN_first (n : Nat) (f : Nat → Int) : sumN (n + 1) f = f 0 + sumN n (fun i => f (i + 1)) := by
  induction n with
  | zero => simp [sumN]
  | succ n ih => rw [sumN, ih]; simp only [sumN]; omega
theorem sumN_swap (n m : Nat) (f : Nat → Nat → Int) : sumN n (fun i => sumN m fun j => f i j) = sumN m (fun j => sumN n fun i => f i j) := by
  induction n with
  | zero => simp only [sumN]; exact (sumN_zero fun _ _ => rfl).symm
  | succ n ih => simp only [sumN, ih]; rw [← sumN_add]

/-- one term of a sum -/
theorem sumN_one {n k : Nat} (hk : k < n) (f : Nat → Int) : sumN n (fun i => (if i = k then 1 else 0) * f i) = f k := by
  induction n with
  | zero => omega
  | succ n ih =>
    rw [sumN]
    by_cases e : k = n
    · subst e
      rw [sumN_zero fun i hi => by rw [if_neg (by omega), Int.zero_mul]]; simp
    · rw [ih (by omega), if_neg (by omega)]; simp
/-- all terms but one are 0 -/
theorem sumN_only {n k : Nat} (hk : k < n) {f : Nat → Int} (h : ∀ i, i < n → i ≠ k → f i = 0) : sumN n f = f k := by
  rw [← sumN_one hk f]
  exact sumN_congr fun i hi => by
    by_cases e : i = k
    · rw [if_pos e, Int.one_mul]
    · rw [if_neg e, h i hi e]; simp
theorem sumN_split (n m : Nat) (f : Nat → Int) : sumN (n + m) f = sumN n f + sumN m (fun i => f (n + i)) := by
  induction m with
  | zero => simp [sumN]
  | succ m ih => rw [← Nat.add_assoc, sumN, ih, sumN]; omega
end Go.Proofs.Ythajmffhgbenpaa

/- Plain: the cells of a product of matrices. -/
namespace Go.Proofs.Ythajmffhgbenpaa
set_option linter.unusedSimpArgs false
set_option linter.unusedVariables false
open Go.RowKit

/-- the cells of a product -/
theorem mulO_cells {R K C : Nat} {a b : List Int} {p : MX} (h : mulO ⟨R, K, a⟩ ⟨K, C, b⟩ = some p) : p.r = R ∧ p.c = C ∧ p.l.length = R * C ∧ ∀ i j, i < R → j < C → nth p.l (i * C + j) = sumN K fun k => nth a (i * K + k) * nth b (k * C + j) := by
  have e := mulO_eq ⟨R, K, a⟩ ⟨K, C, b⟩
  rw [h] at e
  obtain ⟨e1, e2, e3, e4⟩ := e
  have hok : mulOk R K a K C b = true := e4.symm
  have e1' : p.r = mulR R K a K C b := e1
  have e2' : p.c = mulC R K a K C b := e2
  have e3' : p.l = mulV R K a K C b := e3
  unfold mulR at e1'; unfold mulC at e2'; unfold mulV at e3'
  rw [hok] at e1' e2' e3'
  simp only [if_true, Int.toNat_natCast] at e1' e2' e3'
  refine ⟨e1', e2', by rw [e3', mulL_length], fun i j hi hj => ?_⟩
  rw [e3']
  have t := tab_nth (R := R) (C := C) (i := i) (j := j) (fun i j => dotTo a b K C i j K) hi hj
  refine Eq.trans t ?_
  have : ∀ n, dotTo a b K C i j n = sumN n fun t => nth a (i * K + t) * nth b (t * C + j) := fun n => by
    induction n with
    | zero => rfl
    | succ n ih => rw [dotTo, sumN, ih]
  exact this K
end Go.Proofs.Ythajmffhgbenpaa
