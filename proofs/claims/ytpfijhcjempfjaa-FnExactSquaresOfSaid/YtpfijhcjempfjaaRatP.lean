/- Fractions in lowest terms, in plain numbers. -/
import Derived.Test.YtpfijhcjempfjaaNums
namespace Go.Proofs.Ytpfijhcjempfjaa

/-- the greatest common divisor -/
def gcdI (a b : Int) : Int := (Int.gcd a b : Int)
theorem gcdI_zero (a : Int) : gcdI a 0 = absI a := by
  unfold gcdI absI; rw [Int.gcd_zero_right]; split <;> omega
theorem gcdI_step (a b : Int) : gcdI b (a.tmod b) = gcdI a b := by
  unfold gcdI
  congr 1
  rw [Int.gcd_comm a b, Int.gcd_right_eq_iff]
  intro c hc
  have e := Int.mul_tdiv_add_tmod a b
  constructor
  · intro h
    rw [← e]
    exact Int.dvd_add (Int.dvd_trans hc (Int.dvd_mul_right _ _)) h
  · intro h
    rw [Int.tmod_def]
    exact Int.dvd_sub h (Int.dvd_trans hc (Int.dvd_mul_right _ _))
theorem gcdI_pos {a b : Int} (h : b ≠ 0) : 0 < gcdI a b := by
  unfold gcdI
  have := Int.gcd_pos_of_ne_zero_right a h
  omega
theorem gcdI_nonneg (a b : Int) : 0 ≤ gcdI a b := by unfold gcdI; omega
theorem gcdI_neg (a b : Int) : gcdI (-a) (-b) = gcdI a b := by unfold gcdI; simp
theorem tmod_natAbs_lt (a : Int) {b : Int} (h : b ≠ 0) : (a.tmod b).natAbs < b.natAbs := by
  rw [Int.natAbs_tmod]
  exact Nat.mod_lt _ (by omega)
theorem tdiv_le (n : Int) {g : Int} (_h : 0 < g) : (n.tdiv g).natAbs ≤ n.natAbs := by
  rw [Int.natAbs_tdiv]
  exact Nat.div_le_self _ _

/-- is it a fraction in lowest terms, with a positive denominator, within the limit? -/
def isRat (n d : Int) : Bool := inB d 1 400000000 && isNum n && (gcdI n d == 1)
theorem isRat_iff (n d : Int) : isRat n d = true ↔ 1 ≤ d ∧ d ≤ 400000000 ∧ -400000000 ≤ n ∧ n ≤ 400000000 ∧ gcdI n d = 1 := by
  unfold isRat
  simp only [Bool.and_eq_true, inB_iff, isNum_iff, beq_iff_eq]
  omega
theorem isRat_zero : isRat 0 0 = false := by decide
/-- a pair of numbers: a fraction, or (0, 0) for none -/
abbrev Q2 := Int × Int
def okQ (q : Q2) : Bool := isRat q.1 q.2
/-- the pair if it is a fraction -/
def keepQ (a b : Int) : Q2 := if isRat a b then (a, b) else (0, 0)
/-- n / d in lowest terms, (0, 0) if that is none -/
def mkQ (n d : Int) : Q2 :=
  if d = 0 then (0, 0)
  else if d < 0 then keepQ ((-n).tdiv (gcdI n d)) ((-d).tdiv (gcdI n d)) else keepQ (n.tdiv (gcdI n d)) (d.tdiv (gcdI n d))
theorem mkQ_pos {n d : Int} (h : 0 < d) : mkQ n d = keepQ (n.tdiv (gcdI n d)) (d.tdiv (gcdI n d)) := by
  unfold mkQ; rw [if_neg (by omega), if_neg (by omega)]
theorem mkQ_neg {n d : Int} (h : d < 0) : mkQ n d = keepQ ((-n).tdiv (gcdI n d)) ((-d).tdiv (gcdI n d)) := by
  unfold mkQ; rw [if_neg (by omega), if_pos h]
theorem keepQ_or (a b : Int) : keepQ a b = (0, 0) ∨ okQ (keepQ a b) = true := by
  unfold keepQ okQ
  cases h : isRat a b
  · exact .inl rfl
  · exact .inr h
theorem mkQ_or (a b : Int) : mkQ a b = (0, 0) ∨ okQ (mkQ a b) = true := by
  unfold mkQ
  split
  · exact .inl rfl
  · split
    · exact keepQ_or _ _
    · exact keepQ_or _ _
def makeQ (n d : Int) : Q2 := if isNum n && isNum d then mkQ n d else (0, 0)
def addQ (a b : Q2) : Q2 := if okQ a && okQ b then mkQ (a.1 * b.2 + b.1 * a.2) (a.2 * b.2) else (0, 0)
def negQ (a : Q2) : Q2 := if okQ a then (-a.1, a.2) else (0, 0)
def mulQ (a b : Q2) : Q2 := if okQ a && okQ b then mkQ (a.1 * b.1) (a.2 * b.2) else (0, 0)
def divQ (a b : Q2) : Q2 := if okQ a && okQ b && (b.1 != 0) then mkQ (a.1 * b.2) (a.2 * b.1) else (0, 0)
def cmpQ (a b : Q2) : Int := if okQ a && okQ b then (if a.1 * b.2 < b.1 * a.2 then -1 else if b.1 * a.2 < a.1 * b.2 then 1 else 0) else 2
def floorQ (a : Q2) : Int := if okQ a then a.1 / a.2 else 0
def roundQ (a : Q2) : Int := if okQ a then (2 * a.1 + a.2) / (2 * a.2) else 0
theorem okQ_bd {a : Q2} (h : okQ a = true) : 1 ≤ a.2 ∧ a.2 ≤ 400000000 ∧ -400000000 ≤ a.1 ∧ a.1 ≤ 400000000 := by
  have := (isRat_iff _ _).1 h
  omega
theorem subQ_def (a b : Q2) : addQ a (negQ b) = addQ a (negQ b) := rfl
end Go.Proofs.Ytpfijhcjempfjaa
