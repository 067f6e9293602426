/- Contracts and lemmas, put together. -/
import Derived.Test.YthajmffhgbenpaaPkCa
import Derived.Test.YthajmffhgbenpaaPkCb
import Derived.Test.YthajmffhgbenpaaPkT
/- Plain: a target moved by twice the first row of a basis; nothing nearer than a whole projection. -/
namespace Go.Proofs.Ythajmffhgbenpaa
set_option linter.unusedSimpArgs false
set_option linter.unusedVariables false

theorem sq_nn (x : Int) : 0 ≤ x * x := by
  rcases Int.le_total 0 x with h | h
  · exact Int.mul_nonneg h h
  · exact Int.mul_nonneg_of_nonpos_of_nonpos h h
theorem sq_lt {a b : Int} (h : a < b) (h0 : 0 ≤ a) : a * a < b * b := by
  have h1 : a * a ≤ a * b := Int.mul_le_mul_of_nonneg_left (by omega) h0
  have h2 : a * b < b * b := Int.mul_lt_mul_of_pos_right h (by omega)
  omega
theorem sum_shift {n : Nat} (hn : 0 < n) (y b : Nat → Int) : (sumN n fun i => (y i + if i = 0 then 2 else 0) * b i) = (sumN n fun i => y i * b i) + 2 * b 0 := by
  induction n with
  | zero => omega
  | succ n ih =>
    rw [sumN, sumN]
    by_cases h : n = 0
    · subst h
      simp only [if_true, sumN]
      rw [Int.add_mul]; omega
    · rw [ih (by omega), if_neg h, Int.add_zero]; omega
/-- the distance stays when both are moved -/
theorem dist_shift {n m : Nat} {B : Nat → Nat → Int} {t y : Nat → Int} (hn : 0 < n) :
    distF n m B (fun k => t k + 2 * B 0 k) (fun i => y i + if i = 0 then 2 else 0) = distF n m B t y := by
  unfold distF
  refine sumN_congr fun k _ => ?_
  have e := sum_shift hn y (fun i => B i k)
  rw [e]
  rw [show (sumN n fun i => y i * B i k) + 2 * B 0 k - (t k + 2 * B 0 k) = (sumN n fun i => y i * B i k) - t k by omega]
/-- a sum of squares that is a number has small parts -/
theorem sq_part {n : Nat} {f : Nat → Int} {M : Int} (h : (sumN n fun i => f i * f i) ≤ M * M) (hM : 0 ≤ M) {i : Nat} (hi : i < n) : -M ≤ f i ∧ f i ≤ M := by
  have h1 : f i * f i ≤ M * M := by
    refine Int.le_trans ?_ h
    clear h
    induction n with
    | zero => omega
    | succ n ih =>
      rw [sumN]
      by_cases e : i = n
      · subst e
        have : 0 ≤ sumN i fun i => f i * f i := by
          clear ih hi
          induction i with
          | zero => exact Int.le_refl _
          | succ n ih => rw [sumN]; have := sq_nn (f n) ; omega
        omega
      · have := ih (by omega)
        have := sq_nn (f n)
        omega
  constructor
  · refine Classical.byContradiction fun hc => ?_
    have h2 : M < -f i := by omega
    have h3 : M * M < -f i * -f i := sq_lt h2 hM
    rw [Int.neg_mul_neg] at h3; omega
  · refine Classical.byContradiction fun hc => ?_
    have h2 : M < f i := by omega
    have h3 : M * M < f i * f i := sq_lt h2 hM
    omega
end Go.Proofs.Ythajmffhgbenpaa

/- Plain: a form of determinant 2 or 3 has no target near the limit. -/
namespace Go.Proofs.Ythajmffhgbenpaa
set_option linter.unusedSimpArgs false
set_option linter.unusedVariables false

theorem sq_two {x : Int} (h : x * x ≤ 2) : x = 0 ∨ x = 1 ∨ x = -1 := by
  have h1 : -2 < x := by
    refine Classical.byContradiction fun hn => ?_
    have := Int.mul_le_mul (show 2 ≤ -x by omega) (show 2 ≤ -x by omega) (by decide) (by omega)
    rw [Int.neg_mul_neg] at this; omega
  have h2 : x < 2 := by
    refine Classical.byContradiction fun hn => ?_
    have := Int.mul_le_mul (show 2 ≤ x by omega) (show 2 ≤ x by omega) (by decide) (by omega)
    omega
  omega
theorem sq_not {x : Int} : x * x ≠ 2 ∧ x * x ≠ 3 := by
  constructor
  · intro h
    rcases sq_two (x := x) (by omega) with e | e | e <;> (rw [e] at h; omega)
  · intro h
    have h1 : x ≤ 1 ∧ -1 ≤ x := by
      constructor
      · refine Classical.byContradiction fun hn => ?_
        have := Int.mul_le_mul (show 2 ≤ x by omega) (show 2 ≤ x by omega) (by decide) (by omega)
        omega
      · refine Classical.byContradiction fun hn => ?_
        have := Int.mul_le_mul (show 2 ≤ -x by omega) (show 2 ≤ -x by omega) (by decide) (by omega)
        rw [Int.neg_mul_neg] at this; omega
    obtain rfl | rfl | rfl : x = 0 ∨ x = 1 ∨ x = -1 := by omega
    all_goals omega
theorem sq_pos (x : Int) : 0 ≤ x * x := by
  rcases Int.le_total 0 x with h | h
  · exact Int.mul_nonneg h h
  · exact Int.mul_nonneg_of_nonpos_of_nonpos h h
/-- a product with a big number that stays small -/
theorem big_one {x T e : Int} (hT : T = 400000000 ∨ T = -400000000 ∨ T = 399999999) (he : -200000 ≤ e ∧ e ≤ 200000) (h : -400000000 ≤ x * T + e ∧ x * T + e ≤ 400000000) : x = 0 ∨ x = 1 ∨ x = -1 := by
  rcases hT with rfl | rfl | rfl <;> omega
theorem big_none {x T e : Int} (hT : T = 400000000 ∨ T = -400000000 ∨ T = 399999999) (he : -200000 ≤ e ∧ e ≤ 200000) (h : x * T + e = 0) : x = 0 := by
  rcases hT with rfl | rfl | rfl <;> omega
theorem mul_small {x p : Int} {M : Int} (hx : -M ≤ x ∧ x ≤ M) (hp : -5 ≤ p ∧ p ≤ 5) : -(5 * M) ≤ x * p ∧ x * p ≤ 5 * M := by
  obtain rfl | rfl | rfl | rfl | rfl | rfl | rfl | rfl | rfl | rfl | rfl : p = -5 ∨ p = -4 ∨ p = -3 ∨ p = -2 ∨ p = -1 ∨ p = 0 ∨ p = 1 ∨ p = 2 ∨ p = 3 ∨ p = 4 ∨ p = 5 := by omega
  all_goals omega
theorem unit_small {x p : Int} {M : Int} (hx : x = 0 ∨ x = 1 ∨ x = -1) (hp : -M ≤ p ∧ p ≤ M) : -M ≤ x * p ∧ x * p ≤ M := by
  rcases hx with rfl | rfl | rfl <;> omega
theorem odd_no {x1 y1 x2 y2 a b c d e f : Int} (h1 : x1 * y2 = y1 * x2) (h2 : x1 + y1 = 2 * a + 1) (h3 : x2 + y2 = 2 * b + 1) (h4 : x1 + x2 = 2 * c + 1) (h5 : y1 + y2 = 2 * d + 1) (_ : e = f) : False := by
  obtain rfl : y1 = 2 * a + 1 - x1 := by omega
  obtain rfl : x2 = 2 * c + 1 - x1 := by omega
  obtain rfl : y2 = 2 * b + 1 - (2 * c + 1 - x1) := by omega
  have e1 : x1 * (2 * b + 1 - (2 * c + 1 - x1)) - (2 * a + 1 - x1) * (2 * c + 1 - x1) = 2 * (x1 * b + a * x1 - 2 * (a * c) - a - c + x1) - 1 := by grind
  generalize (x1 * b + a * x1 - 2 * (a * c) - a - c + x1) = z at e1
  omega
/-- two rows, determinant 2, one cell of the target near the limit -/
theorem two_no {v1 v2 x1 x2 y1 y2 T p q z1 z2 : Int} (hT : T = 400000000 ∨ T = -400000000 ∨ T = 399999999) (hp : -5 ≤ p ∧ p ≤ 5) (hq : -5 ≤ q ∧ q ≤ 5)
    (hx1 : -20000 ≤ x1 ∧ x1 ≤ 20000) (hx2 : -20000 ≤ x2 ∧ x2 ≤ 20000) (hy1 : -20000 ≤ y1 ∧ y1 ≤ 20000) (hy2 : -20000 ≤ y2 ∧ y2 ≤ 20000)
    (hD : (v1 * v1 + x1 * x1 + y1 * y1) * (v2 * v2 + x2 * x2 + y2 * y2) - (v1 * v2 + x1 * x2 + y1 * y2) * (v1 * v2 + x1 * x2 + y1 * y2) = 2)
    (hu1 : -400000000 ≤ v1 * T + x1 * p + y1 * q ∧ v1 * T + x1 * p + y1 * q ≤ 400000000)
    (hu2 : -400000000 ≤ v2 * T + x2 * p + y2 * q ∧ v2 * T + x2 * p + y2 * q ≤ 400000000)
    (hP1 : -400000000 ≤ (v2 * v2 + x2 * x2 + y2 * y2) * (v1 * T + x1 * p + y1 * q) - (v1 * v2 + x1 * x2 + y1 * y2) * (v2 * T + x2 * p + y2 * q) ∧ (v2 * v2 + x2 * x2 + y2 * y2) * (v1 * T + x1 * p + y1 * q) - (v1 * v2 + x1 * x2 + y1 * y2) * (v2 * T + x2 * p + y2 * q) ≤ 400000000)
    (hP2 : -400000000 ≤ (v1 * v1 + x1 * x1 + y1 * y1) * (v2 * T + x2 * p + y2 * q) - (v1 * v2 + x1 * x2 + y1 * y2) * (v1 * T + x1 * p + y1 * q) ∧ (v1 * v1 + x1 * x1 + y1 * y1) * (v2 * T + x2 * p + y2 * q) - (v1 * v2 + x1 * x2 + y1 * y2) * (v1 * T + x1 * p + y1 * q) ≤ 400000000)
    (hw1 : -20000 ≤ z1 * v1 + z2 * v2 - T ∧ z1 * v1 + z2 * v2 - T ≤ 20000) (hw2 : -20000 ≤ z1 * x1 + z2 * x2 - p ∧ z1 * x1 + z2 * x2 - p ≤ 20000) (hw3 : -20000 ≤ z1 * y1 + z2 * y2 - q ∧ z1 * y1 + z2 * y2 - q ≤ 20000) : False := by
  obtain ⟨a, ha⟩ : ∃ a, a = v1 * x2 - x1 * v2 := ⟨_, rfl⟩
  obtain ⟨b, hb⟩ : ∃ b, b = v1 * y2 - y1 * v2 := ⟨_, rfl⟩
  obtain ⟨c, hc⟩ : ∃ c, c = x1 * y2 - y1 * x2 := ⟨_, rfl⟩
  have hs : a * a + b * b + c * c = 2 := by rw [← hD, ha, hb, hc]; grind
  have na := sq_pos a
  have nb := sq_pos b
  have nc := sq_pos c
  have ua := sq_two (x := a) (by omega)
  have ub := sq_two (x := b) (by omega)
  have uc := sq_two (x := c) (by omega)
  have hn : c * (z1 * v1 + z2 * v2 - T) - b * (z1 * x1 + z2 * x2 - p) + a * (z1 * y1 + z2 * y2 - q) = -(c * T) + b * p - a * q := by rw [ha, hb, hc]; grind
  have s1 := unit_small uc hw1
  have s2 := unit_small ub hw2
  have s3 := unit_small ua hw3
  have s4 := unit_small ub hp
  have s5 := unit_small ua hq
  have c0 : c = 0 := big_none hT (e := c * (z1 * v1 + z2 * v2 - T) - b * (z1 * x1 + z2 * x2 - p) + a * (z1 * y1 + z2 * y2 - q) - b * p + a * q) (by omega) (by omega)
  rw [c0] at hs
  have a1 : a = 1 ∨ a = -1 := by
    rcases ua with e | e
    · rw [e] at hs; rcases ub with e | e | e <;> (rw [e] at hs; omega)
    · exact e
  have b1 : b = 1 ∨ b = -1 := by
    rcases ub with e | e
    · rw [e] at hs; rcases ua with e | e | e <;> (rw [e] at hs; omega)
    · exact e
  have m1 := mul_small hx1 hp
  have m2 := mul_small hx2 hp
  have m3 := mul_small hy1 hq
  have m4 := mul_small hy2 hq
  have uv1 := big_one hT (x := v1) (e := x1 * p + y1 * q) (by omega) (by omega)
  have uv2 := big_one hT (x := v2) (e := x2 * p + y2 * q) (by omega) (by omega)
  have hc0 : x1 * y2 - y1 * x2 = 0 := by omega
  have e1 : (v2 * v2 + x2 * x2 + y2 * y2) * (v1 * T + x1 * p + y1 * q) - (v1 * v2 + x1 * x2 + y1 * y2) * (v2 * T + x2 * p + y2 * q) = (a * x2 + b * y2) * T - v2 * (a * p + b * q) + (x1 * y2 - y1 * x2) * (p * y2 - q * x2) := by rw [ha, hb]; grind
  have e2 : (v1 * v1 + x1 * x1 + y1 * y1) * (v2 * T + x2 * p + y2 * q) - (v1 * v2 + x1 * x2 + y1 * y2) * (v1 * T + x1 * p + y1 * q) = -(a * x1 + b * y1) * T + v1 * (a * p + b * q) - (x1 * y2 - y1 * x2) * (p * y1 - q * x1) := by rw [ha, hb]; grind
  rw [e1, hc0, Int.zero_mul] at hP1
  rw [e2, hc0, Int.zero_mul] at hP2
  have s6 := unit_small ua hp
  have s7 := unit_small ub hq
  have s8 := unit_small uv2 (p := a * p + b * q) (M := 10) (by omega)
  have s9 := unit_small uv1 (p := a * p + b * q) (M := 10) (by omega)
  have f2 := big_one hT (x := a * x2 + b * y2) (e := - (v2 * (a * p + b * q))) (by omega) (by omega)
  have f1 := big_one hT (x := -(a * x1 + b * y1)) (e := v1 * (a * p + b * q)) (by omega) (by omega)
  have e3 : v1 * (a * x2 + b * y2) - v2 * (a * x1 + b * y1) = a * a + b * b := by rw [ha, hb]; grind
  have e4 : v1 * (a * x2 + b * y2) + v2 * (-(a * x1 + b * y1)) = 2 := by rw [Int.mul_neg]; omega
  have hxy : x1 * y2 = y1 * x2 := by omega
  clear hs na nb nc hn s1 s2 s3 s4 s5 s6 s7 s8 s9 m1 m2 m3 m4 e1 e2 hP1 hP2 hw1 hw2 hw3 hD hu1 hu2 e3 hc0 hc c0 uc ua ub
  have k1 : ∃ m, x1 + x2 = 2 * m + 1 := by
    rcases uv1 with rfl | rfl | rfl <;> rcases uv2 with rfl | rfl | rfl <;> rcases a1 with e | e <;> rcases f1 with f | f | f <;> rcases f2 with g | g | g <;> (rw [f, g] at e4; first | omega | exact ⟨(x1 + x2 - 1) / 2, by omega⟩)
  have k2 : ∃ m, y1 + y2 = 2 * m + 1 := by
    rcases uv1 with rfl | rfl | rfl <;> rcases uv2 with rfl | rfl | rfl <;> rcases b1 with e | e <;> rcases f1 with f | f | f <;> rcases f2 with g | g | g <;> (rw [f, g] at e4; first | omega | exact ⟨(y1 + y2 - 1) / 2, by omega⟩)
  have k3 : ∃ m, x1 + y1 = 2 * m + 1 := by
    clear ha hb
    rcases f1 with f | f | f <;> rcases f2 with g | g | g <;> rcases uv1 with rfl | rfl | rfl <;> rcases uv2 with rfl | rfl | rfl <;> rw [f, g] at e4 <;> first | omega | (rcases a1 with rfl | rfl <;> rcases b1 with rfl | rfl <;> exact ⟨(x1 + y1 - 1) / 2, by omega⟩)
  have k4 : ∃ m, x2 + y2 = 2 * m + 1 := by
    clear ha hb
    rcases f1 with f | f | f <;> rcases f2 with g | g | g <;> rcases uv1 with rfl | rfl | rfl <;> rcases uv2 with rfl | rfl | rfl <;> rw [f, g] at e4 <;> first | omega | (rcases a1 with rfl | rfl <;> rcases b1 with rfl | rfl <;> exact ⟨(x2 + y2 - 1) / 2, by omega⟩)
  obtain ⟨_, k1⟩ := k1
  obtain ⟨_, k2⟩ := k2
  obtain ⟨_, k3⟩ := k3
  obtain ⟨_, k4⟩ := k4
  exact odd_no hxy k3 k4 k1 k2 (e := 0) rfl
/-- three rows of three: the determinant of the products is a square -/
theorem three_sq (a b c d e f g h i : Int) : ∃ x : Int, (a * a + b * b + c * c) * ((d * d + e * e + f * f) * (g * g + h * h + i * i) - (d * g + e * h + f * i) * (d * g + e * h + f * i)) - (a * d + b * e + c * f) * ((a * d + b * e + c * f) * (g * g + h * h + i * i) - (d * g + e * h + f * i) * (a * g + b * h + c * i)) + (a * g + b * h + c * i) * ((a * d + b * e + c * f) * (d * g + e * h + f * i) - (d * d + e * e + f * f) * (a * g + b * h + c * i)) = x * x :=
  ⟨a * (e * i - f * h) - b * (d * i - f * g) + c * (d * h - e * g), by grind⟩
end Go.Proofs.Ythajmffhgbenpaa

/- Plain: a target, its projection on a lattice's space, and the rest. -/
namespace Go.Proofs.Ythajmffhgbenpaa
set_option linter.unusedSimpArgs false
set_option linter.unusedVariables false

theorem sqs_nn (n : Nat) (f : Nat → Int) : 0 ≤ sumN n fun k => f k * f k := by
  induction n with
  | zero => exact Int.le_refl _
  | succ n ih =>
    rw [sumN]
    have : 0 ≤ f n * f n := by
      rcases Int.le_total 0 (f n) with h | h
      · exact Int.mul_nonneg h h
      · exact Int.mul_nonneg_of_nonpos_of_nonpos h h
    omega
/-- the numbers that Cramer's rule gives solve the system -/
theorem cram_solve {n : Nat} {f : Nat → Nat → Int} {u P : Nat → Int} (hP : ∀ j, j < n + 1 → P j = sumN (n + 1) fun i => cof n f i j * u i) {r : Nat} (hr : r < n + 1) : (sumN (n + 1) fun j => f r j * P j) = dets (n + 1) f * u r := by
  rw [sumN_congr fun j hj => by rw [hP j hj, ← sumN_mul]]
  rw [sumN_swap]
  rw [sumN_congr (g := fun i => (sumN (n + 1) fun j => f r j * cof n f i j) * u i) fun i hi => by
    rw [Int.mul_comm, ← sumN_mul]
    exact sumN_congr fun j hj => by ac_rfl]
  rw [sumN_congr (g := fun i => (if r = i then dets (n + 1) f else 0) * u i) fun i hi => by rw [cramer n f hi hr]]
  rw [sumN_only (k := r) hr fun i _ hne => by show (if r = i then dets (n + 1) f else 0) * _ = 0; rw [if_neg (fun e => hne e.symm), Int.zero_mul]]
  show (if r = r then dets (n + 1) f else 0) * _ = _
  rw [if_pos rfl]
section
variable {n m : Nat} {B : Nat → Nat → Int} {t P : Nat → Int} {D : Int}
theorem prj_orth (hP : ∀ r, r < n → (sumN n fun j => (sumN m fun k => B r k * B j k) * P j) = D * sumN m fun k => B r k * t k) (y : Nat → Int) :
    (sumN m fun k => (sumN n fun i => y i * B i k) * ((sumN n fun i => P i * B i k) - D * t k)) = 0 := by
  have e1 : ∀ k, (sumN n fun i => y i * B i k) * ((sumN n fun i => P i * B i k) - D * t k) = sumN n fun i => y i * (B i k * ((sumN n fun i => P i * B i k) - D * t k)) := fun k => by
    rw [Int.mul_comm, ← sumN_mul]
    exact sumN_congr fun i _ => by ac_rfl
  rw [sumN_congr fun k _ => e1 k, sumN_swap]
  refine sumN_zero fun r hr => ?_
  rw [sumN_mul]
  have e2 : (sumN m fun k => B r k * ((sumN n fun i => P i * B i k) - D * t k)) = (sumN n fun j => (sumN m fun k => B r k * B j k) * P j) + (-D) * sumN m fun k => B r k * t k := by
    have e3 : (sumN n fun j => (sumN m fun k => B r k * B j k) * P j) = sumN m fun k => B r k * sumN n fun i => P i * B i k := by
      rw [sumN_congr (g := fun j => sumN m fun k => B r k * (P j * B j k)) fun j _ => by
        rw [Int.mul_comm, ← sumN_mul]
        exact sumN_congr fun k _ => by ac_rfl]
      rw [sumN_swap]
      exact sumN_congr fun k _ => by rw [← sumN_mul]
    rw [e3, ← sumN_mul, ← sumN_add]
    exact sumN_congr fun k _ => by grind
  rw [e2, hP r hr]
  grind
/-- the square of the rest, and of what else -/
theorem prj_dist (hP : ∀ r, r < n → (sumN n fun j => (sumN m fun k => B r k * B j k) * P j) = D * sumN m fun k => B r k * t k) (y : Nat → Int) :
    D * D * distF n m B t y = qf n (fun i j => sumN m fun k => B i k * B j k) (fun i => D * y i - P i) + sumN m fun k => ((sumN n fun i => P i * B i k) - D * t k) * ((sumN n fun i => P i * B i k) - D * t k) := by
  have ho := prj_orth hP (fun i => D * y i - P i)
  rw [← gram_qf, ← sumN_add]
  have e : D * D * distF n m B t y = (sumN m fun k => (((sumN n fun i => (D * y i - P i) * B i k) * (sumN n fun i => (D * y i - P i) * B i k)) + ((sumN n fun i => P i * B i k) - D * t k) * ((sumN n fun i => P i * B i k) - D * t k)) + 2 * ((sumN n fun i => (D * y i - P i) * B i k) * ((sumN n fun i => P i * B i k) - D * t k))) := by
    unfold distF
    rw [← sumN_mul]
    refine sumN_congr fun k _ => ?_
    have e5 : (sumN n fun i => (D * y i - P i) * B i k) = D * (sumN n fun i => y i * B i k) + (-1) * sumN n fun i => P i * B i k := by
      rw [← sumN_mul, ← sumN_mul, ← sumN_add]
      exact sumN_congr fun i _ => by grind
    rw [e5]
    generalize (sumN n fun i => y i * B i k) = a
    generalize (sumN n fun i => P i * B i k) = p
    grind
  rw [e, sumN_add, sumN_mul, ho]
  omega
/-- the square of the projection -/
theorem prj_sq (hP : ∀ r, r < n → (sumN n fun j => (sumN m fun k => B r k * B j k) * P j) = D * sumN m fun k => B r k * t k) :
    D * D * (sumN m fun k => t k * t k) = D * (sumN n fun i => P i * sumN m fun k => B i k * t k) + sumN m fun k => ((sumN n fun i => P i * B i k) - D * t k) * ((sumN n fun i => P i * B i k) - D * t k) := by
  have ho := prj_orth hP P
  have e1 : D * (sumN n fun i => P i * sumN m fun k => B i k * t k) = sumN m fun k => (sumN n fun i => P i * B i k) * (D * t k) := by
    rw [sumN_congr fun i _ => by rw [← sumN_mul], sumN_swap, ← sumN_mul]
    refine sumN_congr fun k _ => ?_
    rw [Int.mul_comm (sumN n fun i => P i * B i k), ← sumN_mul, ← sumN_mul]
    exact sumN_congr fun i _ => by ac_rfl
  have e2 : D * D * (sumN m fun k => t k * t k) = sumN m fun k => (((sumN n fun i => P i * B i k) * (D * t k)) + ((sumN n fun i => P i * B i k) - D * t k) * ((sumN n fun i => P i * B i k) - D * t k)) + (-1) * ((sumN n fun i => P i * B i k) * ((sumN n fun i => P i * B i k) - D * t k)) := by
    rw [← sumN_mul]
    refine sumN_congr fun k _ => ?_
    generalize (sumN n fun i => P i * B i k) = p
    grind
  rw [e1, e2, sumN_add, sumN_add, sumN_mul, ho]
  omega
end
/-- what a near vector says of the square of the target -/
theorem prj_up {n m : Nat} {B : Nat → Nat → Int} {t P y : Nat → Int} {D : Int} (h0 : 0 < D) (hG : PosF n fun i j => sumN m fun k => B i k * B j k)
    (hP : ∀ r, r < n → (sumN n fun j => (sumN m fun k => B r k * B j k) * P j) = D * sumN m fun k => B r k * t k) :
    D * (sumN m fun k => t k * t k) ≤ (sumN n fun i => P i * sumN m fun k => B i k * t k) + D * distF n m B t y := by
  have h1 := prj_dist hP y
  have h2 := prj_sq hP
  have h3 := hG.nonneg (fun i => D * y i - P i)
  refine Int.le_of_mul_le_mul_left (a := D) ?_ h0
  rw [Int.mul_add, ← Int.mul_assoc, ← Int.mul_assoc]
  omega
theorem prj_low {n m : Nat} {B : Nat → Nat → Int} {t P : Nat → Int} {D : Int} (h0 : 0 < D)
    (hP : ∀ r, r < n → (sumN n fun j => (sumN m fun k => B r k * B j k) * P j) = D * sumN m fun k => B r k * t k) :
    (sumN n fun i => P i * sumN m fun k => B i k * t k) ≤ D * (sumN m fun k => t k * t k) := by
  have h2 := prj_sq hP
  have h3 := sqs_nn m (fun k => (sumN n fun i => P i * B i k) - D * t k)
  refine Int.le_of_mul_le_mul_left (a := D) ?_ h0
  rw [← Int.mul_assoc]
  omega
/-- not more rows than columns -/
theorem rows_le {n m : Nat} {B : Nat → Nat → Int} {D : Int} (h0 : 0 < D) (hD : dets (n + 1) (fun i j => sumN m fun k => B i k * B j k) = D) : n + 1 ≤ m := by
  have key : ∀ k, k < m → (sumN (n + 1) fun i => (sumN (n + 1) fun j => cof n (fun i j => sumN m fun k => B i k * B j k) j i * B j k) * B i k) ≤ D := fun k hk => by
    have h := prj_low (n := n + 1) (m := m) (B := B) (t := fun l => if l = k then 1 else 0) (P := fun i => sumN (n + 1) fun j => cof n (fun i j => sumN m fun k => B i k * B j k) j i * sumN m fun l => B j l * (if l = k then 1 else 0)) h0 (fun r hr => by
      rw [← hD]
      exact cram_solve (f := fun i j => sumN m fun k => B i k * B j k) (u := fun j => sumN m fun l => B j l * (if l = k then 1 else 0)) (fun j _ => rfl) hr)
    have e1 : ∀ j, (sumN m fun l => B j l * (if l = k then 1 else 0)) = B j k := fun j => by
      rw [sumN_congr (g := fun l => (if l = k then 1 else 0) * B j l) fun l _ => Int.mul_comm _ _, sumN_one hk]
    have e2 : (sumN m fun l => (if l = k then (1 : Int) else 0) * (if l = k then 1 else 0)) = 1 := by rw [sumN_one hk, if_pos rfl]
    simp only [e1] at h
    rw [e2, Int.mul_one] at h
    exact h
  have h1 : ∀ k, k ≤ m → (sumN k fun k => sumN (n + 1) fun i => (sumN (n + 1) fun j => cof n (fun i j => sumN m fun k => B i k * B j k) j i * B j k) * B i k) ≤ k * D := fun k => by
    induction k with
    | zero => intro _; simp [sumN]
    | succ k ih =>
      intro hk
      rw [sumN]
      have h1 := ih (by omega)
      have h2 := key k (by omega)
      rw [show ((k + 1 : Nat) : Int) * D = k * D + D by rw [Int.natCast_add, Int.add_mul]; simp]
      omega
  have h2 := h1 m (Nat.le_refl m)
  have e : (sumN m fun k => sumN (n + 1) fun i => (sumN (n + 1) fun j => cof n (fun i j => sumN m fun k => B i k * B j k) j i * B j k) * B i k) = ((n + 1 : Nat) : Int) * D := by
    rw [sumN_swap]
    have e3 : ∀ j, j < n + 1 → (sumN (n + 1) fun i => (sumN m fun k => B j k * B i k) * cof n (fun i j => sumN m fun k => B i k * B j k) j i) = D := fun j hj => by
      have := cramer n (fun i j => sumN m fun k => B i k * B j k) hj hj
      rw [if_pos rfl, hD] at this
      exact this
    have e4 : ∀ i, (sumN m fun k => (sumN (n + 1) fun j => cof n (fun i j => sumN m fun k => B i k * B j k) j i * B j k) * B i k) = sumN (n + 1) fun j => (sumN m fun k => B j k * B i k) * cof n (fun i j => sumN m fun k => B i k * B j k) j i := fun i => by
      rw [sumN_congr (g := fun k => sumN (n + 1) fun j => cof n (fun i j => sumN m fun k => B i k * B j k) j i * (B j k * B i k)) fun k _ => by
        rw [Int.mul_comm, ← sumN_mul]
        exact sumN_congr fun j _ => by ac_rfl]
      rw [sumN_swap]
      exact sumN_congr fun j _ => by rw [sumN_mul, Int.mul_comm]
    rw [sumN_congr fun i _ => e4 i, sumN_swap, sumN_congr e3]
    have e5 : ∀ a : Nat, (sumN a fun _ => D) = a * D := fun a => by
      induction a with
      | zero => simp [sumN]
      | succ a ih => rw [sumN, ih, Int.natCast_add, Int.add_mul]; simp
    exact e5 _
  rw [e] at h2
  have := Int.le_of_mul_le_mul_right h2 h0
  omega
end Go.Proofs.Ythajmffhgbenpaa

/- Plain: a target with a near vector has no cell near the limit, if the determinant is 2 at least. -/
namespace Go.Proofs.Ythajmffhgbenpaa
set_option linter.unusedSimpArgs false
set_option linter.unusedVariables false

theorem sumN_le {n : Nat} {f : Nat → Int} {M : Int} (h : ∀ i, i < n → f i ≤ M) : sumN n f ≤ n * M := by
  induction n with
  | zero => simp [sumN]
  | succ n ih =>
    rw [sumN, show ((n + 1 : Nat) : Int) * M = n * M + M by rw [Int.natCast_add, Int.add_mul]; simp]
    have := ih fun i hi => h i (by omega)
    have := h n (by omega)
    omega
theorem prod_le {a b M : Int} (ha : -M ≤ a ∧ a ≤ M) (hb : -M ≤ b ∧ b ≤ M) : a * b ≤ M * M := by
  rcases Int.le_total 0 a with h | h
  · rcases Int.le_total 0 b with h2 | h2
    · exact Int.mul_le_mul ha.2 hb.2 h2 (by omega)
    · have h3 := Int.mul_nonneg h (show 0 ≤ -b by omega)
      have h4 := Int.mul_nonneg (show 0 ≤ M by omega) (show 0 ≤ M by omega)
      rw [Int.mul_neg] at h3; omega
  · rcases Int.le_total 0 b with h2 | h2
    · have h3 := Int.mul_nonneg (show 0 ≤ -a by omega) h2
      have h4 := Int.mul_nonneg (show 0 ≤ M by omega) (show 0 ≤ M by omega)
      rw [Int.neg_mul] at h3; omega
    · have := Int.mul_le_mul (show -a ≤ M by omega) (show -b ≤ M by omega) (by omega) (by omega)
      rw [Int.neg_mul_neg] at this; exact this
theorem sq_one_le {m : Nat} {f : Nat → Int} {k : Nat} (hk : k < m) : f k * f k ≤ sumN m fun k => f k * f k := by
  induction m with
  | zero => omega
  | succ m ih =>
    rw [sumN]
    by_cases e : k = m
    · subst e
      have := sqs_nn k f
      omega
    · have := ih (by omega)
      have := sq_pos (f m)
      omega
theorem sq_two_le {m : Nat} {f : Nat → Int} {j k : Nat} (hk : k < m) (hj : j < m) (hne : j < k) : f j * f j + f k * f k ≤ sumN m fun k => f k * f k := by
  induction m with
  | zero => omega
  | succ m ih =>
    rw [sumN]
    by_cases e : k = m
    · subst e
      have := sq_one_le (m := k) (f := f) hne
      omega
    · have := ih (by omega) (by omega)
      have := sq_pos (f m)
      omega
def bigT (x : Int) : Prop := x = 400000000 ∨ x = -400000000 ∨ x = 399999999
theorem bigT_sq {x : Int} (h : bigT x) : 159999999200000001 ≤ x * x := by rcases h with rfl | rfl | rfl <;> decide
/-- two rows: by two_no -/
theorem two_fin {v1 v2 x1 x2 y1 y2 T p q P0 P1 z0 z1 : Int} : bigT T → (-5 ≤ p ∧ p ≤ 5) → (-5 ≤ q ∧ q ≤ 5) → (-20000 ≤ x1 ∧ x1 ≤ 20000) → (-20000 ≤ x2 ∧ x2 ≤ 20000) → (-20000 ≤ y1 ∧ y1 ≤ 20000) → (-20000 ≤ y2 ∧ y2 ≤ 20000) →
    (v1 * v1 + x1 * x1 + y1 * y1) * (v2 * v2 + x2 * x2 + y2 * y2) - (v1 * v2 + x1 * x2 + y1 * y2) * (v1 * v2 + x1 * x2 + y1 * y2) = 2 →
    (v1 * v1 + x1 * x1 + y1 * y1) * P0 + (v1 * v2 + x1 * x2 + y1 * y2) * P1 = 2 * (v1 * T + x1 * p + y1 * q) →
    (v1 * v2 + x1 * x2 + y1 * y2) * P0 + (v2 * v2 + x2 * x2 + y2 * y2) * P1 = 2 * (v2 * T + x2 * p + y2 * q) →
    (-400000000 ≤ v1 * T + x1 * p + y1 * q ∧ v1 * T + x1 * p + y1 * q ≤ 400000000) → (-400000000 ≤ v2 * T + x2 * p + y2 * q ∧ v2 * T + x2 * p + y2 * q ≤ 400000000) →
    (-400000000 ≤ P0 ∧ P0 ≤ 400000000) → (-400000000 ≤ P1 ∧ P1 ≤ 400000000) →
    (-20000 ≤ z0 * v1 + z1 * v2 - T ∧ z0 * v1 + z1 * v2 - T ≤ 20000) → (-20000 ≤ z0 * x1 + z1 * x2 - p ∧ z0 * x1 + z1 * x2 - p ≤ 20000) → (-20000 ≤ z0 * y1 + z1 * y2 - q ∧ z0 * y1 + z1 * y2 - q ≤ 20000) → False := by
  intro hb kp kq c1 c2 c3 c4 hdet s0 s1 u0 u1 p0 p1 w0 w1 w2
  have q0 : (v2 * v2 + x2 * x2 + y2 * y2) * (v1 * T + x1 * p + y1 * q) - (v1 * v2 + x1 * x2 + y1 * y2) * (v2 * T + x2 * p + y2 * q) = P0 := by
    clear hb kp kq c1 c2 c3 c4 u0 u1 p0 p1 w0 w1 w2
    generalize v1 * T + x1 * p + y1 * q = U0 at *
    generalize v2 * T + x2 * p + y2 * q = U1 at *
    generalize v1 * v1 + x1 * x1 + y1 * y1 = a at *
    generalize v2 * v2 + x2 * x2 + y2 * y2 = c at *
    generalize v1 * v2 + x1 * x2 + y1 * y2 = b at *
    grind
  have q1 : (v1 * v1 + x1 * x1 + y1 * y1) * (v2 * T + x2 * p + y2 * q) - (v1 * v2 + x1 * x2 + y1 * y2) * (v1 * T + x1 * p + y1 * q) = P1 := by
    clear hb kp kq c1 c2 c3 c4 u0 u1 p0 p1 w0 w1 w2
    generalize v1 * T + x1 * p + y1 * q = U0 at *
    generalize v2 * T + x2 * p + y2 * q = U1 at *
    generalize v1 * v1 + x1 * x1 + y1 * y1 = a at *
    generalize v2 * v2 + x2 * x2 + y2 * y2 = c at *
    generalize v1 * v2 + x1 * x2 + y1 * y2 = b at *
    grind
  exact two_no hb kp kq c1 c2 c3 c4 hdet u0 u1 (by rw [q0]; exact p0) (by rw [q1]; exact p1) w0 w1 w2
section
variable {n C : Nat} {B : Nat → Nat → Int} {t P y : Nat → Int} {D : Int}
/-- one cell near the limit: few rows or determinant 1 -/
theorem lim_rows (hD : 0 < D) (hG : PosF (n + 1) fun i j => sumN C fun k => B i k * B j k)
    (hP : ∀ r, r < n + 1 → (sumN (n + 1) fun j => (sumN C fun k => B r k * B j k) * P j) = D * sumN C fun k => B r k * t k)
    (hu : ∀ i, i < n + 1 → -400000000 ≤ (sumN C fun k => B i k * t k) ∧ (sumN C fun k => B i k * t k) ≤ 400000000) (hp : ∀ i, i < n + 1 → -400000000 ≤ P i ∧ P i ≤ 400000000)
    (hd : distF (n + 1) C B t y ≤ 400000000) {S : Int} (hS : S ≤ sumN C fun k => t k * t k) : D * S ≤ ((n + 1 : Nat) : Int) * 160000000000000000 + D * 400000000 := by
  have h1 := prj_up (y := y) hD hG hP
  have h2 := sumN_le (n := n + 1) (f := fun i => P i * sumN C fun k => B i k * t k) (M := 400000000 * 400000000) fun i hi => prod_le (hp i hi) (hu i hi)
  have h3 := Int.mul_le_mul_of_nonneg_left hd (Int.le_of_lt hD)
  have h4 := Int.mul_le_mul_of_nonneg_left hS (Int.le_of_lt hD)
  rw [show (400000000 : Int) * 400000000 = 160000000000000000 from rfl] at h2
  omega
/-- determinant 2 at least: all cells of the target are small -/
theorem limit_no (hC : C ≤ 3) (hD2 : 2 ≤ D) (hG : PosF (n + 1) fun i j => sumN C fun k => B i k * B j k) (hdet : dets (n + 1) (fun i j => sumN C fun k => B i k * B j k) = D)
    (hP : ∀ r, r < n + 1 → (sumN (n + 1) fun j => (sumN C fun k => B r k * B j k) * P j) = D * sumN C fun k => B r k * t k)
    (hu : ∀ i, i < n + 1 → -400000000 ≤ (sumN C fun k => B i k * t k) ∧ (sumN C fun k => B i k * t k) ≤ 400000000) (hp : ∀ i, i < n + 1 → -400000000 ≤ P i ∧ P i ≤ 400000000)
    (hB : ∀ i k, i < n + 1 → k < C → -20000 ≤ B i k ∧ B i k ≤ 20000)
    (hd : distF (n + 1) C B t y ≤ 400000000) (ht : ∀ k, k < C → (-5 ≤ t k ∧ t k ≤ 5) ∨ bigT (t k)) : ∀ k, k < C → -5 ≤ t k ∧ t k ≤ 5 := by
  have hD : 0 < D := by omega
  have hnC := rows_le (B := B) hD hdet
  intro k hk
  refine (ht k hk).elim id fun hbig => False.elim ?_
  have h1 := lim_rows hD hG hP hu hp hd (Int.le_trans (bigT_sq hbig) (sq_one_le hk))
  have hDn : D ≤ n + 1 := by omega
  have hw : ∀ k, k < C → -20000 ≤ (sumN (n + 1) fun i => y i * B i k) - t k ∧ (sumN (n + 1) fun i => y i * B i k) - t k ≤ 20000 := fun k hk =>
    sq_part (n := C) (f := fun k => (sumN (n + 1) fun i => y i * B i k) - t k) (M := 20000) (Int.le_trans hd (by decide)) (by decide) hk
  have hsm : n = 1 → ∀ j, j < C → j ≠ k → -5 ≤ t j ∧ t j ≤ 5 := fun hn j hj hne => by
    refine (ht j hj).elim id fun hbig2 => False.elim ?_
    have hs : 159999999200000001 + 159999999200000001 ≤ sumN C fun k => t k * t k := by
      have a1 := bigT_sq hbig
      have a2 := bigT_sq hbig2
      rcases Nat.lt_or_gt_of_ne hne with e | e
      · have := sq_two_le (f := t) hk hj e; omega
      · have := sq_two_le (f := t) hj hk e; omega
    have h2 := lim_rows hD hG hP hu hp hd hs
    omega
  have hn : n = 1 ∨ n = 2 := by omega
  rcases hn with rfl | rfl
  · have hD' : D = 2 := by omega
    subst hD'
    have hsm := hsm rfl
    have u0 := hu 0 (by omega)
    have u1 := hu 1 (by omega)
    have p0 := hp 0 (by omega)
    have p1 := hp 1 (by omega)
    have s0 := hP 0 (by omega)
    have s1 := hP 1 (by omega)
    have hC2 : C = 2 ∨ C = 3 := by omega
    rcases hC2 with rfl | rfl
    · have b00 := hB 0 0 (by omega) (by omega)
      have b01 := hB 0 1 (by omega) (by omega)
      have b10 := hB 1 0 (by omega) (by omega)
      have b11 := hB 1 1 (by omega) (by omega)
      have w0 := hw 0 (by omega)
      have w1 := hw 1 (by omega)
      have k0 := fun h => hsm 0 (by omega) h
      have k1 := fun h => hsm 1 (by omega) h
      simp only [dets, sumN, sgn, skip] at hdet u0 u1 s0 s1 w0 w1
      simp at hdet u0 u1 s0 s1 w0 w1
      clear hsm hu hp hP hB ht hd hG hw h1 hDn hD hD2 hnC hC
      have hk2 : k = 0 ∨ k = 1 := by omega
      have z0 : -5 ≤ (0 : Int) ∧ (0 : Int) ≤ 5 := by decide
      have z1 : -20000 ≤ (0 : Int) ∧ (0 : Int) ≤ 20000 := by decide
      rcases hk2 with rfl | rfl
      · exact two_fin (v1 := B 0 0) (v2 := B 1 0) (x1 := B 0 1) (x2 := B 1 1) (y1 := 0) (y2 := 0) (q := 0) (z0 := y 0) (z1 := y 1) (P0 := P 0) (P1 := P 1) hbig (k1 (by decide)) z0 b01 b11 z1 z1 (by clear hbig; grind) (by clear hbig; grind) (by clear hbig; grind) (by omega) (by omega) p0 p1 (by omega) (by omega) (by omega)
      · exact two_fin (v1 := B 0 1) (v2 := B 1 1) (x1 := B 0 0) (x2 := B 1 0) (y1 := 0) (y2 := 0) (q := 0) (z0 := y 0) (z1 := y 1) (P0 := P 0) (P1 := P 1) hbig (k0 (by decide)) z0 b00 b10 z1 z1 (by clear hbig; grind) (by clear hbig; grind) (by clear hbig; grind) (by omega) (by omega) p0 p1 (by omega) (by omega) (by omega)
    · have b00 := hB 0 0 (by omega) (by omega)
      have b01 := hB 0 1 (by omega) (by omega)
      have b02 := hB 0 2 (by omega) (by omega)
      have b10 := hB 1 0 (by omega) (by omega)
      have b11 := hB 1 1 (by omega) (by omega)
      have b12 := hB 1 2 (by omega) (by omega)
      have w0 := hw 0 (by omega)
      have w1 := hw 1 (by omega)
      have w2 := hw 2 (by omega)
      have k0 := fun h => hsm 0 (by omega) h
      have k1 := fun h => hsm 1 (by omega) h
      have k2 := fun h => hsm 2 (by omega) h
      simp only [dets, sumN, sgn, skip] at hdet u0 u1 s0 s1 w0 w1 w2
      simp at hdet u0 u1 s0 s1 w0 w1 w2
      clear hsm hu hp hP hB ht hd hG hw h1 hDn hD hD2 hnC hC
      have hk3 : k = 0 ∨ k = 1 ∨ k = 2 := by omega
      rcases hk3 with rfl | rfl | rfl
      · exact two_fin (v1 := B 0 0) (v2 := B 1 0) (x1 := B 0 1) (x2 := B 1 1) (y1 := B 0 2) (y2 := B 1 2) (z0 := y 0) (z1 := y 1) (P0 := P 0) (P1 := P 1) hbig (k1 (by decide)) (k2 (by decide)) b01 b11 b02 b12 (by clear hbig; grind) (by clear hbig; grind) (by clear hbig; grind) (by omega) (by omega) p0 p1 (by omega) (by omega) (by omega)
      · exact two_fin (v1 := B 0 1) (v2 := B 1 1) (x1 := B 0 0) (x2 := B 1 0) (y1 := B 0 2) (y2 := B 1 2) (z0 := y 0) (z1 := y 1) (P0 := P 0) (P1 := P 1) hbig (k0 (by decide)) (k2 (by decide)) b00 b10 b02 b12 (by clear hbig; grind) (by clear hbig; grind) (by clear hbig; grind) (by omega) (by omega) p0 p1 (by omega) (by omega) (by omega)
      · exact two_fin (v1 := B 0 2) (v2 := B 1 2) (x1 := B 0 0) (x2 := B 1 0) (y1 := B 0 1) (y2 := B 1 1) (z0 := y 0) (z1 := y 1) (P0 := P 0) (P1 := P 1) hbig (k0 (by decide)) (k1 (by decide)) b00 b10 b01 b11 (by clear hbig; grind) (by clear hbig; grind) (by clear hbig; grind) (by omega) (by omega) p0 p1 (by omega) (by omega) (by omega)
  · obtain rfl : C = 3 := by omega
    obtain ⟨x, hx⟩ := three_sq (B 0 0) (B 0 1) (B 0 2) (B 1 0) (B 1 1) (B 1 2) (B 2 0) (B 2 1) (B 2 2)
    have e : D = x * x := by
      rw [← hx, ← hdet]
      simp [dets, sumN, sgn, skip]
      grind
    have := sq_not (x := x)
    omega
end
end Go.Proofs.Ythajmffhgbenpaa

/- Plain: a distance is computed whenever it is a number, if the target is not near the limit. -/
namespace Go.Proofs.Ythajmffhgbenpaa
set_option linter.unusedSimpArgs false
set_option linter.unusedVariables false

theorem sum_nn {n : Nat} (f : Nat → Int) : 0 ≤ sumN n fun k => f k * f k := by
  induction n with
  | zero => exact Int.le_refl _
  | succ n ih => rw [sumN]; have := sq_nn (f n); omega
theorem dB_small {p t : List Int} {n : Nat} (h : (sumN n fun k => (nth p k - nth t k) * (nth p k - nth t k)) ≤ 400000000) : dB p t n = sumN n fun k => (nth p k - nth t k) * (nth p k - nth t k) := by
  induction n with
  | zero => rfl
  | succ n ih =>
    rw [sumN] at h ⊢
    have h1 := sq_nn (nth p n - nth t n)
    have h2 := sum_nn (n := n) (fun k => nth p k - nth t k)
    have e := ih (by omega)
    have hd := sq_part (n := 1) (f := fun _ => nth p n - nth t n) (M := 20000) (by simp only [sumN]; omega) (by omega) (i := 0) (by omega)
    have hd1 : isNum (nth p n - nth t n) = true := (isNum_iff _).2 (by omega)
    have hd2 : isNum ((nth p n - nth t n) * (nth p n - nth t n)) = true := (isNum_iff _).2 (by omega)
    have hd0 : isNum (dB p t n) = true := by rw [e]; exact (isNum_iff _).2 (by omega)
    rw [dB_yes hd0 hd1 hd2 (by rw [e]; exact (isNum_iff _).2 (by omega)), e]
theorem mul_cell {R C : Nat} {x b : List Int} {k : Nat} (hk : k < C) : nth (mulL 1 R C x b) k = sumN R fun i => nth x i * nth b (i * C + k) := by
  have t2 : nth (mulL 1 R C x b) (0 * C + k) = dotTo x b R C 0 k R := tab_nth (fun i j => dotTo x b R C i j R) (by omega) hk
  rw [Nat.zero_mul, Nat.zero_add] at t2
  rw [t2, dotTo_sum]
  exact sumN_congr fun i _ => by rw [Nat.zero_mul, Nat.zero_add]
theorem dOk_of {R C : Nat} {b x t : List Int} (hb : isMat R C b = true) (hx : x.length = R) (hxn : allNum x = true) (ht : t.length = C) (htn : allNum t = true) (hts : ∀ k, k < C → -399980000 ≤ nth t k ∧ nth t k ≤ 399980000)
    (hd : distF R C (fun i k => nth b (i * C + k)) (nth t) (nth x) ≤ 400000000) : dOk R C b x t = true := by
  obtain ⟨_, _, e1, e2, hR, hC, _, _⟩ := isMat_nat hb
  have hpart : ∀ k, k < C → -20000 ≤ (sumN R fun i => nth x i * nth b (i * C + k)) - nth t k ∧ (sumN R fun i => nth x i * nth b (i * C + k)) - nth t k ≤ 20000 := fun k hk =>
    sq_part (n := C) (f := fun k => (sumN R fun i => nth x i * nth b (i * C + k)) - nth t k) (M := 20000) (Int.le_trans hd (by decide)) (by decide) hk
  have hm1 : isMat 1 R x = true := by
    have := isMat_made (R := 1) (C := R) (l := x) (by omega) (by omega) (by omega)
    rw [show ((1 : Nat) : Int) = 1 from rfl] at this
    rw [this]; exact hxn
  have hall : allNum (mulL 1 R C x b) = true := by
    refine (allNum_iff _).2 fun k hk => ?_
    rw [mulL_length, Nat.one_mul] at hk
    rw [mul_cell hk]
    have h1 := hpart k hk
    have h2 := hts k hk
    exact (isNum_iff _).2 (by omega)
  have hmok : mulOk 1 x.length x R C b = true := by
    unfold mulOk
    rw [hx]
    simp only [Bool.and_eq_true, beq_iff_eq]
    exact ⟨⟨⟨hm1, hb⟩, trivial⟩, by simpa using hall⟩
  have e3 : mulV 1 x.length x R C b = mulL 1 R C x b := by unfold mulV; rw [hmok, if_pos rfl, hx]; simp
  have hs : (sumN C fun k => (nth (mulL 1 R C x b) k - nth t k) * (nth (mulL 1 R C x b) k - nth t k)) = distF R C (fun i k => nth b (i * C + k)) (nth t) (nth x) := by
    unfold distF
    exact sumN_congr fun k hk => by rw [mul_cell hk]
  have hdb : dB (mulL 1 R C x b) t C ≠ bad := by
    rw [dB_small (by rw [hs]; exact hd)]
    intro e
    have h1 := sum_nn (n := C) (fun k => nth (mulL 1 R C x b) k - nth t k)
    have hbad : isNum bad = false := bad_not
    rw [← e] at hbad
    rw [hs] at hbad h1
    rw [(isNum_iff _).2 (by omega)] at hbad
    cases hbad
  unfold dOk
  rw [hmok, e3, ht]
  simp only [Bool.and_eq_true, beq_iff_eq, Bool.not_eq_true', beq_eq_false_iff_ne]
  exact ⟨⟨⟨trivial, trivial⟩, htn⟩, hdb⟩
end Go.Proofs.Ythajmffhgbenpaa

/- Plain: the list of the vectors in a box, the box moved by 2 in its first direction. -/
namespace Go.Proofs.Ythajmffhgbenpaa
set_option linter.unusedSimpArgs false
set_option linter.unusedVariables false

/-- the first number more by 2 -/
def mv2 : List Int → List Int
  | [] => []
  | x :: l => (x + 2) :: l
theorem mv2_app {v : List Int} (h : v ≠ []) (y : List Int) : mv2 (v ++ y) = mv2 v ++ y := by
  cases v with
  | nil => exact absurd rfl h
  | cons x l => rfl
theorem mv2_length (v : List Int) : (mv2 v).length = v.length := by cases v <;> rfl
theorem grownBy_mv2 {lo : Int} {n : Nat} {v : List Int} (h : v ≠ []) : grownBy lo n (mv2 v) = (grownBy lo n v).map mv2 := by
  unfold grownBy
  rw [List.map_map]
  exact List.map_congr_left fun k _ => (mv2_app h _).symm
theorem boxStep_mv2 {lo hi : Int} {rows : List (List Int)} (h : ∀ v ∈ rows, v ≠ []) : boxStep lo hi (rows.map mv2) = (boxStep lo hi rows).map mv2 := by
  unfold boxStep
  induction rows with
  | nil => rfl
  | cons v rows ih =>
    rw [List.map_cons, List.flatMap_cons, List.flatMap_cons, List.map_append, ih fun u hu => h u (List.mem_cons_of_mem _ hu), grownBy_mv2 (h v (List.mem_cons_self ..))]
/-- the box moved -/
theorem boxF_mv2 {lo hi lo' hi' : List Int} (h0 : nth lo' 0 = nth lo 0 + 2 ∧ nth hi' 0 = nth hi 0 + 2) (hs : ∀ i, 0 < i → nth lo' i = nth lo i ∧ nth hi' i = nth hi i) (n : Nat) : boxF lo' hi' (n + 1) = (boxF lo hi (n + 1)).map mv2 := by
  induction n with
  | zero =>
    show boxStep (nth lo' 0) (nth hi' 0) [[]] = (boxStep (nth lo 0) (nth hi 0) [[]]).map mv2
    rw [h0.1, h0.2]
    unfold boxStep width
    rw [show nth hi 0 + 2 - (nth lo 0 + 2) + 1 = nth hi 0 - nth lo 0 + 1 by omega]
    simp only [List.flatMap_cons, List.flatMap_nil, List.append_nil]
    unfold grownBy
    rw [List.map_map]
    exact List.map_congr_left fun k _ => by
      show [nth lo 0 + 2 + (k : Int)] = [nth lo 0 + (k : Int) + 2]
      rw [show nth lo 0 + 2 + (k : Int) = nth lo 0 + (k : Int) + 2 by omega]
  | succ n ih =>
    have e1 : boxF lo' hi' (n + 1 + 1) = boxStep (nth lo' (n + 1)) (nth hi' (n + 1)) (boxF lo' hi' (n + 1)) := rfl
    have e2 : boxF lo hi (n + 1 + 1) = boxStep (nth lo (n + 1)) (nth hi (n + 1)) (boxF lo hi (n + 1)) := rfl
    rw [e1, e2, ih, (hs (n + 1) (by omega)).1, (hs (n + 1) (by omega)).2]
    exact boxStep_mv2 fun v hv e => by
      have := boxF_len hv
      rw [e] at this
      cases this
end Go.Proofs.Ythajmffhgbenpaa

/- Plain: the rounding of ratios that are more by 2. -/
namespace Go.Proofs.Ythajmffhgbenpaa
set_option linter.unusedSimpArgs false
set_option linter.unusedVariables false

/-- a ratio is its numbers parted by a common part -/
theorem makeQ_parts {n d : Int} (hn : isNum n = true) (hd : isNum d = true) (h0 : 0 < d) : ∃ g : Int, 0 < g ∧ n = g * (makeQ n d).1 ∧ d = g * (makeQ n d).2 := by
  have hg : 0 < gcdI n d := gcdI_pos (by omega)
  have e : makeQ n d = keepQ (n.tdiv (gcdI n d)) (d.tdiv (gcdI n d)) := by unfold makeQ; rw [hn, hd]; exact mkQ_pos h0
  have d1 : gcdI n d ∣ n := Int.gcd_dvd_left _ _
  have d2 : gcdI n d ∣ d := Int.gcd_dvd_right _ _
  have hok := (makeQ_floor hn hd h0).1
  have hk : keepQ (n.tdiv (gcdI n d)) (d.tdiv (gcdI n d)) = (n.tdiv (gcdI n d), d.tdiv (gcdI n d)) := by
    rw [e] at hok
    unfold keepQ at hok ⊢
    split
    · rfl
    · rename_i hno
      rw [if_neg hno] at hok
      exact absurd hok (by decide)
  rw [e, hk]
  exact ⟨gcdI n d, hg, (Int.mul_tdiv_cancel' d1).symm, (Int.mul_tdiv_cancel' d2).symm⟩
theorem makeQ_round {n d : Int} (hn : isNum n = true) (hd : isNum d = true) (h0 : 0 < d) : roundQ (makeQ n d) = (2 * n + d) / (2 * d) := by
  obtain ⟨g, hg, e1, e2⟩ := makeQ_parts hn hd h0
  have hok := (makeQ_floor hn hd h0).1
  generalize makeQ n d = q at *
  unfold roundQ
  rw [if_pos hok, e1, e2]
  rw [show 2 * (g * q.1) + g * q.2 = g * (2 * q.1 + q.2) by rw [Int.mul_add, Int.mul_left_comm], show 2 * (g * q.2) = g * (2 * q.2) by rw [Int.mul_left_comm]]
  exact (Int.mul_ediv_mul_of_pos _ _ hg).symm
theorem floor_two {n d : Int} (h0 : 0 < d) : (n + 2 * d) / d = n / d + 2 := by
  rw [Int.add_mul_ediv_right _ _ (by omega)]
theorem round_two {n d : Int} (h0 : 0 < d) : (2 * (n + 2 * d) + d) / (2 * d) = (2 * n + d) / (2 * d) + 2 := by
  rw [show 2 * (n + 2 * d) + d = (2 * n + d) + 2 * (2 * d) by omega]
  rw [Int.add_mul_ediv_right _ _ (by omega)]
end Go.Proofs.Ythajmffhgbenpaa

/- Plain: the cofactors of a definite form undo its first column. -/
namespace Go.Proofs.Ythajmffhgbenpaa
set_option linter.unusedSimpArgs false
set_option linter.unusedVariables false

theorem cof_col {n : Nat} {f : Nat → Nat → Int} (hp : PosF (n + 1) f) {c : Nat} (hc : c < n + 1) {j : Nat} (hj : j < n + 1) : (sumN (n + 1) fun i => cof n f i j * f i c) = if j = c then dets (n + 1) f else 0 := by
  obtain ⟨D, hD⟩ : ∃ D, D = dets (n + 1) f := ⟨_, rfl⟩
  rw [← hD]
  obtain ⟨v, hv⟩ : ∃ v : Nat → Int, v = fun j => (sumN (n + 1) fun i => cof n f i j * f i c) - if j = c then D else 0 := ⟨_, rfl⟩
  have hG : ∀ r, r < n + 1 → (sumN (n + 1) fun j => f r j * v j) = 0 := fun r hr => by
    have e1 : (sumN (n + 1) fun j => f r j * v j) = (sumN (n + 1) fun j => sumN (n + 1) fun i => f i c * (f r j * cof n f i j)) + sumN (n + 1) fun j => (if j = c then 1 else 0) * (-(f r j * D)) := by
      rw [← sumN_add]
      refine sumN_congr fun j _ => ?_
      have e2 : (sumN (n + 1) fun i => f i c * (f r j * cof n f i j)) = f r j * sumN (n + 1) fun i => cof n f i j * f i c := by
        rw [← sumN_mul]
        exact sumN_congr fun i _ => by ac_rfl
      rw [e2, hv]
      simp only
      rw [Int.mul_sub]
      split
      · rw [Int.one_mul]; omega
      · rw [Int.zero_mul, Int.mul_zero]; omega
    have e3 : (sumN (n + 1) fun j => sumN (n + 1) fun i => f i c * (f r j * cof n f i j)) = sumN (n + 1) fun i => (if i = r then 1 else 0) * (f i c * D) := by
      rw [sumN_swap]
      refine sumN_congr fun i hi => ?_
      have e4 : (sumN (n + 1) fun j => f i c * (f r j * cof n f i j)) = f i c * sumN (n + 1) fun j => f r j * cof n f i j := sumN_mul _ _ _
      rw [e4, cramer n f hi hr]
      by_cases e : i = r
      · rw [if_pos e, if_pos e.symm, Int.one_mul, hD]
      · rw [if_neg e, if_neg (fun h => e h.symm), Int.zero_mul, Int.mul_zero]
    rw [e1, e3, sumN_one hr, sumN_one hc]
    omega
  have hq : qf (n + 1) f v = 0 := by
    unfold qf
    refine sumN_zero fun i hi => ?_
    have e : (sumN (n + 1) fun j => v i * f i j * v j) = v i * sumN (n + 1) fun j => f i j * v j := by
      rw [← sumN_mul]
      exact sumN_congr fun j _ => by ac_rfl
    rw [e, hG i hi, Int.mul_zero]
  have h0 : v j = 0 := by
    refine Classical.byContradiction fun hne => ?_
    have := hp.2 v ⟨j, hj, hne⟩
    omega
  rw [hv] at h0
  simp only at h0
  omega
end Go.Proofs.Ythajmffhgbenpaa

/- Plain: the projection of a target moved by twice the first row. -/
namespace Go.Proofs.Ythajmffhgbenpaa
set_option linter.unusedSimpArgs false
set_option linter.unusedVariables false

theorem prj_move {b : MX} {t s : List Int} {l l' : List Q2} {R C R' C' : Nat} {G A P G' A' P' : List Int} {D D' : Int} (F : PrjF b t l R C G A P D) (F' : PrjF b s l' R' C' G' A' P' D')
    (hR : 0 < R) (hs : ∀ k, k < C → nth s k = nth t k + 2 * fnOf C b.l 0 k) :
    R' = R ∧ C' = C ∧ D' = D ∧ G' = G ∧ ∀ i, i < R → nth P' i = nth P i + 2 * (if i = 0 then D else 0) := by
  have e1 : (R' : Int) = R := F'.br.symm.trans F.br
  have e2 : (C' : Int) = C := F'.bc.symm.trans F.bc
  obtain rfl : R' = R := by omega
  obtain rfl : C' = C := by omega
  have e3 : G' = G := (MX.mk.inj (F'.gm.symm.trans F.gm)).2.2
  subst e3
  have e4 : A' = A := (MX.mk.inj (Option.some.inj (F'.ad.symm.trans F.ad))).2.2
  subst e4
  have e5 : D' = D := Option.some.inj (F'.dt.symm.trans F.dt)
  subst e5
  refine ⟨rfl, rfl, rfl, rfl, fun i hi => ?_⟩
  obtain ⟨n, rfl⟩ : ∃ n, R' = n + 1 := ⟨R' - 1, by omega⟩
  obtain ⟨PF, _⟩ := def_posF F.df
  have hdd : dets (n + 1) (fnOf (n + 1) G') = D' := by
    have hdt := F.dt
    rw [dtO_yes (isDef_sq F.df)] at hdt
    exact detO_dets _ _ _ hdt
  have hc := cof_col PF (c := 0) (by omega) hi
  rw [hdd] at hc
  rw [F'.pc i hi, F.pc i hi, ← hc, ← sumN_mul, ← sumN_add]
  refine sumN_congr fun j hj => ?_
  have ea : nth A' (i * (n + 1) + j) = cof n (fnOf (n + 1) G') j i := adj_cellG (a := ⟨((n + 1 : Nat) : Int), ((n + 1 : Nat) : Int), A'⟩) F.ad hj hi
  have eg := F.gc j 0 hj (by omega)
  rw [ea, eg]
  have es : (sumN C' fun k => fnOf C' b.l j k * nth s k) = (sumN C' fun k => fnOf C' b.l j k * nth t k) + 2 * sumN C' fun k => fnOf C' b.l j k * fnOf C' b.l 0 k := by
    rw [← sumN_mul, ← sumN_add]
    refine sumN_congr fun k hk => ?_
    rw [hs k hk, Int.mul_add, Int.mul_left_comm (fnOf C' b.l j k) 2]
  rw [es, Int.mul_add, Int.mul_left_comm (cof n (fnOf (n + 1) G') j i) 2]
end Go.Proofs.Ythajmffhgbenpaa

/- Plain: the nearest vector by rounding, and the box's bounds, of a target moved by twice the first row. -/
namespace Go.Proofs.Ythajmffhgbenpaa
set_option linter.unusedSimpArgs false
set_option linter.unusedVariables false

theorem mv2_nth {v : List Int} {i : Nat} (h : i < v.length) : nth (mv2 v) i = nth v i + 2 * (if i = 0 then 1 else 0) := by
  cases v with
  | nil => cases h
  | cons x l => cases i with
    | zero => rfl
    | succ i => show nth l i = nth l i + 2 * 0; omega
theorem cell_move {D n m : Int} {i : Nat} (hD : isNum D = true) (h0 : 0 < D) (hn : isNum n = true) (hm : isNum m = true) (e : m = n + 2 * (if i = 0 then D else 0)) :
    roundQ (makeQ m D) = roundQ (makeQ n D) + 2 * (if i = 0 then 1 else 0) ∧ floorQ (makeQ m D) = floorQ (makeQ n D) + 2 * (if i = 0 then 1 else 0) := by
  rw [makeQ_round hm hD h0, makeQ_round hn hD h0, (makeQ_floor hm hD h0).2, (makeQ_floor hn hD h0).2, e]
  by_cases hi : i = 0
  · rw [if_pos hi, if_pos hi, round_two h0, floor_two h0]; omega
  · rw [if_neg hi, if_neg hi, Int.mul_zero, Int.add_zero]; exact ⟨(Int.add_zero _).symm, (Int.add_zero _).symm⟩
theorem near_move {b : MX} {t s : List Int} {l l' : List Q2} {R C R' C' : Nat} {G A P G' A' P' : List Int} {D D' : Int} (F : PrjF b t l R C G A P D) (F' : PrjF b s l' R' C' G' A' P' D')
    (hR : 0 < R) (hs : ∀ k, k < C → nth s k = nth t k + 2 * fnOf C b.l 0 k) :
    rndL l' = mv2 (rndL l) ∧ ∀ i, i < R → floorQ (nthQ l' i) = floorQ (nthQ l i) + 2 * (if i = 0 then 1 else 0) := by
  obtain ⟨rfl, rfl, rfl, rfl, hP⟩ := prj_move F F' hR hs
  have hDn : isNum D' = true := dtO_num F.dt
  have hl : l.length = R' := by rw [F.li, qsP_length]
  have hl' : l'.length = R' := by rw [F'.li, qsP_length]
  have cell := fun i (hi : i < R') => cell_move (i := i) hDn F.d0 (F.pn i hi) (F'.pn i hi) (hP i hi)
  refine ⟨nth_ext (by rw [mv2_length, rndL_length, rndL_length, hl, hl']) fun i hi => ?_, fun i hi => ?_⟩
  · rw [rndL_length, hl'] at hi
    rw [mv2_nth (by rw [rndL_length, hl]; exact hi), rndL_nth (by omega), rndL_nth (by omega), F.li, F'.li, qsP_nth hi, qsP_nth hi]
    exact (cell i hi).1
  · rw [F.li, F'.li, qsP_nth hi, qsP_nth hi]
    exact (cell i hi).2
end Go.Proofs.Ythajmffhgbenpaa

/- Plain: the list of the vectors that are tried, of a target moved by twice the first row. -/
namespace Go.Proofs.Ythajmffhgbenpaa
set_option linter.unusedSimpArgs false
set_option linter.unusedVariables false

theorem clR_move {b : MX} {t s : List Int} {l l' : List Q2} {q : List Int} (hl : l'.length = l.length) (h0 : 0 < l.length) (hf : ∀ i, i < l.length → floorQ (nthQ l' i) = floorQ (nthQ l i) + 2 * (if i = 0 then 1 else 0)) :
    clR b s l' q = (clR b t l q).map mv2 := by
  unfold clR
  rw [hl]
  have hlow : ∀ (m : List Q2), (lowL m q l.length).length = l.length := fun m => by unfold lowL; simp
  have hhigh : ∀ (m : List Q2), (highL m q l.length).length = l.length := fun m => by unfold highL; simp
  obtain ⟨n, hn⟩ : ∃ n, l.length = n + 1 := ⟨l.length - 1, by omega⟩
  have key := boxF_mv2 (lo := lowL l q l.length) (hi := highL l q l.length) (lo' := lowL l' q l.length) (hi' := highL l' q l.length)
    ⟨by rw [lowL_nth h0, lowL_nth h0, hf 0 h0, if_pos rfl]; omega, by rw [highL_nth h0, highL_nth h0, hf 0 h0, if_pos rfl]; omega⟩
    (fun i hi => by
      by_cases h : i < l.length
      · rw [lowL_nth h, lowL_nth h, highL_nth h, highL_nth h, hf i h, if_neg (by omega), Int.mul_zero, Int.add_zero]; exact ⟨rfl, rfl⟩
      · rw [nth_out _ _ (by rw [hlow]; omega), nth_out _ _ (by rw [hlow]; omega), nth_out _ _ (by rw [hhigh]; omega), nth_out _ _ (by rw [hhigh]; omega)]; exact ⟨rfl, rfl⟩) n
  rw [← hn] at key
  exact key
end Go.Proofs.Ythajmffhgbenpaa

/- Plain: the closest vectors of a target moved by twice the first row are moved as well. -/
namespace Go.Proofs.Ythajmffhgbenpaa
set_option linter.unusedSimpArgs false
set_option linter.unusedVariables false
open Go.RowKit

theorem dK_parts {R C : Nat} {b x t : List Int} (h : dOk R C b x t = true) : isMat R C b = true ∧ x.length = R ∧ allNum x = true ∧ t.length = C ∧ allNum t = true ∧ dVal R C b x t = distF R C (fnOf C b) (nth t) (nth x) ∧ distF R C (fnOf C b) (nth t) (nth x) ≤ 400000000 := by
  obtain ⟨e1, e2, e3⟩ := dVal_dist h
  have e3 : dVal R C b x t = distF R C (fnOf C b) (nth t) (nth x) := e3
  have h2 := h
  unfold dOk at h2
  simp only [Bool.and_eq_true, Bool.not_eq_true', beq_eq_false_iff_ne] at h2
  obtain ⟨⟨⟨h3, _⟩, h4⟩, h5⟩ := h2
  have h6 := h3
  unfold mulOk at h6
  simp only [Bool.and_eq_true, beq_iff_eq] at h6
  refine ⟨h6.1.1.2, e1, ((isMat_iff _ _ _).1 h6.1.1.1).2.2.2, e2, h4, e3, ?_⟩
  rw [← e3]
  unfold dVal
  rw [if_pos h]
  rcases dB_or (mulV 1 x.length x R C b) t t.length with e | e
  · exact absurd e h5
  · exact ((isNum_iff _).1 e).2
theorem dist_move {R C : Nat} {B : Nat → Nat → Int} {t s y : List Int} (hR : 0 < R) (hy : y.length = R) (hs : ∀ k, k < C → nth s k = nth t k + 2 * B 0 k) : distF R C B (nth s) (nth (mv2 y)) = distF R C B (nth t) (nth y) := by
  rw [← dist_shift (n := R) (m := C) (B := B) (t := nth t) (y := nth y) hR]
  unfold distF
  refine sumN_congr fun k hk => ?_
  have e : (sumN R fun i => nth (mv2 y) i * B i k) = sumN R fun i => (nth y i + if i = 0 then 2 else 0) * B i k := sumN_congr fun i hi => by
    rw [mv2_nth (by omega)]
    by_cases h : i = 0
    · rw [if_pos h, if_pos h]; rfl
    · rw [if_neg h, if_neg h]; rfl
  rw [e, hs k hk]
theorem mv2_inj {x y : List Int} (h : mv2 x = mv2 y) : x = y := by
  cases x with
  | nil => cases y with
    | nil => rfl
    | cons b y => cases h
  | cons a x => cases y with
    | nil => cases h
    | cons b y =>
      have h1 := List.cons.inj h
      have h2 : a = b := by have := h1.1; omega
      rw [h2, h1.2]
/-- the first number of a vector of a box -/
theorem boxF_first {lo hi : List Int} {i : Nat} {v : List Int} (h : v ∈ boxF lo hi (i + 1)) : nth lo 0 ≤ nth v 0 ∧ nth v 0 ≤ nth hi 0 := by
  induction i generalizing v with
  | zero =>
    rw [boxF, boxStep, List.mem_flatMap] at h
    obtain ⟨u, hu, hv⟩ := h
    simp [boxF] at hu
    subst hu
    unfold grownBy at hv
    rw [List.mem_map] at hv
    obtain ⟨k, hk, rfl⟩ := hv
    rw [List.mem_range] at hk
    unfold width at hk
    have e : nth ([] ++ [nth lo 0 + (k : Int)]) 0 = nth lo 0 + (k : Int) := rfl
    rw [e]
    omega
  | succ i ih =>
    rw [boxF, boxStep, List.mem_flatMap] at h
    obtain ⟨u, hu, hv⟩ := h
    have hl := boxF_len hu
    have h1 := ih hu
    unfold grownBy at hv
    rw [List.mem_map] at hv
    obtain ⟨k, _, rfl⟩ := hv
    cases u with
    | nil => cases hl
    | cons a u => exact h1
theorem box_width {lo hi : List Int} {n : Nat} (h : boxB lo hi (n + 1) = true) : nth hi 0 - nth lo 0 ≤ 3999 := by
  have h1 := boxB_le h (show 1 ≤ n + 1 by omega)
  have h2 := boxB_len h1
  have e : (boxF lo hi 1).length = (boxF lo hi 0).length * width (nth lo 0) (nth hi 0) := boxF_length lo hi 0
  rw [e] at h2
  have e2 : (boxF lo hi 0).length = 1 := by simp [boxF]
  rw [e2, Nat.one_mul] at h2
  unfold width at h2
  omega
theorem PrjF.sys {b : MX} {t : List Int} {l : List Q2} {n C : Nat} {G A P : List Int} {D : Int} (F : PrjF b t l (n + 1) C G A P D) :
    PosF (n + 1) (fun i j => sumN C fun k => fnOf C b.l i k * fnOf C b.l j k) ∧ dets (n + 1) (fun i j => sumN C fun k => fnOf C b.l i k * fnOf C b.l j k) = D ∧
    (∀ r, r < n + 1 → (sumN (n + 1) fun j => (sumN C fun k => fnOf C b.l r k * fnOf C b.l j k) * nth P j) = D * sumN C fun k => fnOf C b.l r k * nth t k) ∧
    (∀ i k, i < n + 1 → k < C → -20000 ≤ fnOf C b.l i k ∧ fnOf C b.l i k ≤ 20000) := by
  have hG : ∀ i j, i < n + 1 → j < n + 1 → fnOf (n + 1) G i j = sumN C fun k => fnOf C b.l i k * fnOf C b.l j k := F.gc
  obtain ⟨PF, _⟩ := def_posF F.df
  have hdd : dets (n + 1) (fnOf (n + 1) G) = D := by
    have hdt := F.dt
    rw [dtO_yes (isDef_sq F.df)] at hdt
    exact detO_dets _ _ _ hdt
  have hdd' : dets (n + 1) (fun i j => sumN C fun k => fnOf C b.l i k * fnOf C b.l j k) = D := by
    rw [← hdd]
    exact dets_congr fun a b ha hb => (hG a b ha hb).symm
  refine ⟨⟨fun i j hi hj => by rw [← hG i j hi hj, ← hG j i hj hi]; exact PF.sym i j hi hj, fun v hv => ?_⟩, hdd', fun r hr => ?_, fun i k hi hk => ?_⟩
  · have := PF.pos v hv
    have e : qf (n + 1) (fnOf (n + 1) G) v = qf (n + 1) (fun i j => sumN C fun k => fnOf C b.l i k * fnOf C b.l j k) v := by
      unfold qf
      exact sumN_congr fun i hi => sumN_congr fun j hj => by rw [hG i j hi hj]
    rwa [e] at this
  · have key := cram_solve (f := fun i j => sumN C fun k => fnOf C b.l i k * fnOf C b.l j k) (u := fun i => sumN C fun k => fnOf C b.l i k * nth t k) (P := nth P) (fun j hj => by
      rw [F.pc j hj]
      refine sumN_congr fun i hi => ?_
      have ea : nth A (j * (n + 1) + i) = cof n (fnOf (n + 1) G) i j := adj_cellG (a := ⟨((n + 1 : Nat) : Int), ((n + 1 : Nat) : Int), A⟩) F.ad hi hj
      rw [ea]
      congr 1
      unfold cof
      congr 1
      exact dets_congr fun a b ha hb => hG _ _ (skip_lt ha (by omega)) (skip_lt hb (by omega))) hr
    rw [hdd'] at key
    exact key
  · have hsq := isDef_sq F.df
    obtain ⟨_, R', e, _, _, hlen, hnum⟩ := isSq_nat hsq
    have e' : R' = n + 1 := by omega
    have hg := hG i i hi hi
    have hb := (isNum_iff _).1 (hnum (i * (n + 1) + i) (by rw [hlen, e']; exact idx_lt hi hi))
    have hb2 : fnOf (n + 1) G i i ≤ 400000000 := hb.2
    rw [hg] at hb2
    exact sq_part (n := C) (f := fun k => fnOf C b.l i k) (M := 20000) (by omega) (by decide) hk
theorem shf_law {b : MX} {t s : List Int} {L L' : List (List Int)} {d d' : Int} (h : closO b t = some (L, d)) (h' : closO b s = some (L', d')) (hb0 : b.r ≠ 0)
    (hs : ∀ k, k < t.length → nth s k = nth t k + 2 * nth b.l k) (hC : t.length ≤ 3) (hT : ∀ k, k < t.length → isNum (nth t k) = true → (-5 ≤ nth t k ∧ nth t k ≤ 5) ∨ bigT (nth t k)) : d' = d ∧ L' = L.map mv2 := by
  obtain ⟨R, C, l, q, F⟩ := clo_facts h
  obtain ⟨R', C', l', q', F'⟩ := clo_facts h'
  have eR := F.br.symm.trans F'.br
  have eC := F.bc.symm.trans F'.bc
  obtain rfl : R = R' := by omega
  obtain rfl : C = C' := by omega
  obtain ⟨R1, C1, G, A, P, D, J⟩ := prj_parts F.prj
  have eR1 := F.br.symm.trans J.br
  have eC1 := F.bc.symm.trans J.bc
  obtain rfl : R = R1 := by omega
  obtain rfl : C = C1 := by omega
  obtain ⟨R1, C1, G', A', P', D', J'⟩ := prj_parts F'.prj
  have eR1 := F.br.symm.trans J'.br
  have eC1 := F.bc.symm.trans J'.bc
  obtain rfl : R = R1 := by omega
  obtain rfl : C = C1 := by omega
  have hR : 0 < R := by have := F.br; omega
  rw [F.tl] at hs hC hT
  obtain ⟨n, rfl⟩ : ∃ n, R = n + 1 := ⟨R - 1, by omega⟩
  have hs' : ∀ k, k < C → nth s k = nth t k + 2 * fnOf C b.l 0 k := fun k hk => by
    rw [hs k hk]; unfold fnOf; rw [Nat.zero_mul, Nat.zero_add]
  obtain ⟨hnear, hfl⟩ := near_move J J' hR hs'
  obtain ⟨_, _, hDD, _, hPP⟩ := prj_move J J' hR hs'
  obtain ⟨PF, hdet, hsys, hB⟩ := J.sys
  obtain ⟨_, _, hsys', _⟩ := J'.sys
  have eb : ∀ u x, dK b u x = dOk (n + 1 : Nat) C b.l x u := fun u x => by unfold dK; rw [F.br, F.bc]
  have ed : ∀ u x, dF b u x = dVal (n + 1 : Nat) C b.l x u := fun u x => by unfold dF; rw [F.br, F.bc]
  have hk1 := dK_parts ((eb t (rndL l)).symm.trans F.rk)
  have hk2 := dK_parts ((eb s (rndL l')).symm.trans F'.rk)
  obtain ⟨hmat, hnl, hnn, htl, htn, hnd, hnd4⟩ := hk1
  obtain ⟨_, hnl', hnn', hsl, hsn, hnd', hnd4'⟩ := hk2
  have ends : dF b s (rndL l') = dF b t (rndL l) := by
    rw [ed, ed, hnd, hnd', hnear]
    exact dist_move hR hnl hs'
  have eq : q' = q := by
    have e1 := F'.bx
    rw [ends, F.bx] at e1
    exact (Option.some.inj e1).symm
  subst eq
  have hll := F.ll
  have hcl := clR_move (b := b) (t := t) (s := s) (q := q') (l := l) (l' := l') (by rw [F.ll, F'.ll]) (by omega) (by rw [F.ll]; exact hfl)
  -- what is listed on both sides
  have fin : d' = d → (∀ y, y ∈ clR b t l q' → ((dK b s (mv2 y) = true ∧ dF b s (mv2 y) = d) ↔ (dK b t y = true ∧ dF b t y = d))) → d' = d ∧ L' = L.map mv2 := fun e hp => by
    refine ⟨e, ?_⟩
    rw [F'.list, F.list, hcl, List.filter_map]
    congr 1
    refine List.filter_congr fun y hy => ?_
    have := hp y hy
    rw [e]
    simp only [Function.comp]
    rw [Bool.eq_iff_iff, Bool.and_eq_true, Bool.and_eq_true, decide_eq_true_eq, decide_eq_true_eq]
    exact this
  by_cases hD1 : D = 1
  · -- the one vector that is nearest
    have one : ∀ {t l L d} {P : List Int} (F : CloF b t L d (n + 1) C l q'), (∀ i, i < n + 1 → nth (rndL l) i = nth P i) → (∀ r, r < n + 1 → (sumN (n + 1) fun j => (sumN C fun k => fnOf C b.l r k * fnOf C b.l j k) * nth P j) = 1 * sumN C fun k => fnOf C b.l r k * nth t k) →
        d = dF b t (rndL l) ∧ ∀ y, (dK b t y = true ∧ dF b t y = d) ↔ y = rndL l := by
      intro t l L d P F hn hsys
      obtain ⟨_, hnl, _, _, _, hnd, _⟩ := dK_parts ((eb t (rndL l)).symm.trans F.rk)
      have hval : ∀ y, distF (n + 1) C (fnOf C b.l) (nth t) (nth y) = qf (n + 1) (fun i j => sumN C fun k => fnOf C b.l i k * fnOf C b.l j k) (fun i => nth y i - nth P i) + sumN C fun k => ((sumN (n + 1) fun i => nth P i * fnOf C b.l i k) - nth t k) * ((sumN (n + 1) fun i => nth P i * fnOf C b.l i k) - nth t k) := fun y => by
        have h1 := prj_dist hsys (nth y)
        simp only [Int.one_mul] at h1
        exact h1
      have hz : qf (n + 1) (fun i j => sumN C fun k => fnOf C b.l i k * fnOf C b.l j k) (fun i => nth (rndL l) i - nth P i) = 0 := qf_zero fun i hi => by rw [hn i hi]; omega
      have hnear := hval (rndL l)
      rw [hz] at hnear
      have hbest := F.best
      rw [ed, hnd] at hbest
      have hd : d = dF b t (rndL l) := by
        obtain ⟨x, L2, rfl⟩ : ∃ x L2, L = x :: L2 := by
          cases L with
          | nil => exact absurd rfl F.ne
          | cons x L2 => exact ⟨x, L2, rfl⟩
        have hm : x ∈ x :: L2 := List.mem_cons_self ..
        rw [F.list, List.mem_filter, Bool.and_eq_true, decide_eq_true_eq] at hm
        obtain ⟨_, k1, k2⟩ := hm
        obtain ⟨_, _, _, _, _, kd, _⟩ := dK_parts ((eb t x).symm.trans k1)
        rw [ed, kd] at k2
        have h1 := hval x
        have h2 := PF.nonneg (fun i => nth x i - nth P i)
        rw [ed, hnd]
        omega
      refine ⟨hd, fun y => ⟨fun ⟨k1, k2⟩ => ?_, fun e => by rw [e]; exact ⟨F.rk, hd.symm⟩⟩⟩
      obtain ⟨_, kl, _, _, _, kd, _⟩ := dK_parts ((eb t y).symm.trans k1)
      rw [ed, kd] at k2
      rw [ed, hnd] at hd
      have h1 := hval y
      refine nth_ext (by rw [kl, hnl]) fun i hi => ?_
      rw [hn i (by omega)]
      refine Classical.byContradiction fun hne => ?_
      have := PF.pos (fun i => nth y i - nth P i) ⟨i, by omega, by omega⟩
      omega
    have hr1 : ∀ i, i < n + 1 → nth (rndL l) i = nth P i := fun i hi => by
      rw [rndL_nth (by omega), J.li, qsP_nth hi, makeQ_round (J.pn i hi) (dtO_num J.dt) J.d0, hD1]
      omega
    have hr2 : ∀ i, i < n + 1 → nth (rndL l') i = nth P' i := fun i hi => by
      rw [rndL_nth (by have := F'.ll; omega), J'.li, qsP_nth hi, makeQ_round (J'.pn i hi) (dtO_num J'.dt) J'.d0, hDD, hD1]
      omega
    obtain ⟨o1, o2⟩ := one F hr1 (by rw [hD1] at hsys; exact hsys)
    obtain ⟨p1, p2⟩ := one F' hr2 (by rw [hDD, hD1] at hsys'; exact hsys')
    have edd : d' = d := by rw [o1, p1, ends]
    refine fin edd fun y hy => ?_
    rw [o2 y, ← edd, p2 (mv2 y), hnear]
    exact ⟨fun e => mv2_inj e, fun e => by rw [e]⟩
  · have hD2 : 2 ≤ D := by have := J.d0; omega
    have htk : ∀ k, k < C → isNum (nth t k) = true := fun k hk => (allNum_iff _).1 htn k (by omega)
    have hsmall := limit_no (B := fnOf C b.l) (t := nth t) (P := nth P) (y := nth (rndL l)) hC hD2 PF hdet hsys (fun i hi => (isNum_iff _).1 (J.un i hi)) (fun i hi => (isNum_iff _).1 (J.pn i hi)) hB hnd4 (fun k hk => hT k hk (htk k hk))
    have hbox : ∀ y, y ∈ clR b t l q' → y.length = n + 1 ∧ -300000000 ≤ nth y 0 ∧ nth y 0 ≤ 300000000 := fun y hy => by
      unfold clR at hy
      have hbb := F.bb
      rw [F.ll] at hy hbb
      have h1 := boxF_first hy
      have h2 := box_width hbb
      refine ⟨boxF_len hy, ?_⟩
      rw [lowL_nth (by omega), highL_nth (by omega)] at h1 h2
      have hq0 : floorQ (nthQ l 0) = nth P 0 / D := by rw [J.li, qsP_nth (by omega), (makeQ_floor (J.pn 0 (by omega)) (dtO_num J.dt) J.d0).2]
      rw [hq0] at h1 h2
      have hp := (isNum_iff _).1 (J.pn 0 (by omega))
      have b1 : nth P 0 / D ≤ 200000000 := by
        refine Int.le_of_lt_add_one (Int.ediv_lt_of_lt_mul (by omega) ?_)
        have := Int.mul_le_mul_of_nonneg_left hD2 (show (0 : Int) ≤ 200000000 + 1 by decide)
        omega
      have b2 : -200000001 ≤ nth P 0 / D := by
        refine (Int.le_ediv_iff_mul_le (by omega)).2 ?_
        have := Int.mul_le_mul_of_nonneg_left hD2 (show (0 : Int) ≤ 200000001 by decide)
        omega
      omega
    have hss : ∀ k, k < C → -399980000 ≤ nth s k ∧ nth s k ≤ 399980000 := fun k hk => by
      have h1 := hsmall k hk
      have h2 := hB 0 k (by omega) hk
      rw [hs' k hk]
      omega
    have htt : ∀ k, k < C → -399980000 ≤ nth t k ∧ nth t k ≤ 399980000 := fun k hk => by
      have h1 := hsmall k hk
      omega
    have both : ∀ y, y ∈ clR b t l q' → (dK b s (mv2 y) = true ↔ dK b t y = true) ∧ (dK b t y = true → dF b s (mv2 y) = dF b t y) := fun y hy => by
      obtain ⟨yl, y1, y2⟩ := hbox y hy
      have hdm := dist_move (B := fnOf C b.l) hR yl hs'
      have fwd : dK b t y = true → dK b s (mv2 y) = true := fun k1 => by
        obtain ⟨_, _, kn, _, _, _, k4⟩ := dK_parts ((eb t y).symm.trans k1)
        rw [eb]
        refine dOk_of hmat (by rw [mv2_length]; exact yl) ((allNum_iff _).2 fun i hi => ?_) hsl hsn hss (by rw [← hdm] at k4; exact k4)
        rw [mv2_length] at hi
        rw [mv2_nth hi]
        have h1 := (isNum_iff _).1 ((allNum_iff _).1 kn i hi)
        refine (isNum_iff _).2 ?_
        by_cases e : i = 0
        · subst e; rw [if_pos rfl]; omega
        · rw [if_neg e]; omega
      have bwd : dK b s (mv2 y) = true → dK b t y = true := fun k1 => by
        obtain ⟨_, _, kn, _, _, _, k4⟩ := dK_parts ((eb s (mv2 y)).symm.trans k1)
        rw [eb]
        refine dOk_of hmat yl ((allNum_iff _).2 fun i hi => ?_) htl htn htt (by rw [hdm] at k4; exact k4)
        have h1 := (isNum_iff _).1 ((allNum_iff _).1 kn i (by rw [mv2_length]; exact hi))
        rw [mv2_nth hi] at h1
        refine (isNum_iff _).2 ?_
        by_cases e : i = 0
        · subst e; omega
        · rw [if_neg e] at h1; omega
      refine ⟨⟨bwd, fwd⟩, fun k1 => ?_⟩
      obtain ⟨_, _, _, _, _, kd, _⟩ := dK_parts ((eb t y).symm.trans k1)
      obtain ⟨_, _, _, _, _, kd', _⟩ := dK_parts ((eb s (mv2 y)).symm.trans (fwd k1))
      rw [ed, ed, kd, kd', hdm]
    have ex : ∀ {t l L d} (F : CloF b t L d (n + 1) C l q'), ∃ x, x ∈ clR b t l q' ∧ dK b t x = true ∧ dF b t x = d := by
      intro t l L d F
      obtain ⟨x, L2, rfl⟩ : ∃ x L2, L = x :: L2 := by
        cases L with
        | nil => exact absurd rfl F.ne
        | cons x L2 => exact ⟨x, L2, rfl⟩
      have hm : x ∈ x :: L2 := List.mem_cons_self ..
      rw [F.list, List.mem_filter, Bool.and_eq_true, decide_eq_true_eq] at hm
      exact ⟨x, hm.1, hm.2⟩
    have edd : d' = d := by
      obtain ⟨x, x1, x2, x3⟩ := ex F
      obtain ⟨z, z1, z2, z3⟩ := ex F'
      rw [hcl, List.mem_map] at z1
      obtain ⟨y, y1, rfl⟩ := z1
      have a1 := (both x x1).2 x2
      have a2 := F'.min (mv2 x) ((both x x1).1.2 x2)
      have a3 := (both y y1).1.1 z2
      have a4 := (both y y1).2 a3
      have a5 := F.min y a3
      omega
    refine fin edd fun y hy => ?_
    obtain ⟨k1, k2⟩ := both y hy
    constructor
    · intro ⟨a, b⟩
      have := k1.1 a
      exact ⟨this, by rw [← k2 this]; exact b⟩
    · intro ⟨a, b⟩
      exact ⟨k1.2 a, by rw [k2 a]; exact b⟩
end Go.Proofs.Ythajmffhgbenpaa
