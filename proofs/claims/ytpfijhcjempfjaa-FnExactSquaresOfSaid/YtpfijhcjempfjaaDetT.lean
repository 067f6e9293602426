/- Determinants of small squares, in plain numbers: linear in each row, 0 with two equal rows; condensation; a symmetric form with positive leading minors is positive. -/
import Derived.Test.YtpfijhcjempfjaaLMin
namespace Go.Proofs.Ytpfijhcjempfjaa

/-! ### sums -/
def sumN : Nat → (Nat → Int) → Int
  | 0, _ => 0
  | n + 1, f => sumN n f + f n
theorem sumN_congr {n : Nat} {f g : Nat → Int} (h : ∀ i, i < n → f i = g i) : sumN n f = sumN n g := by
  induction n with
  | zero => rfl
  | succ n ih => rw [sumN, sumN, ih (fun i hi => h i (by omega)), h n (by omega)]
theorem sumN_zero {n : Nat} {f : Nat → Int} (h : ∀ i, i < n → f i = 0) : sumN n f = 0 := by
  induction n with
  | zero => rfl
  | succ n ih => rw [sumN, ih (fun i hi => h i (by omega)), h n (by omega)]; rfl
theorem sumN_add (n : Nat) (f g : Nat → Int) : sumN n (fun i => f i + g i) = sumN n f + sumN n g := by
  induction n with
  | zero => rfl
  | succ n ih => simp only [sumN, ih]; omega
theorem sumN_mul (n : Nat) (c : Int) (f : Nat → Int) : sumN n (fun i => c * f i) = c * sumN n f := by
  induction n with
  | zero => simp [sumN]
  | succ n ih => simp only [sumN, ih, Int.mul_add]
theorem sumN_neg (n : Nat) (f : Nat → Int) : sumN n (fun i => - f i) = - sumN n f := by
  induction n with
  | zero => rfl
  | succ n ih => simp only [sumN, ih]; omega
theorem sumN_first (n : Nat) (f : Nat → Int) : sumN (n + 1) f = f 0 + sumN n (fun i => f (i + 1)) := by
  induction n with
  | zero => simp [sumN]
  | succ n ih => rw [sumN, ih]; simp only [sumN]; omega
theorem sumN_swap (n m : Nat) (f : Nat → Nat → Int) : sumN n (fun i => sumN m fun j => f i j) = sumN m (fun j => sumN n fun i => f i j) := by
  induction n with
  | zero => simp only [sumN]; exact (sumN_zero fun _ _ => rfl).symm
  | succ n ih => simp only [sumN, ih]; rw [← sumN_add]

/-! ### determinants -/
def skip (j b : Nat) : Nat := if b < j then b else b + 1
def dets : Nat → (Nat → Nat → Int) → Int
  | 0, _ => 1
  | n + 1, f => sumN (n + 1) fun j => sgn j * f 0 j * dets n fun a b => f (a + 1) (skip j b)
theorem skip_lt {j b n : Nat} (h : b < n) (_ : j ≤ n) : skip j b < n + 1 := by unfold skip; split <;> omega
theorem dets_congr {n : Nat} {f g : Nat → Nat → Int} (h : ∀ i j, i < n → j < n → f i j = g i j) : dets n f = dets n g := by
  induction n generalizing f g with
  | zero => rfl
  | succ n ih =>
    simp only [dets]
    refine sumN_congr fun j hj => ?_
    rw [h 0 j (by omega) hj, ih fun a b ha hb => h (a + 1) (skip j b) (by omega) (skip_lt hb (by omega))]
def setR (f : Nat → Nat → Int) (i : Nat) (r : Nat → Int) : Nat → Nat → Int := fun a b => if a = i then r b else f a b
theorem setR_up (f : Nat → Nat → Int) (i j : Nat) (r : Nat → Int) : (fun a b => setR f (i + 1) r (a + 1) (skip j b)) = setR (fun a b => f (a + 1) (skip j b)) i (fun b => r (skip j b)) := by
  funext a b
  unfold setR
  by_cases h : a = i <;> simp [h]
theorem setR_self (f : Nat → Nat → Int) (i : Nat) : setR f i (f i) = f := by
  funext a b; unfold setR; split
  · rename_i h; rw [h]
  · rfl
theorem dets_lin (n : Nat) (f : Nat → Nat → Int) (i : Nat) (hi : i < n) (r s : Nat → Int) (c d : Int) :
    dets n (setR f i fun b => c * r b + d * s b) = c * dets n (setR f i r) + d * dets n (setR f i s) := by
  induction n generalizing f i r s with
  | zero => omega
  | succ n ih =>
    cases i with
    | zero =>
      simp only [dets]
      rw [← sumN_mul, ← sumN_mul, ← sumN_add]
      refine sumN_congr fun j _ => ?_
      simp only [setR, if_true, Nat.add_one_ne_zero, if_false]
      generalize dets n _ = D
      rw [Int.mul_add, Int.add_mul]
      congr 1 <;> ac_rfl
    | succ i =>
      simp only [dets]
      rw [← sumN_mul, ← sumN_mul, ← sumN_add]
      refine sumN_congr fun j _ => ?_
      rw [setR_up, setR_up, setR_up, ih _ _ (by omega)]
      have e : ∀ q : Nat → Int, setR f (i + 1) q 0 j = f 0 j := fun q => by simp [setR]
      rw [e, e, e, Int.mul_add]
      congr 1 <;> ac_rfl
theorem skip_skip {j k : Nat} (h : k < j) (b : Nat) : skip j (skip k b) = skip k (skip (j - 1) b) := by
  unfold skip
  by_cases h1 : b < k
  · simp only [h1, if_true]
    rw [if_pos (by omega), if_pos (show b < j - 1 by omega), if_pos h1]
  · simp only [h1, if_false]
    by_cases h2 : b < j - 1
    · rw [if_pos (by omega), if_pos h2, if_neg h1]
    · rw [if_neg (by omega), if_neg h2, if_neg (by omega)]
theorem sgn_sq (j : Nat) : sgn j * sgn j = 1 := by unfold sgn; split <;> rfl
theorem sgn_add (i j : Nat) : sgn (i + j) = sgn i * sgn j := by
  induction j with
  | zero => simp [sgn]
  | succ j ih => rw [← Nat.add_assoc, sgn_succ, sgn_succ, ih, Int.mul_neg]
theorem dets_two (m : Nat) (f : Nat → Nat → Int) (h : ∀ b, f 0 b = f 1 b) : dets (m + 2) f = 0 := by
  obtain ⟨T, hT⟩ : ∃ T : Nat → Nat → Int, T = fun j k => sgn j * f 0 j * (sgn k * f 1 (skip j k) * dets m fun a b => f (a + 2) (skip j (skip k b))) := ⟨_, rfl⟩
  have e0 : dets (m + 2) f = sumN (m + 2) fun j => sumN (m + 1) fun k => T j k := by
    subst hT
    simp only [dets]
    refine sumN_congr fun j _ => ?_
    rw [← sumN_mul]
  have anti : ∀ j k, j ≤ k → T j k = - T (k + 1) j := by
    intro j k hjk
    subst hT
    simp only
    have e1 : (fun a b => f (a + 2) (skip (k + 1) (skip j b))) = fun a b => f (a + 2) (skip j (skip k b)) := by
      funext a b; rw [skip_skip (by omega)]; rfl
    rw [e1, sgn_succ, show skip j k = k + 1 by unfold skip; rw [if_neg (by omega)], show skip (k + 1) j = j by unfold skip; rw [if_pos (by omega)], h j, h (k + 1)]
    generalize dets m _ = D
    simp only [Int.neg_mul, Int.neg_neg]
    ac_rfl
  have split : ∀ j k, T j k = (if k < j then T j k else 0) + (if k < j then 0 else T j k) := by
    intro j k; split <;> omega
  have eL : sumN (m + 2) (fun j => sumN (m + 1) fun k => if k < j then T j k else 0) = sumN (m + 1) fun j => sumN (m + 1) fun k => if k ≤ j then T (j + 1) k else 0 := by
    rw [sumN_first, sumN_zero (n := m + 1) (fun k _ => if_neg (by omega)), Int.zero_add]
    refine sumN_congr fun j _ => sumN_congr fun k _ => ?_
    by_cases hk : k ≤ j
    · rw [if_pos (by omega), if_pos hk]
    · rw [if_neg (by omega), if_neg hk]
  have eU : sumN (m + 2) (fun j => sumN (m + 1) fun k => if k < j then 0 else T j k) = sumN (m + 1) fun k => sumN (m + 1) fun j => if j ≤ k then - T (k + 1) j else 0 := by
    rw [sumN_swap]
    refine sumN_congr fun k hk => ?_
    rw [sumN, if_pos (by omega), Int.add_zero]
    refine sumN_congr fun j _ => ?_
    by_cases hj : j ≤ k
    · rw [if_neg (by omega), if_pos hj, anti j k hj]
    · rw [if_pos (by omega), if_neg hj]
  rw [e0, sumN_congr fun j _ => sumN_congr fun k _ => split j k, sumN_congr fun j _ => sumN_add _ _ _, sumN_add, eL, eU, ← sumN_add]
  refine sumN_zero fun j _ => ?_
  rw [← sumN_add]
  refine sumN_zero fun k _ => ?_
  split <;> omega
/-- two neighbouring rows are alike -/
theorem dets_adj (n : Nat) (f : Nat → Nat → Int) (i : Nat) (hi : i + 1 < n) (h : ∀ b, f i b = f (i + 1) b) : dets n f = 0 := by
  induction n generalizing f i with
  | zero => omega
  | succ n ih =>
    cases i with
    | zero =>
      obtain ⟨m, rfl⟩ : ∃ m, n = m + 1 := ⟨n - 1, by omega⟩
      exact dets_two m f h
    | succ i =>
      simp only [dets]
      refine sumN_zero fun j _ => ?_
      rw [ih _ i (by omega) fun b => h (skip j b), Int.mul_zero]
theorem dets_row_zero (n : Nat) (f : Nat → Nat → Int) (i : Nat) (hi : i < n) (h : ∀ b, f i b = 0) : dets n f = 0 := by
  have := dets_lin n f i hi (fun _ => 0) (fun _ => 0) 0 0
  simp only [Int.zero_mul, Int.add_zero] at this
  rw [← this]
  congr 1
  funext a b; unfold setR
  by_cases e : a = i
  · rw [if_pos e, e, h]
  · rw [if_neg e]
theorem dets_add (n : Nat) (f : Nat → Nat → Int) (i : Nat) (hi : i < n) (r s : Nat → Int) : dets n (setR f i fun b => r b + s b) = dets n (setR f i r) + dets n (setR f i s) := by
  have := dets_lin n f i hi r s 1 1
  simpa using this
/-- neighbouring rows change places -/
theorem dets_swap (n : Nat) (f : Nat → Nat → Int) (i : Nat) (hi : i + 1 < n) (r s : Nat → Int) : dets n (setR (setR f i r) (i + 1) s) = - dets n (setR (setR f i s) (i + 1) r) := by
  have z : ∀ q : Nat → Int, dets n (setR (setR f i q) (i + 1) q) = 0 := fun q => dets_adj n _ i hi fun b => by
    show setR (setR f i q) (i + 1) q i b = setR (setR f i q) (i + 1) q (i + 1) b
    simp [setR]
  have comm : ∀ p q : Nat → Int, setR (setR f i p) (i + 1) q = setR (setR f (i + 1) q) i p := fun p q => by
    funext a b; unfold setR
    by_cases h1 : a = i + 1
    · rw [if_pos h1, if_neg (by omega), if_pos h1]
    · rw [if_neg h1]; split <;> first | rfl | simp [h1]
  have h := z fun b => r b + s b
  rw [dets_add n _ (i + 1) hi, comm, comm, dets_add n _ i (by omega), dets_add n _ i (by omega), ← comm, ← comm, ← comm, ← comm, z, z] at h
  omega
/-- rows i and k are alike -/
theorem dets_alike (n : Nat) (d : Nat) : ∀ (f : Nat → Nat → Int) (i : Nat), i + d + 1 < n → (∀ b, f i b = f (i + d + 1) b) → dets n f = 0 := by
  induction d with
  | zero => intro f i hi h; exact dets_adj n f i hi h
  | succ d ih =>
    intro f i hi h
    have e : f = setR (setR f (i + d + 1) (f (i + d + 1))) (i + d + 1 + 1) (f (i + d + 1 + 1)) := by rw [setR_self, setR_self]
    rw [e, dets_swap n f (i + d + 1) (by omega)]
    rw [ih (setR (setR f (i + d + 1) (f (i + d + 1 + 1))) (i + d + 1 + 1) (f (i + d + 1))) i (by omega) (fun b => ?_)]
    · rfl
    · show setR (setR f (i + d + 1) (f (i + d + 1 + 1))) (i + d + 1 + 1) (f (i + d + 1)) i b = setR (setR f (i + d + 1) (f (i + d + 1 + 1))) (i + d + 1 + 1) (f (i + d + 1)) (i + d + 1) b
      simp only [setR]
      rw [if_neg (by omega), if_neg (by omega), if_neg (by omega), h b]
      simp [Nat.add_assoc]
theorem dets_equal (n : Nat) (f : Nat → Nat → Int) (i k : Nat) (hi : i < n) (hk : k < n) (hne : i ≠ k) (h : ∀ b, f i b = f k b) : dets n f = 0 := by
  rcases Nat.lt_or_gt_of_ne hne with hlt | hlt
  · obtain ⟨d, rfl⟩ : ∃ d, k = i + d + 1 := ⟨k - i - 1, by omega⟩
    exact dets_alike n d f i hk h
  · obtain ⟨d, rfl⟩ : ∃ d, i = k + d + 1 := ⟨i - k - 1, by omega⟩
    exact dets_alike n d f k hi fun b => (h b).symm
/-- row i times c, plus d times row k -/
theorem dets_row (n : Nat) (f : Nat → Nat → Int) (i k : Nat) (hi : i < n) (hk : k < n) (hne : i ≠ k) (c d : Int) : dets n (setR f i fun b => c * f i b + d * f k b) = c * dets n f := by
  rw [dets_lin n f i hi, setR_self, dets_equal n (setR f i (f k)) i k hi hk hne (fun b => by simp [setR, Ne.symm hne]), Int.mul_zero, Int.add_zero]
theorem dets_col_zero (n : Nat) (f : Nat → Nat → Int) (h : ∀ a, f a 0 = 0) : dets (n + 1) f = 0 := by
  induction n generalizing f with
  | zero => simp [dets, sumN, h]
  | succ n ih =>
    rw [dets]
    refine sumN_zero fun j _ => ?_
    by_cases hj : j = 0
    · rw [hj, h, Int.mul_zero, Int.zero_mul]
    · rw [ih _ fun a => by rw [show skip j 0 = 0 by unfold skip; rw [if_pos (by omega)], h], Int.mul_zero]
theorem dets_corner (n : Nat) (f : Nat → Nat → Int) (h : ∀ a, f (a + 1) 0 = 0) : dets (n + 1) f = f 0 0 * dets n fun a b => f (a + 1) (b + 1) := by
  rw [dets, sumN_first]
  have e : sgn 0 * f 0 0 * dets n (fun a b => f (a + 1) (skip 0 b)) = f 0 0 * dets n fun a b => f (a + 1) (b + 1) := by
    rw [show sgn 0 = 1 from rfl, Int.one_mul]
    rfl
  rw [e]
  suffices hs : sumN n (fun j => sgn (j + 1) * f 0 (j + 1) * dets n fun a b => f (a + 1) (skip (j + 1) b)) = 0 by rw [hs, Int.add_zero]
  refine sumN_zero fun j hj => ?_
  obtain ⟨m, rfl⟩ : ∃ m, n = m + 1 := ⟨n - 1, by omega⟩
  rw [dets_col_zero m _ fun a => by rw [show skip (j + 1) 0 = 0 by unfold skip; rw [if_pos (by omega)], h], Int.mul_zero]

/-- condensation: the rows 1 to k cleared -/
def clr (f : Nat → Nat → Int) (k : Nat) : Nat → Nat → Int := fun a b => if 1 ≤ a ∧ a ≤ k then f 0 0 * f a b - f a 0 * f 0 b else f a b
theorem clr_zero (f : Nat → Nat → Int) : clr f 0 = f := by funext a b; unfold clr; rw [if_neg (by omega)]
theorem clr_dets (n : Nat) (f : Nat → Nat → Int) (k : Nat) (hk : k < n) : dets n (clr f k) = f 0 0 ^ k * dets n f := by
  induction k with
  | zero => rw [clr_zero, Int.pow_zero, Int.one_mul]
  | succ k ih =>
    have e : clr f (k + 1) = setR (clr f k) (k + 1) fun b => f 0 0 * clr f k (k + 1) b + (- f (k + 1) 0) * clr f k 0 b := by
      funext a b
      unfold setR clr
      by_cases h : a = k + 1
      · subst h; simp only [if_true]
        rw [if_pos (by omega), if_neg (by omega), if_neg (by omega), Int.neg_mul]; omega
      · rw [if_neg h]
        by_cases h2 : 1 ≤ a ∧ a ≤ k
        · rw [if_pos h2, if_pos (by omega)]
        · rw [if_neg h2, if_neg (by omega)]
    rw [e, dets_row n (clr f k) (k + 1) 0 hk (by omega) (by omega), ih (by omega), Int.pow_succ]
    ac_rfl
/-- the condensed square -/
def cond (f : Nat → Nat → Int) : Nat → Nat → Int := fun a b => f 0 0 * f (a + 1) (b + 1) - f (a + 1) 0 * f 0 (b + 1)
theorem cond_dets (n : Nat) (f : Nat → Nat → Int) : f 0 0 * dets n (cond f) = f 0 0 ^ n * dets (n + 1) f := by
  have e1 : dets (n + 1) (clr f n) = dets (n + 1) (fun a b => if 1 ≤ a then f 0 0 * f a b - f a 0 * f 0 b else f a b) := dets_congr fun i j hi _ => by
    unfold clr
    by_cases h : 1 ≤ i
    · rw [if_pos (by omega), if_pos h]
    · rw [if_neg (by omega), if_neg h]
  rw [← clr_dets (n + 1) f n (by omega), e1, dets_corner n _ (fun a => by rw [if_pos (by omega), Int.mul_comm]; omega)]
  rw [if_neg (by omega)]
  congr 1

/-! ### symmetric forms -/
def qf (n : Nat) (f : Nat → Nat → Int) (v : Nat → Int) : Int := sumN n fun i => sumN n fun j => v i * f i j * v j
theorem qf_cond (n : Nat) (f : Nat → Nat → Int) (v : Nat → Int) (hs : ∀ i, i < n → f (i + 1) 0 = f 0 (i + 1)) :
    f 0 0 * qf (n + 1) f v = (f 0 0 * v 0 + sumN n fun j => f 0 (j + 1) * v (j + 1)) * (f 0 0 * v 0 + sumN n fun j => f 0 (j + 1) * v (j + 1)) + qf n (cond f) fun i => v (i + 1) := by
  obtain ⟨L, hL⟩ : ∃ L, L = sumN n fun j => f 0 (j + 1) * v (j + 1) := ⟨_, rfl⟩
  obtain ⟨S, hS⟩ : ∃ S, S = sumN n fun i => sumN n fun j => v (i + 1) * f (i + 1) (j + 1) * v (j + 1) := ⟨_, rfl⟩
  have e1 : qf (n + 1) f v = v 0 * f 0 0 * v 0 + v 0 * L + (L * v 0 + S) := by
    unfold qf
    rw [sumN_first, sumN_first]
    have a1 : sumN n (fun j => v 0 * f 0 (j + 1) * v (j + 1)) = v 0 * L := by
      rw [hL, ← sumN_mul]; exact sumN_congr fun j _ => by ac_rfl
    have a2 : sumN n (fun i => sumN (n + 1) fun j => v (i + 1) * f (i + 1) j * v j) = L * v 0 + S := by
      rw [show (fun i => sumN (n + 1) fun j => v (i + 1) * f (i + 1) j * v j) = fun i => v (i + 1) * f (i + 1) 0 * v 0 + sumN n fun j => v (i + 1) * f (i + 1) (j + 1) * v (j + 1) from funext fun i => sumN_first _ _, sumN_add, hS, hL, Int.mul_comm _ (v 0), ← sumN_mul]
      congr 1
      exact sumN_congr fun i hi => by rw [hs i hi]; ac_rfl
    rw [a1, a2]
  have e2 : qf n (cond f) (fun i => v (i + 1)) = f 0 0 * S - L * L := by
    have a3 : qf n (cond f) (fun i => v (i + 1)) = sumN n (fun i => f 0 0 * (sumN n fun j => v (i + 1) * f (i + 1) (j + 1) * v (j + 1)) + (- (f 0 (i + 1) * v (i + 1))) * L) := by
      unfold qf
      refine sumN_congr fun i hi => ?_
      rw [hL, ← sumN_mul, ← sumN_mul, ← sumN_add]
      refine sumN_congr fun j _ => ?_
      show v (i + 1) * (f 0 0 * f (i + 1) (j + 1) - f (i + 1) 0 * f 0 (j + 1)) * v (j + 1) = _
      rw [hs i hi, Int.mul_sub, Int.sub_mul, Int.neg_mul, ← Int.sub_eq_add_neg]
      congr 1 <;> ac_rfl
    rw [a3, sumN_add, sumN_mul, ← hS]
    rw [show (fun i => -(f 0 (i + 1) * v (i + 1)) * L) = fun i => (- L) * (f 0 (i + 1) * v (i + 1)) from funext fun i => by rw [Int.neg_mul, Int.neg_mul, Int.mul_comm], sumN_mul, ← hL, Int.neg_mul, ← Int.sub_eq_add_neg]
  rw [e1, e2, ← hL]
  grind
theorem powPos {x : Int} (h : 0 < x) (k : Nat) : 0 < x ^ k := by
  induction k with
  | zero => rw [Int.pow_zero]; decide
  | succ k ih => rw [Int.pow_succ]; exact Int.mul_pos ih h
theorem pos_def (n : Nat) : ∀ (f : Nat → Nat → Int), (∀ i j, i < n → j < n → f i j = f j i) → (∀ k, 1 ≤ k → k ≤ n → 0 < dets k f) → ∀ v : Nat → Int, (∃ i, i < n ∧ v i ≠ 0) → 0 < qf n f v := by
  induction n with
  | zero => intro f _ _ v ⟨i, hi, _⟩; omega
  | succ n ih =>
    intro f hs hd v hv
    have h00 : 0 < f 0 0 := by
      have := hd 1 (by omega) (by omega)
      simpa [dets, sumN, sgn] using this
    have hq := qf_cond n f v fun i hi => hs (i + 1) 0 (by omega) (by omega)
    have hsq : ∀ x : Int, 0 ≤ x * x := fun x => by rcases Int.le_total 0 x with h | h; exact Int.mul_nonneg h h; exact Int.mul_nonneg_of_nonpos_of_nonpos h h
    have key : 0 < f 0 0 * qf (n + 1) f v := by
      rw [hq]
      by_cases hz : ∃ i, i < n ∧ v (i + 1) ≠ 0
      · have := ih (cond f) (fun i j hi hj => by
          unfold cond
          rw [hs (i + 1) (j + 1) (by omega) (by omega), hs (i + 1) 0 (by omega) (by omega), hs 0 (j + 1) (by omega) (by omega)]
          congr 1; exact Int.mul_comm _ _) (fun k h1 h2 => by
          have e := cond_dets k f
          have p1 := Int.mul_pos (powPos h00 k) (hd (k + 1) (by omega) (by omega))
          rw [← e] at p1
          rcases Int.lt_or_le 0 (dets k (cond f)) with h | h
          · exact h
          · have := Int.mul_nonpos_of_nonneg_of_nonpos (Int.le_of_lt h00) h
            omega) (fun i => v (i + 1)) hz
        have := hsq (f 0 0 * v 0 + sumN n fun j => f 0 (j + 1) * v (j + 1))
        omega
      · have hz' : ∀ i, i < n → v (i + 1) = 0 := fun i hi => Classical.byContradiction fun h => hz ⟨i, hi, h⟩
        have h0 : v 0 ≠ 0 := by
          obtain ⟨i, hi, hne⟩ := hv
          cases i with
          | zero => exact hne
          | succ i => exact absurd (hz' i (by omega)) hne
        rw [sumN_zero (fun j hj => by rw [hz' j hj, Int.mul_zero]), Int.add_zero]
        have e2 : qf n (cond f) (fun i => v (i + 1)) = 0 := by
          unfold qf
          exact sumN_zero fun i hi => sumN_zero fun j _ => by show v (i + 1) * cond f i j * v (j + 1) = 0; rw [hz' i hi, Int.zero_mul, Int.zero_mul]
        rw [e2, Int.add_zero]
        have hne : f 0 0 * v 0 ≠ 0 := Int.mul_ne_zero (by omega) h0
        have := hsq (f 0 0 * v 0)
        have := Int.mul_ne_zero hne hne
        omega
    rcases Int.lt_or_le 0 (qf (n + 1) f v) with h | h
    · exact h
    · have := Int.mul_nonpos_of_nonneg_of_nonpos (Int.le_of_lt h00) h
      omega

/-! ### the expansions as the program makes them -/
theorem crs_mono {C : Nat} {l : List Int} {ri ci k m i : Nat} (hk : k ≤ m) (hi : i < (crs C l ri ci k).length) : nth (crs C l ri ci m) i = nth (crs C l ri ci k) i ∧ i < (crs C l ri ci m).length := by
  induction m with
  | zero => obtain rfl : k = 0 := by omega
            exact ⟨rfl, hi⟩
  | succ m ih =>
    by_cases e : k = m + 1
    · subst e; exact ⟨rfl, hi⟩
    · obtain ⟨h1, h2⟩ := ih (by omega)
      rw [crs]
      exact ⟨by rw [nth_append_left _ _ _ h2, h1], by rw [List.length_append]; omega⟩
theorem crs_nth {R C : Nat} {l : List Int} {ri ci a b : Nat} (hri : ri < R) (hci : ci < C) (ha : a < R - 1) (hb : b < C - 1) : nth (crs C l ri ci (R * C)) (a * (C - 1) + b) = nth l (skip ri a * C + skip ci b) := by
  have hI : skip ri a < R := by unfold skip; split <;> omega
  have hJ : skip ci b < C := by unfold skip; split <;> omega
  have hI2 : skip ri a ≠ ri := by unfold skip; split <;> omega
  have hJ2 : skip ci b ≠ ci := by unfold skip; split <;> omega
  have hlen : (crs C l ri ci (skip ri a * C + skip ci b)).length = a * (C - 1) + b := by
    rw [crs_len_row _ (by omega), crs_len hci, if_neg hI2]
    congr 1
    · congr 1
      unfold skip
      by_cases h : a < ri
      · rw [if_pos h, if_neg (by omega)]
      · rw [if_neg h, if_pos (by omega)]; omega
    · unfold skip
      by_cases h : b < ci
      · rw [if_pos h, if_neg (by omega)]
      · rw [if_neg h, if_pos (by omega)]; omega
  have hk : skip ri a * C + (skip ci b + 1) ≤ R * C := by have := idx_lt hI hJ; omega
  have hlen2 : a * (C - 1) + b < (crs C l ri ci (skip ri a * C + (skip ci b + 1))).length := by rw [crs_take hJ hI2 hJ2, List.length_append, hlen]; simp
  rw [(crs_mono hk hlen2).1, crs_take hJ hI2 hJ2, nth_append_right _ _ _ (by omega), hlen, Nat.sub_self]
  rfl
def fnOf (C : Nat) (l : List Int) : Nat → Nat → Int := fun i j => nth l (i * C + j)
theorem dpart_sum {D : List Int → Option Int} {C : Nat} {l : List Int} {j : Nat} {s : Int} (h : dpart D C l j = some s) (E : Nat → Int) (hE : ∀ i d, i < j → D (crs C l 0 i (C * C)) = some d → d = E i) : s = sumN j fun i => sgn i * nth l i * E i := by
  induction j generalizing s with
  | zero => cases h; rfl
  | succ j ih =>
    rw [dpart] at h
    obtain ⟨s', h1, h2⟩ := Option.bind_eq_some_iff.1 h
    have := ih h1 fun i d hi => hE i d (by omega)
    rw [sumN, ← this]
    split at h2
    · rename_i hz; cases h2; rw [hz]; simp
    · obtain ⟨d, h3, rfl⟩ := Option.map_eq_some_iff.1 h2
      rw [hE j d (by omega) h3]
theorem detO_dets (n : Nat) : ∀ (l : List Int) (d : Int), detO n l = some d → dets n (fnOf n l) = d := by
  induction n with
  | zero => intro l d h; cases h; rfl
  | succ n ih =>
    intro l d h
    rw [detO] at h
    obtain ⟨s, h1, h2⟩ := Option.bind_eq_some_iff.1 h
    obtain ⟨rfl, _⟩ := numO_some h2
    rw [dpart_sum h1 (fun j => dets n fun a b => fnOf (n + 1) l (a + 1) (skip j b)) fun i d hi hd => ?_]
    · rw [dets]
      exact sumN_congr fun j hj => by simp [fnOf]
    · rw [← ih _ _ hd]
      exact dets_congr fun a b ha hb => by
        have := crs_nth (R := n + 1) (C := n + 1) (l := l) (ri := 0) (ci := i) (a := a) (b := b) (by omega) (by omega) (by omega) (by omega)
        simp only [Nat.add_sub_cancel] at this
        unfold fnOf
        rw [this]
        rfl
theorem lmP_get {R : Nat} {l s : List Int} {m : Nat} (h : lmP R l m = some s) {k : Nat} (hk : k < m) : detO (k + 1) (subm (k + 1) R l) = some (nth s k) := by
  induction m generalizing s with
  | zero => omega
  | succ m ih =>
    rw [lmP] at h
    obtain ⟨s', h1, h2⟩ := Option.bind_eq_some_iff.1 h
    obtain ⟨d, h3, rfl⟩ := Option.map_eq_some_iff.1 h2
    have hl := lmP_length h1
    by_cases e : k = m
    · subst e; rw [h3, nth_append_right _ _ _ (by omega), hl, Nat.sub_self]; rfl
    · rw [nth_append_left _ _ _ (by omega)]; exact ih h1 (by omega)
theorem lmP_dets {R : Nat} {l s : List Int} (h : lmP R l R = some s) {k : Nat} (h1 : 1 ≤ k) (hk : k ≤ R) : dets k (fnOf R l) = nth s (k - 1) := by
  obtain ⟨j, rfl⟩ : ∃ j, k = j + 1 := ⟨k - 1, by omega⟩
  have := detO_dets _ _ _ (lmP_get h (k := j) (by omega))
  rw [Nat.add_sub_cancel, ← this]
  exact dets_congr fun a b ha hb => by unfold fnOf subm; rw [tab_nth _ ha hb]
/-- all leading minors are positive: so is every value -/
theorem sylvester {R : Nat} {l s : List Int} (hl : l.length = R * R) (hs : symB R l = true) (h : lmP R l R = some s) (hp : ∀ k, k < R → 0 < nth s k) (v : Nat → Int) (hv : ∃ i, i < R ∧ v i ≠ 0) : 0 < qf R (fnOf R l) v :=
  pos_def R (fnOf R l) (fun i j hi hj => by
    rcases Nat.lt_trichotomy i j with e | e | e
    · exact ((symB_iff hl).1 hs j i hj e).symm
    · rw [e]
    · exact (symB_iff hl).1 hs i j hi e) (fun k h1 hk => by rw [lmP_dets h h1 hk]; exact hp _ (by omega)) v hv
end Go.Proofs.Ytpfijhcjempfjaa
