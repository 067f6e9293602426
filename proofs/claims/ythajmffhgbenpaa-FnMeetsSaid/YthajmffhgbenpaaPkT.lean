/- Contracts and lemmas, put together. -/
import Derived.Test.YthajmffhgbenpaaPkB
import Derived.Test.YthajmffhgbenpaaPkF
import Derived.Test.YthajmffhgbenpaaPkGh
import Derived.Test.YthajmffhgbenpaaPkH
import Derived.Test.YthajmffhgbenpaaPkHc
import Init
/- Finite sums of whole numbers. -/
namespace Go.Proofs.Ythajmffhgbenpaa
set_option linter.unusedSimpArgs false
set_option linter.unusedVariables false

/-! ### sums -/
def sumN : Nat → (Nat → Int) → Int
  | 0, _ => 0
  | n + 1, f => sumN n f + f n
theorem sumN_congr {n : Nat} {f g : Nat → Int} (h : ∀ i, i < n → f i = g i) : sumN n f = sumN n g := by
  induction n with
  | zero => rfl
  | succ n ih => rw [sumN, sumN, ih (fun i hi => h i (by omega)), h n (by omega)]
theorem sumN_zero {n : Nat} {f : Nat → Int} (h : ∀ i, i < n → f i = 0) : sumN n f = 0 := by
  induction n with
  | zero => rfl
  | succ n ih => rw [sumN, ih (fun i hi => h i (by omega)), h n (by omega)]; rfl
theorem sumN_add (n : Nat) (f g : Nat → Int) : sumN n (fun i => f i + g i) = sumN n f + sumN n g := by
  induction n with
  | zero => rfl
  | succ n ih => simp only [sumN, ih]; omega
theorem sumN_mul (n : Nat) (c : Int) (f : Nat → Int) : sumN n (fun i => c * f i) = c * sumN n f := by
  induction n with
  | zero => simp [sumN]
  | succ n ih => simp only [sumN, ih, Int.mul_add]
theorem sumN_neg (n : Nat) (f : Nat → Int) : sumN n (fun i => - f i) = - sumN n f := by
  induction n with
  | zero => rfl
  | succ n ih => simp only [sumN, ih]; omega
theorem sumN_first (n : Nat) (f : Nat → Int) : sumN (n + 1) f = f 0 + sumN n (fun i => f (i + 1)) := by
  induction n with
  | zero => simp [sumN]
  | succ n ih => rw [sumN, ih]; simp only [sumN]; omega
theorem sumN_swap (n m : Nat) (f : Nat → Nat → Int) : sumN n (fun i => sumN m fun j => f i j) = sumN m (fun j => sumN n fun i => f i j) := by
  induction n with
  | zero => simp only [sumN]; exact (sumN_zero fun _ _ => rfl).symm
  | succ n ih => simp only [sumN, ih]; rw [← sumN_add]

/-- one term of a sum -/
theorem sumN_one {n k : Nat} (hk : k < n) (f : Nat → Int) : sumN n (fun i => (if i = k then 1 else 0) * f i) = f k := by
  induction n with
  | zero => omega
  | succ n ih =>
    rw [sumN]
    by_cases e : k = n
    · subst e
      rw [sumN_zero fun i hi => by rw [if_neg (by omega), Int.zero_mul]]; simp
    · rw [ih (by omega), if_neg (by omega)]; simp
/-- all terms but one are 0 -/
theorem sumN_only {n k : Nat} (hk : k < n) {f : Nat → Int} (h : ∀ i, i < n → i ≠ k → f i = 0) : sumN n f = f k := by
  rw [← sumN_one hk f]
  exact sumN_congr fun i hi => by
    by_cases e : i = k
    · rw [if_pos e, Int.one_mul]
    · rw [if_neg e, h i hi e]; simp
theorem sumN_split (n m : Nat) (f : Nat → Int) : sumN (n + m) f = sumN n f + sumN m (fun i => f (n + i)) := by
  induction m with
  | zero => simp [sumN]
  | succ m ih => rw [← Nat.add_assoc, sumN, ih, sumN]; omega
end Go.Proofs.Ythajmffhgbenpaa

/- Lattices spanned by rows of whole numbers, in plain numbers; the Hermite form of a lattice is unique; kernels. -/
namespace Go.Proofs.Ythajmffhgbenpaa
set_option linter.unusedSimpArgs false
set_option linter.unusedVariables false

/-! ### combinations of rows -/
abbrev Mt := Nat → Nat → Int
def lc (R : Nat) (a : Mt) (x : Nat → Int) (j : Nat) : Int := sumN R fun i => x i * a i j
theorem lc_congr {R : Nat} {a b : Mt} {x y : Nat → Int} {j : Nat} (h : ∀ i, i < R → x i * a i j = y i * b i j) : lc R a x j = lc R b y j := sumN_congr h
theorem lc_add (R : Nat) (a : Mt) (x y : Nat → Int) (j : Nat) : lc R a (fun i => x i + y i) j = lc R a x j + lc R a y j := by
  unfold lc; rw [← sumN_add]; exact sumN_congr fun i _ => Int.add_mul _ _ _
theorem lc_mul (R : Nat) (a : Mt) (c : Int) (x : Nat → Int) (j : Nat) : lc R a (fun i => c * x i) j = c * lc R a x j := by
  unfold lc; rw [← sumN_mul]; exact sumN_congr fun i _ => Int.mul_assoc _ _ _
theorem lc_row {R : Nat} (a : Mt) {k : Nat} (hk : k < R) (j : Nat) : lc R a (fun i => if i = k then 1 else 0) j = a k j := sumN_one hk _
theorem lc_zero {R : Nat} {a : Mt} {x : Nat → Int} {j : Nat} (h : ∀ i, i < R → x i = 0 ∨ a i j = 0) : lc R a x j = 0 := sumN_zero fun i hi => by
  rcases h i hi with e | e <;> rw [e] <;> simp
/-- a combination of combinations -/
theorem lc_lc (R R' : Nat) (a b : Mt) (x : Nat → Int) (j : Nat) : lc R (fun i j => lc R' b (a i) j) x j = lc R' b (fun k => lc R a x k) j := by
  unfold lc
  have e1 : ∀ i, x i * sumN R' (fun k => a i k * b k j) = sumN R' (fun k => x i * a i k * b k j) := fun i => by
    rw [← sumN_mul]; exact sumN_congr fun k _ => by rw [Int.mul_assoc]
  rw [sumN_congr fun i _ => e1 i, sumN_swap]
  refine sumN_congr fun k _ => ?_
  rw [Int.mul_comm, ← sumN_mul]
  exact sumN_congr fun i _ => Int.mul_comm _ _

/-! ### the lattice of the rows -/
def InL (R C : Nat) (a : Mt) (v : Nat → Int) : Prop := ∃ x : Nat → Int, ∀ j, j < C → v j = lc R a x j
theorem InL.congr {R C : Nat} {a : Mt} {v w : Nat → Int} (h : InL R C a v) (e : ∀ j, j < C → w j = v j) : InL R C a w := by
  obtain ⟨x, hx⟩ := h; exact ⟨x, fun j hj => (e j hj).trans (hx j hj)⟩
theorem InL.row {R C : Nat} {a : Mt} {k : Nat} (hk : k < R) : InL R C a (a k) := ⟨_, fun j _ => (lc_row a hk j).symm⟩
theorem InL.zero (R C : Nat) (a : Mt) : InL R C a fun _ => 0 := ⟨fun _ => 0, fun _ _ => (lc_zero fun _ _ => .inl rfl).symm⟩
theorem InL.add {R C : Nat} {a : Mt} {v w : Nat → Int} (h1 : InL R C a v) (h2 : InL R C a w) : InL R C a fun j => v j + w j := by
  obtain ⟨x, hx⟩ := h1; obtain ⟨y, hy⟩ := h2
  exact ⟨fun i => x i + y i, fun j hj => by rw [lc_add R a x y, ← hx j hj, ← hy j hj]⟩
theorem InL.mul {R C : Nat} {a : Mt} {v : Nat → Int} (c : Int) (h1 : InL R C a v) : InL R C a fun j => c * v j := by
  obtain ⟨x, hx⟩ := h1
  exact ⟨fun i => c * x i, fun j hj => by rw [lc_mul R a c x, ← hx j hj]⟩
theorem InL.sub {R C : Nat} {a : Mt} {v w : Nat → Int} (h1 : InL R C a v) (h2 : InL R C a w) : InL R C a fun j => v j - w j :=
  (h1.add (h2.mul (-1))).congr fun j _ => by omega
theorem InL.lc {R R' C : Nat} {a b : Mt} (h : ∀ i, i < R → InL R' C b (a i)) (x : Nat → Int) : InL R' C b fun j => lc R a x j := by
  induction R with
  | zero => exact (InL.zero R' C b).congr fun j _ => rfl
  | succ R ih => exact ((ih fun i hi => h i (by omega)).add ((h R (by omega)).mul (x R))).congr fun j _ => rfl
theorem InL.trans {R R' C : Nat} {a b : Mt} {v : Nat → Int} (h : InL R C a v) (h2 : ∀ i, i < R → InL R' C b (a i)) : InL R' C b v := by
  obtain ⟨x, hx⟩ := h
  exact (InL.lc h2 x).congr hx
theorem InL.cells {R C : Nat} {a b : Mt} {v : Nat → Int} (h : InL R C a v) (e : ∀ i j, i < R → j < C → a i j = b i j) : InL R C b v := by
  obtain ⟨x, hx⟩ := h
  exact ⟨x, fun j hj => (hx j hj).trans (lc_congr fun i hi => by rw [e i j hi hj])⟩

/-! ### Hermite form -/
structure Her (R C : Nat) (a : Mt) (p : Nat → Nat) : Prop where
  lt : ∀ i, i < R → p i < C
  up : ∀ i k, i < k → k < R → p i < p k
  pos : ∀ i, i < R → 0 < a i (p i)
  zero : ∀ i j, i < R → j < p i → a i j = 0
  red : ∀ k i, k < i → i < R → 0 ≤ a k (p i) ∧ a k (p i) < a i (p i)
theorem Her.at_ {R C : Nat} {a : Mt} {p : Nat → Nat} (h : Her R C a p) {x : Nat → Int} {i : Nat} (hi : i < R) (hx : ∀ k, k < i → x k = 0) : lc R a x (p i) = x i * a i (p i) :=
  sumN_only hi fun k hk hne => by
    by_cases e : k < i
    · rw [hx k e, Int.zero_mul]
    · rw [h.zero k (p i) hk (h.up i k (by omega) hk), Int.mul_zero]
theorem small_mul {x d : Int} (hd : 0 < d) (h1 : -d < x * d) (h2 : x * d < d) : x = 0 := by
  refine Classical.byContradiction fun hne => ?_
  rcases Int.lt_or_gt_of_ne hne with h | h
  · have := Int.mul_le_mul_of_nonneg_right (show x ≤ -1 by omega) (Int.le_of_lt hd); omega
  · have := Int.mul_le_mul_of_nonneg_right (show 1 ≤ x by omega) (Int.le_of_lt hd); omega
theorem Her.small_x {R C : Nat} {a : Mt} {p : Nat → Nat} (h : Her R C a p) {x : Nat → Int} (hs : ∀ i, i < R → - a i (p i) < lc R a x (p i) ∧ lc R a x (p i) < a i (p i)) : ∀ n i, i < n → i < R → x i = 0 := by
  intro n
  induction n with
  | zero => intro i hi; omega
  | succ n ih =>
    intro i hi hiR
    have e := h.at_ hiR (x := x) fun k hk => ih k (by omega) (by omega)
    have := hs i hiR
    rw [e] at this
    exact small_mul (h.pos i hiR) this.1 this.2
/-- a vector of the lattice that is small at all pivots is 0 -/
theorem Her.small {R C : Nat} {a : Mt} {p : Nat → Nat} (h : Her R C a p) {v : Nat → Int} (hv : InL R C a v) (hs : ∀ i, i < R → - a i (p i) < v (p i) ∧ v (p i) < a i (p i)) : ∀ j, j < C → v j = 0 := by
  obtain ⟨x, hx⟩ := hv
  have hz := h.small_x (x := x) (fun i hi => by rw [← hx _ (h.lt i hi)]; exact hs i hi) R
  intro j hj
  rw [hx j hj]
  exact lc_zero fun i hi => .inl (hz i hi hi)
/-- rows in Hermite form are independent -/
theorem Her.ind {R C : Nat} {a : Mt} {p : Nat → Nat} (h : Her R C a p) {x : Nat → Int} (hx : ∀ j, j < C → lc R a x j = 0) : ∀ i, i < R → x i = 0 := fun i hi =>
  h.small_x (fun k hk => by rw [hx _ (h.lt k hk)]; have := h.pos k hk; omega) R i hi hi
/-- the first cell that is not 0 -/
theorem Her.lead {R C : Nat} {a : Mt} {p : Nat → Nat} (h : Her R C a p) {v : Nat → Int} (hv : InL R C a v) {c : Nat} (hc : c < C) (hne : v c ≠ 0) (hz : ∀ j, j < c → v j = 0) : ∃ i, i < R ∧ p i = c ∧ a i c ∣ v c := by
  obtain ⟨x, hx⟩ := hv
  -- the first number that is not 0
  have key : ∀ n, (∀ i, i < n → i < R → x i = 0) ∨ ∃ i, i < R ∧ x i ≠ 0 ∧ ∀ k, k < i → x k = 0 := by
    intro n
    induction n with
    | zero => left; intro i hi; omega
    | succ n ih =>
      rcases ih with ih | ih
      · by_cases e : n < R ∧ x n ≠ 0
        · right; exact ⟨n, e.1, e.2, fun k hk => ih k hk (by omega)⟩
        · left
          intro i hi hiR
          by_cases e2 : i = n
          · subst e2
            exact Classical.byContradiction fun hn => e ⟨hiR, hn⟩
          · exact ih i (by omega) hiR
      · exact .inr ih
  rcases key R with h0 | ⟨i, hi, hxi, hlo⟩
  · exact absurd ((hx c hc).trans (lc_zero fun i hi => .inl (h0 i hi hi))) hne
  · have e1 := h.at_ hi hlo
    have e2 : ∀ j, j < p i → j < C → v j = 0 := fun j hj hjC => by
      rw [hx j hjC]
      refine lc_zero fun k hk => ?_
      by_cases e : k < i
      · exact .inl (hlo k e)
      · right
        refine h.zero k j hk ?_
        by_cases e3 : k = i
        · rw [e3]; exact hj
        · exact Nat.lt_trans hj (h.up i k (by omega) hk)
    have hpi := h.lt i hi
    have hv1 : v (p i) = x i * a i (p i) := (hx _ hpi).trans e1
    have hv2 : v (p i) ≠ 0 := by
      rw [hv1]; exact Int.mul_ne_zero hxi (by have := h.pos i hi; omega)
    have hpc : p i = c := by
      rcases Nat.lt_trichotomy (p i) c with e | e | e
      · exact absurd (hz _ e) hv2
      · exact e
      · exact absurd (e2 c e hc) hne
    refine ⟨i, hi, hpc, ?_⟩
    rw [← hpc, hv1]
    exact ⟨x i, Int.mul_comm _ _⟩
theorem Her.pivot {R R' C : Nat} {a b : Mt} {p q : Nat → Nat} (h : Her R C a p) (h' : Her R' C b q) (hb : ∀ i, i < R' → InL R C a (b i)) {k : Nat} (hk : k < R') : ∃ i, i < R ∧ p i = q k ∧ a i (q k) ∣ b k (q k) :=
  h.lead (hb k hk) (h'.lt k hk) (by have := h'.pos k hk; omega) fun j hj => h'.zero k j hk hj
/-- the Hermite form is unique -/
theorem Her.unique {R R' C : Nat} {a b : Mt} {p q : Nat → Nat} (h : Her R C a p) (h' : Her R' C b q) (hb : ∀ i, i < R' → InL R C a (b i)) (ha : ∀ i, i < R → InL R' C b (a i)) : R = R' ∧ (∀ i, i < R → p i = q i) ∧ ∀ i j, i < R → j < C → a i j = b i j := by
  have key : ∀ n i, i < n → (i < R → i < R' ∧ p i = q i) ∧ (i < R' → i < R ∧ p i = q i) := by
    intro n
    induction n with
    | zero => intro i hi; omega
    | succ n ih =>
      intro i hi
      have k1 : i < R → ∃ k, k < R' ∧ q k = p i ∧ i ≤ k := fun hiR => by
        obtain ⟨k, hk, e, _⟩ := h'.pivot h ha hiR
        refine ⟨k, hk, e, ?_⟩
        rcases Nat.lt_or_ge k i with hlt | hge
        · have e2 := ((ih k (by omega)).2 hk)
          have := h.up k i hlt hiR
          rw [e2.2, e] at this; omega
        · exact hge
      have k2 : i < R' → ∃ k, k < R ∧ p k = q i ∧ i ≤ k := fun hiR => by
        obtain ⟨k, hk, e, _⟩ := h.pivot h' hb hiR
        refine ⟨k, hk, e, ?_⟩
        rcases Nat.lt_or_ge k i with hlt | hge
        · have e2 := ((ih k (by omega)).1 hk)
          have := h'.up k i hlt hiR
          rw [← e2.2, e] at this; omega
        · exact hge
      have both : i < R → i < R' → p i = q i := fun h1 h2 => by
        obtain ⟨k, hk, e1, e2⟩ := k1 h1
        obtain ⟨m, hm, e3, e4⟩ := k2 h2
        have u1 : q i ≤ p i := by
          rw [← e1]
          rcases Nat.lt_or_ge i k with x | x
          · exact Nat.le_of_lt (h'.up i k x hk)
          · rw [show k = i by omega]; exact Nat.le_refl _
        have u2 : p i ≤ q i := by
          rw [← e3]
          rcases Nat.lt_or_ge i m with x | x
          · exact Nat.le_of_lt (h.up i m x hm)
          · rw [show m = i by omega]; exact Nat.le_refl _
        omega
      constructor
      · intro h1
        obtain ⟨k, hk, _, e2⟩ := k1 h1
        have h2 : i < R' := by omega
        exact ⟨h2, both h1 h2⟩
      · intro h2
        obtain ⟨k, hk, _, e2⟩ := k2 h2
        have h1 : i < R := by omega
        exact ⟨h1, both h1 h2⟩
  have hR : R = R' := by
    rcases Nat.lt_trichotomy R R' with e | e | e
    · have := ((key (R + 1) R (by omega)).2 e).1; omega
    · exact e
    · have := ((key (R' + 1) R' (by omega)).1 e).1; omega
  subst hR
  have hpq : ∀ i, i < R → p i = q i := fun i hi => ((key (i + 1) i (by omega)).1 hi).2
  refine ⟨rfl, hpq, fun i j hi hj => ?_⟩
  have piv : ∀ k, k < R → a k (p k) = b k (p k) := fun k hk => by
    obtain ⟨m, hm, e1, e2⟩ := h.pivot h' hb hk
    obtain ⟨m', hm', e3, e4⟩ := h'.pivot h ha hk
    have u1 : m = k := by
      rcases Nat.lt_trichotomy m k with x | x | x
      · have := h.up m k x hk; have := hpq k hk; omega
      · exact x
      · have := h.up k m x hm; have := hpq k hk; omega
    have u2 : m' = k := by
      rcases Nat.lt_trichotomy m' k with x | x | x
      · have := h'.up m' k x hk; have := hpq k hk; omega
      · exact x
      · have := h'.up k m' x hm'; have := hpq k hk; omega
    rw [u1, ← hpq k hk] at e2
    rw [u2] at e4
    have p1 := h.pos k hk
    have p2 := h'.pos k hk
    rw [← hpq k hk] at p2
    have := Int.le_of_dvd p2 e2
    have := Int.le_of_dvd p1 e4
    omega
  have := h.small (v := fun j => a i j - b i j) ((InL.row hi).sub (hb i hi)) (fun k hk => by
    have e := piv k hk
    have pk := h.pos k hk
    show _ ∧ _
    rcases Nat.lt_trichotomy i k with x | x | x
    · have r1 := h.red i k x hk
      have r2 := h'.red i k x hk
      rw [← hpq k hk] at r2
      omega
    · subst x; omega
    · have z1 := h.zero i (p k) hi (h.up k i x hi)
      have z2 := h'.zero i (p k) hi (by rw [hpq k hk]; exact h'.up k i x hi)
      omega) j hj
  have this : a i j - b i j = 0 := this
  omega

/-! ### a matrix and its Hermite form -/
/-- u spans all rows, and its rows are independent -/
structure Unim (R : Nat) (u : Mt) : Prop where
  span : ∀ v, InL R R u v
  ind : ∀ x : Nat → Int, (∀ j, j < R → lc R u x j = 0) → ∀ i, i < R → x i = 0
theorem Unim.one (R : Nat) : Unim R fun i j => if i = j then 1 else 0 := by
  have e : ∀ (x : Nat → Int) j, j < R → lc R (fun i j => if i = j then 1 else 0) x j = x j := fun x j hj => by
    unfold lc
    rw [← sumN_one hj x]
    exact sumN_congr fun i _ => Int.mul_comm _ _
  exact ⟨fun v => ⟨v, fun j hj => (e v j hj).symm⟩, fun x hx i hi => by rw [← e x i hi]; exact hx i hi⟩
/-- what a Hermite form h of m is, with u that makes it -/
structure HerD (R C : Nat) (m h u : Mt) : Prop where
  made : ∀ i j, i < R → j < C → h i j = lc R m (u i) j
  un : Unim R u
theorem HerD.one (R C : Nat) (m : Mt) : HerD R C m m fun i j => if i = j then 1 else 0 :=
  ⟨fun i j hi _ => by
    unfold lc
    rw [← sumN_one hi fun k => m k j]
    exact sumN_congr fun k _ => by
      show _ = (if i = k then 1 else 0) * m k j
      by_cases e : k = i
      · rw [if_pos e, if_pos e.symm]
      · rw [if_neg e, if_neg (Ne.symm e)], Unim.one R⟩
/-- the rows exchanged by others that span the same, and back -/
theorem HerD.step {R C : Nat} {m h u h' u' : Mt} (H : HerD R C m h u) (e f : Mt)
    (hh : ∀ i j, i < R → j < C → h' i j = lc R h (e i) j) (hu : ∀ i j, i < R → j < R → u' i j = lc R u (e i) j)
    (hef : ∀ i k, i < R → k < R → lc R e (f i) k = if k = i then 1 else 0) (hfe : ∀ i k, i < R → k < R → lc R f (e i) k = if k = i then 1 else 0) : HerD R C m h' u' := by
  have back : ∀ i j, i < R → j < R → u i j = lc R u' (f i) j := fun i j hi hj => by
    have e1 : lc R u' (f i) j = lc R (fun i j => lc R u (e i) j) (f i) j := lc_congr fun k hk => by rw [hu k j hk hj]
    rw [e1, lc_lc]
    rw [show lc R u (fun k => lc R e (f i) k) j = lc R u (fun k => if k = i then 1 else 0) j from lc_congr fun k hk => by rw [hef i k hi hk]]
    exact (lc_row u hi j).symm
  refine ⟨fun i j hi hj => ?_, fun v => ?_, fun x hx => ?_⟩
  · rw [hh i j hi hj]
    have e1 : lc R h (e i) j = lc R (fun i j => lc R m (u i) j) (e i) j := lc_congr fun k hk => by rw [H.made k j hk hj]
    rw [e1, lc_lc]
    exact lc_congr fun k hk => by rw [hu i k hi hk]
  · exact (H.un.span v).trans fun i hi => ⟨f i, fun j hj => back i j hi hj⟩
  · -- lc u' x = lc u (lc e x) = 0
    have e1 : ∀ j, j < R → lc R u (fun k => lc R e x k) j = 0 := fun j hj => by
      rw [← lc_lc, ← hx j hj]
      exact lc_congr fun k hk => by rw [hu k j hk hj]
    have e2 := H.un.ind _ e1
    intro i hi
    -- x = lc f (lc e x)
    have e3 : lc R f (fun k => lc R e x k) i = x i := by
      rw [← lc_lc]
      have e4 : lc R (fun i j => lc R f (e i) j) x i = lc R (fun i j => if j = i then 1 else 0) x i := lc_congr fun k hk => by rw [hfe k i hk hi]
      rw [e4]
      unfold lc
      rw [← sumN_one hi x]
      exact sumN_congr fun k _ => by
        show x k * (if i = k then 1 else 0) = _
        by_cases e : k = i
        · rw [if_pos e, if_pos e.symm, Int.mul_comm]
        · rw [if_neg e, if_neg (Ne.symm e), Int.mul_comm]
    rw [← e3]
    exact lc_zero fun k hk => .inl (e2 k hk)
theorem HerD.rows {R C : Nat} {m h u : Mt} (H : HerD R C m h u) {i : Nat} (hi : i < R) : InL R C m (h i) := ⟨u i, fun j hj => H.made i j hi hj⟩
theorem HerD.cols {R C : Nat} {m h u : Mt} (H : HerD R C m h u) {x y : Nat → Int} (hx : ∀ k, k < R → x k = lc R u y k) {j : Nat} (hj : j < C) : lc R m x j = lc R h y j := by
  rw [show lc R m x j = lc R m (fun k => lc R u y k) j from lc_congr fun k hk => by rw [hx k hk], ← lc_lc]
  exact lc_congr fun i hi => by rw [H.made i j hi hj]
theorem HerD.back {R C : Nat} {m h u : Mt} (H : HerD R C m h u) {i : Nat} (hi : i < R) : InL R C h (m i) := by
  obtain ⟨y, hy⟩ := H.un.span fun k => if k = i then 1 else 0
  exact ⟨y, fun j hj => by rw [← H.cols hy hj, lc_row m hi j]⟩
/-- rows of zeros behind T add nothing -/
theorem lc_cut {R T : Nat} {a : Mt} {x : Nat → Int} {j : Nat} (hT : T ≤ R) (h : ∀ i, T ≤ i → i < R → a i j = 0) : lc R a x j = lc T a x j := by
  unfold lc
  obtain ⟨d, rfl⟩ : ∃ d, R = T + d := ⟨R - T, by omega⟩
  rw [sumN_split, sumN_zero (n := d) fun i hi => by rw [h (T + i) (by omega) (by omega), Int.mul_zero]]; omega
theorem HerD.same {R C T : Nat} {m h u : Mt} (H : HerD R C m h u) (hT : T ≤ R) (hz : ∀ i j, T ≤ i → i < R → j < C → h i j = 0) (v : Nat → Int) : InL R C m v ↔ InL T C h v := by
  constructor
  · intro hv
    obtain ⟨y, hy⟩ := hv.trans fun i hi => H.back hi
    exact ⟨y, fun j hj => by rw [hy j hj]; exact lc_cut hT fun i h1 h2 => hz i j h1 h2 hj⟩
  · intro hv
    exact hv.trans fun i hi => H.rows (by omega)
/-- the kernel: spanned by the rows of u behind T -/
theorem HerD.ker {R C T : Nat} {m h u : Mt} {p : Nat → Nat} (H : HerD R C m h u) (hT : T ≤ R) (hh : Her T C h p) (hz : ∀ i j, T ≤ i → i < R → j < C → h i j = 0) (x : Nat → Int) :
    (∀ j, j < C → lc R m x j = 0) ↔ InL (R - T) R (fun i j => u (T + i) j) x := by
  constructor
  · intro hx
    obtain ⟨y, hy⟩ := H.un.span x
    have e1 : ∀ j, j < C → lc T h y j = 0 := fun j hj => by
      rw [← lc_cut (R := R) hT fun i h1 h2 => hz i j h1 h2 hj, ← H.cols hy hj]; exact hx j hj
    have e2 := hh.ind e1
    refine ⟨fun i => y (T + i), fun j hj => ?_⟩
    rw [hy j hj]
    unfold lc
    obtain ⟨d, rfl⟩ : ∃ d, R = T + d := ⟨R - T, by omega⟩
    rw [sumN_split, sumN_zero (n := T) fun i hi => by rw [e2 i hi, Int.zero_mul], Nat.add_sub_cancel_left, Int.zero_add]
  · rintro ⟨y, hy⟩ j hj
    have hx : ∀ k, k < R → x k = lc R u (fun i => if T ≤ i then y (i - T) else 0) k := fun k hk => by
      rw [hy k hk]
      unfold lc
      obtain ⟨d, rfl⟩ : ∃ d, R = T + d := ⟨R - T, by omega⟩
      rw [sumN_split, sumN_zero (n := T) fun i hi => by show (if T ≤ i then y (i - T) else 0) * _ = 0; rw [if_neg (by omega), Int.zero_mul], Nat.add_sub_cancel_left, Int.zero_add]
      exact sumN_congr fun i _ => by show _ = (if T ≤ T + i then y (T + i - T) else 0) * _; rw [if_pos (by omega), Nat.add_sub_cancel_left]
    rw [H.cols hx hj]
    refine lc_zero fun i hi => ?_
    by_cases e : T ≤ i
    · exact .inr (hz i j e hi hj)
    · exact .inl (by rw [if_neg e])
/-- if nothing is taken to 0, no row of zeros is left -/
theorem HerD.full {R C T : Nat} {m h u : Mt} (H : HerD R C m h u) (hT : T ≤ R) (hz : ∀ i j, T ≤ i → i < R → j < C → h i j = 0) (hi : ∀ x : Nat → Int, (∀ j, j < C → lc R m x j = 0) → ∀ i, i < R → x i = 0) : T = R := by
  refine Classical.byContradiction fun hne => ?_
  have hTR : T < R := by omega
  have h0 := hi (u T) fun j hj => by rw [← H.made T j hTR hj]; exact hz T j (Nat.le_refl _) hTR hj
  have := H.un.ind (fun i => if i = T then 1 else 0) (fun j hj => by rw [lc_row u hTR]; exact h0 j hj) T hTR
  simp at this
end Go.Proofs.Ythajmffhgbenpaa

/- Plain: reduced echelon forms with primitive rows over the rational numbers: how many rows, and that there is one alone. -/
namespace Go.Proofs.Ythajmffhgbenpaa
set_option linter.unusedSimpArgs false
set_option linter.unusedVariables false

/-! ### the space of the rows over the rational numbers -/
def InQ (R C : Nat) (a : Mt) (v : Nat → Int) : Prop := ∃ D : Int, D ≠ 0 ∧ InL R C a fun j => D * v j
theorem InL.q {R C : Nat} {a : Mt} {v : Nat → Int} (h : InL R C a v) : InQ R C a v := ⟨1, by decide, h.congr fun j _ => Int.one_mul _⟩
theorem InQ.congr {R C : Nat} {a : Mt} {v w : Nat → Int} (h : InQ R C a v) (e : ∀ j, j < C → w j = v j) : InQ R C a w := by
  obtain ⟨D, h1, h2⟩ := h
  exact ⟨D, h1, h2.congr fun j hj => by rw [e j hj]⟩
theorem InQ.common {R R' C : Nat} {a b : Mt} (h : ∀ i, i < R → InQ R' C b (a i)) : ∃ E : Int, E ≠ 0 ∧ ∀ i, i < R → InL R' C b fun j => E * a i j := by
  induction R with
  | zero => exact ⟨1, by decide, fun i hi => by omega⟩
  | succ R ih =>
    obtain ⟨E, h1, h2⟩ := ih fun i hi => h i (by omega)
    obtain ⟨D, h3, h4⟩ := h R (by omega)
    refine ⟨D * E, Int.mul_ne_zero h3 h1, fun i hi => ?_⟩
    by_cases e : i = R
    · subst e; exact (h4.mul E).congr fun j _ => by ac_rfl
    · exact ((h2 i (by omega)).mul D).congr fun j _ => by ac_rfl
theorem InQ.trans {R R' C : Nat} {a b : Mt} {v : Nat → Int} (h : InQ R C a v) (h2 : ∀ i, i < R → InQ R' C b (a i)) : InQ R' C b v := by
  obtain ⟨D, hD, x, hx⟩ := h
  obtain ⟨E, hE, hb⟩ := InQ.common h2
  have hx : ∀ j, j < C → D * v j = lc R a x j := hx
  refine ⟨E * D, Int.mul_ne_zero hE hD, (InL.lc hb x).congr fun j hj => ?_⟩
  rw [Int.mul_assoc, hx j hj]
  unfold lc
  rw [← sumN_mul]
  exact sumN_congr fun i _ => by show E * (x i * a i j) = x i * (E * a i j); ac_rfl
/-- a row out of two others -/
theorem InQ.two {R C : Nat} {a : Mt} {v u w : Nat → Int} {c d e : Int} (hc : c ≠ 0) (hu : InL R C a u) (hw : InL R C a w) (h : ∀ j, j < C → c * v j = d * u j + e * w j) : InQ R C a v :=
  ⟨c, hc, ((hu.mul d).add (hw.mul e)).congr h⟩

/-! ### primitive rows -/
def PrimV (C : Nat) (v : Nat → Int) : Prop := (∀ j, j < C → v j = 0) ∨ ((∀ d : Int, (∀ j, j < C → d ∣ v j) → d ∣ 1) ∧ ∃ p, p < C ∧ 0 < v p ∧ ∀ j, j < p → v j = 0)
theorem dvd_one {x : Int} (h : x ∣ 1) : x = 1 ∨ x = -1 := by
  have h1 := Int.natAbs_dvd_natAbs.2 h
  have : x.natAbs = 1 := Nat.dvd_one.1 h1
  omega
theorem dvd_cop {a b c : Int} (h : a ∣ b * c) (hg : Int.gcd a b = 1) : a ∣ c := by
  have h1 : a.natAbs ∣ b.natAbs * c.natAbs := by rw [← Int.natAbs_mul]; exact Int.natAbs_dvd_natAbs.2 h
  exact Int.natAbs_dvd_natAbs.1 (Nat.Coprime.dvd_of_dvd_mul_left hg h1)
theorem PrimV.eq {C : Nat} {v w : Nat → Int} (hv : PrimV C v) (hw : PrimV C w) {D x : Int} (hD : D ≠ 0) (h : ∀ j, j < C → D * w j = x * v j) (hne : ∃ j, j < C ∧ w j ≠ 0) : ∀ j, j < C → v j = w j := by
  obtain ⟨j0, hj0, hn0⟩ := hne
  have hx : x ≠ 0 := fun e => by
    have := h j0 hj0
    rw [e, Int.zero_mul] at this
    exact absurd this (Int.mul_ne_zero hD hn0)
  rcases hw with hw | ⟨gw, pw, hpw, wpos, wz⟩
  · exact absurd (hw j0 hj0) hn0
  rcases hv with hv | ⟨gv, pv', hpv, vpos, vz⟩
  · have := h j0 hj0
    rw [hv j0 hj0, Int.mul_zero] at this
    exact absurd this (Int.mul_ne_zero hD hn0)
  have hg : 0 < Int.gcd D x := Int.gcd_pos_of_ne_zero_left x hD
  obtain ⟨D', hD'⟩ : (Int.gcd D x : Int) ∣ D := Int.gcd_dvd_left ..
  obtain ⟨x', hx'⟩ : (Int.gcd D x : Int) ∣ x := Int.gcd_dvd_right ..
  have hcop : Int.gcd D' x' = 1 := by
    have h1 : Int.gcd ((Int.gcd D x : Int) * D') ((Int.gcd D x : Int) * x') = Int.gcd D x := by rw [← hD', ← hx']
    rw [Int.gcd_mul_left, Int.natAbs_natCast] at h1
    have h2 : Int.gcd D x * Int.gcd D' x' = Int.gcd D x * 1 := by rw [h1, Nat.mul_one]
    exact Nat.eq_of_mul_eq_mul_left hg h2
  have e1 : ∀ j, j < C → D' * w j = x' * v j := fun j hj => by
    have : (Int.gcd D x : Int) * (D' * w j) = (Int.gcd D x : Int) * (x' * v j) := by
      rw [← Int.mul_assoc, ← Int.mul_assoc, ← hD', ← hx']; exact h j hj
    have h2 : (Int.gcd D x : Int) ≠ 0 := by omega
    exact Int.eq_of_mul_eq_mul_left h2 this
  have d1 : D' ∣ 1 := gv D' fun j hj => dvd_cop (by rw [← e1 j hj]; exact Int.dvd_mul_right _ _) hcop
  have d2 : x' ∣ 1 := gw x' fun j hj => dvd_cop (by rw [e1 j hj]; exact Int.dvd_mul_right _ _) (by rw [Int.gcd_comm]; exact hcop)
  -- the first cells
  have hp : pv' = pw := by
    rcases Nat.lt_trichotomy pv' pw with hlt | e | hlt
    · have := e1 pv' hpv
      rw [wz _ hlt, Int.mul_zero] at this
      rcases dvd_one d2 with e | e <;> rw [e] at this <;> omega
    · exact e
    · have := e1 pw hpw
      rw [vz _ hlt, Int.mul_zero] at this
      rcases dvd_one d1 with e | e <;> rw [e] at this <;> omega
  subst hp
  have hs := e1 pv' hpv
  intro j hj
  have hj' := e1 j hj
  rcases dvd_one d1 with e | e <;> rcases dvd_one d2 with e2 | e2 <;> rw [e, e2] at hs hj' <;> omega

/-! ### two rising lists of the same numbers -/
theorem two_up {T t : Nat} {p q : Nat → Nat} (hp : ∀ i k, i < k → k < T → p i < p k) (hq : ∀ i k, i < k → k < t → q i < q k) (h1 : ∀ i, i < T → ∃ r, r < t ∧ q r = p i) (h2 : ∀ r, r < t → ∃ i, i < T ∧ p i = q r) : T = t ∧ ∀ i, i < T → p i = q i := by
  have key : ∀ n i, i < n → (i < T → i < t ∧ p i = q i) ∧ (i < t → i < T ∧ p i = q i) := by
    intro n
    induction n with
    | zero => intro i hi; omega
    | succ n ih =>
      intro i hi
      have k1 : i < T → ∃ k, k < t ∧ q k = p i ∧ i ≤ k := fun hiR => by
        obtain ⟨k, hk, e⟩ := h1 i hiR
        refine ⟨k, hk, e, ?_⟩
        rcases Nat.lt_or_ge k i with hlt | hge
        · have e2 := ((ih k (by omega)).2 hk)
          have := hp k i hlt hiR
          rw [e2.2, e] at this; omega
        · exact hge
      have k2 : i < t → ∃ k, k < T ∧ p k = q i ∧ i ≤ k := fun hiR => by
        obtain ⟨k, hk, e⟩ := h2 i hiR
        refine ⟨k, hk, e, ?_⟩
        rcases Nat.lt_or_ge k i with hlt | hge
        · have e2 := ((ih k (by omega)).1 hk)
          have := hq k i hlt hiR
          rw [← e2.2, e] at this; omega
        · exact hge
      have both : i < T → i < t → p i = q i := fun a1 a2 => by
        obtain ⟨k, hk, e1, e2⟩ := k1 a1
        obtain ⟨m, hm, e3, e4⟩ := k2 a2
        have u1 : q i ≤ p i := by
          rw [← e1]
          rcases Nat.lt_or_ge i k with x | x
          · exact Nat.le_of_lt (hq i k x hk)
          · rw [show k = i by omega]; exact Nat.le_refl _
        have u2 : p i ≤ q i := by
          rw [← e3]
          rcases Nat.lt_or_ge i m with x | x
          · exact Nat.le_of_lt (hp i m x hm)
          · rw [show m = i by omega]; exact Nat.le_refl _
        omega
      constructor
      · intro a1
        obtain ⟨k, hk, _, e2⟩ := k1 a1
        have a2 : i < t := by omega
        exact ⟨a2, both a1 a2⟩
      · intro a2
        obtain ⟨k, hk, _, e2⟩ := k2 a2
        have a1 : i < T := by omega
        exact ⟨a1, both a1 a2⟩
  have hR : T = t := by
    rcases Nat.lt_trichotomy T t with e | e | e
    · have := ((key (T + 1) T (by omega)).2 e).1; omega
    · exact e
    · have := ((key (t + 1) t (by omega)).1 e).1; omega
  exact ⟨hR, fun i hi => ((key (i + 1) i (by omega)).1 hi).2⟩

/-! ### the elimination -/
structure EchI (R C : Nat) (m l : Mt) (p : Nat → Nat) (t j : Nat) : Prop where
  tR : t ≤ R
  fw : ∀ i, i < R → InQ R C m (l i)
  bw : ∀ i, i < R → InQ R C l (m i)
  lt : ∀ r, r < t → p r < j
  up : ∀ r s, r < s → s < t → p r < p s
  ne : ∀ r, r < t → l r (p r) ≠ 0
  one : ∀ r i, r < t → i < R → i ≠ r → l i (p r) = 0
  zero : ∀ r b, r < t → b < p r → l r b = 0
  rest : ∀ i b, t ≤ i → i < R → b < j → l i b = 0
  prim : ∀ i, i < R → PrimV C (l i)
theorem EchI.start {R C : Nat} {m l : Mt} {p : Nat → Nat} (h1 : ∀ i, i < R → InQ R C m (l i)) (h2 : ∀ i, i < R → InQ R C l (m i)) (h3 : ∀ i, i < R → PrimV C (l i)) : EchI R C m l p 0 0 :=
  ⟨Nat.zero_le _, h1, h2, fun _ h => absurd h (Nat.not_lt_zero _), fun _ _ _ h => absurd h (Nat.not_lt_zero _), fun _ h => absurd h (Nat.not_lt_zero _), fun _ _ h => absurd h (Nat.not_lt_zero _), fun _ _ h => absurd h (Nat.not_lt_zero _), fun _ _ _ _ h => absurd h (Nat.not_lt_zero _), h3⟩
/-- nothing in a column -/
theorem EchI.skip {R C : Nat} {m l : Mt} {p : Nat → Nat} {t j : Nat} (h : EchI R C m l p t j) (hz : ∀ i, t ≤ i → i < R → l i j = 0) : EchI R C m l p t (j + 1) :=
  ⟨h.tR, h.fw, h.bw, fun r hr => Nat.lt_succ_of_lt (h.lt r hr), h.up, h.ne, h.one, h.zero, fun i b h1 h2 h3 => by
    by_cases e : b = j
    · rw [e]; exact hz i h1 h2
    · exact h.rest i b h1 h2 (by omega), h.prim⟩
/-- two rows behind the pivots exchanged -/
def swi (i j a : Nat) : Nat := if a = i then j else if a = j then i else a
theorem EchI.swp {R C : Nat} {m l l' : Mt} {p : Nat → Nat} {t j q s : Nat} (h : EchI R C m l p t j) (hj : j ≤ C) (hq : q < R) (hs : s < R) (hqt : t ≤ q) (hst : t ≤ s) (e : ∀ a b, a < R → b < C → l' a b = l (swi q s a) b) : EchI R C m l' p t j := by
  have lt : ∀ a, a < R → swi q s a < R := fun a ha => by unfold swi; split; exact hs; split; exact hq; exact ha
  have lo : ∀ a, a < t → swi q s a = a := fun a ha => by unfold swi; rw [if_neg (by omega), if_neg (by omega)]
  have hi : ∀ a, t ≤ a → t ≤ swi q s a := fun a ha => by unfold swi; split; exact hst; split; exact hqt; exact ha
  have inv : ∀ a, swi q s (swi q s a) = a := fun a => by
    unfold swi
    by_cases e1 : a = q
    · rw [if_pos e1]
      by_cases e2 : s = q
      · rw [if_pos e2]; omega
      · rw [if_neg e2, if_pos rfl]; omega
    · rw [if_neg e1]
      by_cases e2 : a = s
      · rw [if_pos e2, if_pos rfl]; omega
      · rw [if_neg e2, if_neg e1, if_neg e2]
  have pl : ∀ r, r < t → p r < C := fun r hr => Nat.lt_of_lt_of_le (h.lt r hr) hj
  refine ⟨h.tR, fun i hi => (h.fw _ (lt i hi)).congr fun b hb => e i b hi hb, fun i hi => (h.bw i hi).trans fun a ha => (InL.row (a := l') (lt a ha)).q.congr fun b hb => ?_, h.lt, h.up, fun r hr => ?_, fun r i hr hi hne => ?_, fun r b hr hb => ?_, fun i b h1 h2 h3 => ?_, fun i hi => ?_⟩
  · rw [e _ b (lt a ha) hb, inv]
  · rw [e r _ (by have := h.tR; omega) (pl r hr), lo r hr]; exact h.ne r hr
  · rw [e i _ hi (pl r hr)]
    refine h.one r _ hr (lt i hi) fun e2 => hne ?_
    have := inv i
    rw [e2, lo r hr] at this
    exact this.symm
  · rw [e r b (by have := h.tR; omega) (Nat.lt_trans hb (pl r hr)), lo r hr]; exact h.zero r b hr hb
  · rw [e i b h2 (by omega)]; exact h.rest _ b (hi i h1) (lt i h2) h3
  · have := h.prim _ (lt i hi)
    rcases this with hz | ⟨hg, k, hk, hpos, hz⟩
    · exact .inl fun b hb => by rw [e i b hi hb]; exact hz b hb
    · exact .inr ⟨fun d hd => hg d fun b hb => by rw [← e i b hi hb]; exact hd b hb, k, hk, by rw [e i k hi hk]; exact hpos, fun b hb => by rw [e i b hi (by omega)]; exact hz b hb⟩
/-- a multiple of the next pivot's row added to a multiple of another row -/
theorem EchI.row {R C : Nat} {m l l' : Mt} {p : Nat → Nat} {t j i : Nat} {c d x : Int} (h : EchI R C m l p t j) (hj : j ≤ C) (ht : t < R) (hi : i < R) (hit : i ≠ t) (hc : c ≠ 0) (hd : d ≠ 0)
    (e : ∀ b, b < C → c * l' i b = d * l i b + x * l t b) (e2 : ∀ a b, a < R → a ≠ i → b < C → l' a b = l a b) (hp : PrimV C (l' i)) : EchI R C m l' p t j := by
  have pl : ∀ r, r < t → p r < C := fun r hr => Nat.lt_of_lt_of_le (h.lt r hr) hj
  have tz : ∀ b, b < j → l t b = 0 := fun b hb => h.rest t b (Nat.le_refl _) ht hb
  have cell : ∀ b, b < j → c * l' i b = d * l i b := fun b hb => by rw [e b (by omega), tz b hb, Int.mul_zero, Int.add_zero]
  have z1 : ∀ b, b < j → l i b = 0 → l' i b = 0 := fun b hb hz => by
    have := cell b hb
    rw [hz, Int.mul_zero] at this
    rcases Int.mul_eq_zero.1 this with k | k
    · exact absurd k hc
    · exact k
  have z2 : ∀ b, b < j → l i b ≠ 0 → l' i b ≠ 0 := fun b hb hz k => by
    have := cell b hb
    rw [k, Int.mul_zero] at this
    exact absurd this.symm (Int.mul_ne_zero hd hz)
  have s1 : ∀ a, a < R → InQ R C l (l' a) := fun a ha => by
    by_cases k : a = i
    · subst k; exact InQ.two hc (InL.row hi) (InL.row ht) e
    · exact (InL.row ha).q.congr fun b hb => e2 a b ha k hb
  have s2 : ∀ a, a < R → InQ R C l' (l a) := fun a ha => by
    by_cases k : a = i
    · subst k
      refine InQ.two (c := d) (d := c) (e := -x) hd (InL.row (a := l') hi) (InL.row (a := l') ht) fun b hb => ?_
      rw [e b hb, e2 t b ht (fun q => hit q.symm) hb, Int.neg_mul]; omega
    · exact (InL.row (a := l') ha).q.congr fun b hb => (e2 a b ha k hb).symm
  refine ⟨h.tR, fun a ha => (s1 a ha).trans h.fw, fun a ha => (h.bw a ha).trans s2, h.lt, h.up, fun r hr => ?_, fun r a hr ha hne => ?_, fun r b hr hb => ?_, fun a b h1 h2 h3 => ?_, fun a ha => ?_⟩
  · by_cases k : r = i
    · subst k; exact z2 _ (h.lt r hr) (h.ne r hr)
    · rw [e2 r _ (by omega) k (pl r hr)]; exact h.ne r hr
  · by_cases k : a = i
    · subst k; exact z1 _ (h.lt r hr) (h.one r a hr hi hne)
    · rw [e2 a _ ha k (pl r hr)]; exact h.one r a hr ha hne
  · have := h.lt r hr
    by_cases k : r = i
    · subst k; exact z1 _ (by omega) (h.zero r b hr hb)
    · rw [e2 r b (by omega) k (by omega)]; exact h.zero r b hr hb
  · by_cases k : a = i
    · subst k; exact z1 _ h3 (h.rest a b h1 hi h3)
    · rw [e2 a b h2 k (by omega)]; exact h.rest a b h1 h2 h3
  · by_cases k : a = i
    · subst k; exact hp
    · have := h.prim a ha
      rcases this with hz | ⟨hg, n, hn, hpos, hz⟩
      · exact .inl fun b hb => by rw [e2 a b ha k hb]; exact hz b hb
      · exact .inr ⟨fun y hy => hg y fun b hb => by rw [← e2 a b ha k hb]; exact hy b hb, n, hn, by rw [e2 a n ha k hn]; exact hpos, fun b hb => by rw [e2 a b ha k (by omega)]; exact hz b hb⟩
/-- one pivot more -/
theorem EchI.next {R C : Nat} {m l : Mt} {p : Nat → Nat} {t j : Nat} (h : EchI R C m l p t j) (ht : t < R) (hne : l t j ≠ 0) (hz : ∀ i, i < R → i ≠ t → l i j = 0) : EchI R C m l (fun r => if r = t then j else p r) (t + 1) (j + 1) := by
  refine ⟨ht, h.fw, h.bw, fun r hr => ?_, fun r s hrs hs => ?_, fun r hr => ?_, fun r i hr hi hri => ?_, fun r b hr hb => ?_, fun i b h1 h2 h3 => ?_, h.prim⟩
  · by_cases k : r = t
    · simp only [if_pos k]; omega
    · simp only [if_neg k]; have := h.lt r (by omega); omega
  · have k1 : r ≠ t := by omega
    simp only [if_neg k1]
    by_cases k : s = t
    · simp only [if_pos k]; exact h.lt r (by omega)
    · simp only [if_neg k]; exact h.up r s hrs (by omega)
  · by_cases k : r = t
    · simp only [if_pos k]; rw [k]; exact hne
    · simp only [if_neg k]; exact h.ne r (by omega)
  · by_cases k : r = t
    · simp only [if_pos k]; exact hz i hi (by omega)
    · simp only [if_neg k]; exact h.one r i (by omega) hi hri
  · by_cases k : r = t
    · simp only [if_pos k] at hb; rw [k]; exact h.rest t b (Nat.le_refl _) ht hb
    · simp only [if_neg k] at hb; exact h.zero r b (by omega) hb
  · by_cases k : b = j
    · rw [k]; exact hz i h2 (by omega)
    · exact h.rest i b (by omega) h2 (by omega)

/-! ### what is left at the end -/
def LdQ (R C : Nat) (a : Mt) (c : Nat) : Prop := c < C ∧ ∃ v, InQ R C a v ∧ v c ≠ 0 ∧ ∀ j, j < c → v j = 0
theorem Her.ldq {T C : Nat} {a : Mt} {p : Nat → Nat} (h : Her T C a p) {c : Nat} : LdQ T C a c ↔ ∃ i, i < T ∧ p i = c := by
  constructor
  · rintro ⟨hc, v, ⟨D, hD, hv⟩, hne, hz⟩
    obtain ⟨i, hi, e, _⟩ := h.lead hv hc (Int.mul_ne_zero hD hne) fun j hj => by rw [hz j hj, Int.mul_zero]
    exact ⟨i, hi, e⟩
  · rintro ⟨i, hi, rfl⟩
    exact ⟨h.lt i hi, a i, (InL.row hi).q, by have := h.pos i hi; omega, fun j hj => h.zero i j hi hj⟩
theorem EchI.out {R C : Nat} {m l : Mt} {p : Nat → Nat} {t : Nat} (h : EchI R C m l p t C) {v : Nat → Int} (hv : InQ R C m v) : ∃ (D : Int) (x : Nat → Int), D ≠ 0 ∧ (∀ j, j < C → D * v j = lc t l x j) ∧ ∀ r, r < t → D * v (p r) = x r * l r (p r) := by
  obtain ⟨D, hD, x, hx⟩ := hv.trans h.bw
  have hx : ∀ j, j < C → D * v j = lc R l x j := hx
  have hx2 : ∀ j, j < C → D * v j = lc t l x j := fun j hj => by rw [hx j hj]; exact lc_cut h.tR fun i h1 h2 => h.rest i j h1 h2 hj
  refine ⟨D, x, hD, hx2, fun r hr => ?_⟩
  rw [hx2 _ (h.lt r hr)]
  exact sumN_only hr fun i hi hne => by rw [h.one r i hr (by have := h.tR; omega) hne, Int.mul_zero]
theorem EchI.ldq {R C : Nat} {m l : Mt} {p : Nat → Nat} {t : Nat} (h : EchI R C m l p t C) {c : Nat} : LdQ R C m c ↔ ∃ r, r < t ∧ p r = c := by
  constructor
  · rintro ⟨hc, v, hv, hne, hz⟩
    obtain ⟨D, x, hD, h1, h2⟩ := h.out hv
    refine Classical.byContradiction fun hno => absurd (h1 c hc) ?_
    rw [show lc t l x c = 0 from lc_zero fun r hr => ?_]
    · exact Int.mul_ne_zero hD hne
    · rcases Nat.lt_trichotomy (p r) c with k | k | k
      · left
        have := h2 r hr
        rw [hz _ k, Int.mul_zero] at this
        rcases Int.mul_eq_zero.1 this.symm with q | q
        · exact q
        · exact absurd q (h.ne r hr)
      · exact absurd ⟨r, hr, k⟩ hno
      · exact .inr (h.zero r c hr k)
  · rintro ⟨r, hr, rfl⟩
    exact ⟨h.lt r hr, l r, h.fw r (by have := h.tR; omega), h.ne r hr, fun j hj => h.zero r j hr hj⟩
theorem LdQ.mono {R R' C : Nat} {a b : Mt} (h : ∀ i, i < R → InQ R' C b (a i)) {c : Nat} (hl : LdQ R C a c) : LdQ R' C b c := by
  obtain ⟨hc, v, hv, h1, h2⟩ := hl
  exact ⟨hc, v, hv.trans h, h1, h2⟩
/-- as many rows as any Hermite form of the same space -/
theorem EchI.rank {R C T : Nat} {m l a : Mt} {p q : Nat → Nat} {t : Nat} (h : EchI R C m l p t C) (H : Her T C a q) (h1 : ∀ i, i < R → InQ T C a (m i)) (h2 : ∀ i, i < T → InQ R C m (a i)) : t = T :=
  (two_up h.up H.up (fun r hr => H.ldq.1 (LdQ.mono h1 (h.ldq.2 ⟨r, hr, rfl⟩))) fun i hi => h.ldq.1 (LdQ.mono h2 (H.ldq.2 ⟨i, hi, rfl⟩))).1
theorem Her.rank {T T' C : Nat} {a b : Mt} {p q : Nat → Nat} (h : Her T C a p) (h' : Her T' C b q) (h1 : ∀ i, i < T → InQ T' C b (a i)) (h2 : ∀ i, i < T' → InQ T C a (b i)) : T = T' :=
  (two_up h.up h'.up (fun r hr => h'.ldq.1 (LdQ.mono h1 (h.ldq.2 ⟨r, hr, rfl⟩))) fun i hi => h.ldq.1 (LdQ.mono h2 (h'.ldq.2 ⟨i, hi, rfl⟩))).1
/-- one form for one space -/
theorem EchI.same {R R' C : Nat} {m l m' l' : Mt} {p p' : Nat → Nat} {t t' : Nat} (h : EchI R C m l p t C) (h' : EchI R' C m' l' p' t' C) (h1 : ∀ i, i < R → InQ R' C m' (m i)) (h2 : ∀ i, i < R' → InQ R C m (m' i)) : t = t' ∧ ∀ r b, r < t → b < C → l r b = l' r b := by
  obtain ⟨e, hp⟩ := two_up h.up h'.up (fun r hr => h'.ldq.1 (LdQ.mono h1 (h.ldq.2 ⟨r, hr, rfl⟩))) fun i hi => h.ldq.1 (LdQ.mono h2 (h'.ldq.2 ⟨i, hi, rfl⟩))
  subst e
  refine ⟨rfl, fun r b hr hb => ?_⟩
  have hrR : r < R := by have := h.tR; omega
  have hrR' : r < R' := by have := h'.tR; omega
  obtain ⟨D, x, hD, k1, k2⟩ := h.out ((h'.fw r hrR').trans h2)
  have hx : ∀ s, s < t → s ≠ r → x s = 0 := fun s hs hne => by
    have := k2 s hs
    rw [hp s hs, h'.one s r hs hrR' (fun e => hne e.symm), Int.mul_zero] at this
    rcases Int.mul_eq_zero.1 this.symm with q | q
    · exact q
    · rw [← hp s hs] at q; exact absurd q (h.ne s hs)
  refine PrimV.eq (h.prim r hrR) (h'.prim r hrR') hD (x := x r) (fun j hj => ?_) ⟨p' r, h'.lt r hr, h'.ne r hr⟩ b hb
  rw [k1 j hj]
  exact sumN_only hr fun s hs hne => by rw [hx s hs hne, Int.zero_mul]
end Go.Proofs.Ythajmffhgbenpaa

/- The Hermite form as an algorithm: its rows are made by a unimodular matrix, and they are in Hermite form. -/
namespace Go.Proofs.Ythajmffhgbenpaa
set_option linter.unusedSimpArgs false
set_option linter.unusedVariables false

/-- the cells of a list as a matrix with C columns -/
def mt (C : Nat) (l : List Int) : Mt := fun i j => nth l (i * C + j)
theorem HerD.congr {R C : Nat} {m h u h' u' : Mt} (H : HerD R C m h u) (hh : ∀ i j, i < R → j < C → h' i j = h i j) (hu : ∀ i j, i < R → j < R → u' i j = u i j) : HerD R C m h' u' := by
  have e : ∀ i k, i < R → k < R → lc R (fun i k => if k = i then (1 : Int) else 0) (fun k => if k = i then 1 else 0) k = if k = i then 1 else 0 := fun i k hi _ => lc_row _ hi k
  exact H.step (fun i k => if k = i then 1 else 0) (fun i k => if k = i then 1 else 0) (fun i j hi hj => by rw [hh i j hi hj, lc_row h hi j]) (fun i j hi hj => by rw [hu i j hi hj, lc_row u hi j]) e e
/-- a row and a multiple of another one -/
def addE (i j : Nat) (t : Int) : Mt := fun a k => (if k = a then 1 else 0) + (if a = i then (if k = j then t else 0) else 0)
theorem lc_addE {R i j : Nat} {t : Int} (hj : j < R) (h : Mt) {a : Nat} (ha : a < R) (b : Nat) : lc R h (addE i j t a) b = h a b + if a = i then t * h j b else 0 := by
  unfold addE
  rw [lc_add R h (fun k => if k = a then 1 else 0) (fun k => if a = i then (if k = j then t else 0) else 0), lc_row h ha b]
  congr 1
  by_cases e : a = i
  · rw [if_pos e]
    simp only [if_pos e]
    have : lc R h (fun k => if k = j then t else 0) b = lc R h (fun k => t * (if k = j then 1 else 0)) b := lc_congr fun k _ => by
      by_cases e : k = j <;> simp [e]
    rw [this, lc_mul, lc_row h hj b]
  · rw [if_neg e]
    simp only [if_neg e]
    exact lc_zero fun _ _ => .inl rfl
theorem HerD.add {R C : Nat} {m h u h' u' : Mt} (H : HerD R C m h u) {i j : Nat} (hj : j < R) (hij : i ≠ j) (t : Int)
    (hh : ∀ a b, a < R → b < C → h' a b = if a = i then h a b + h j b * t else h a b) (hu : ∀ a b, a < R → b < R → u' a b = if a = i then u a b + u j b * t else u a b) : HerD R C m h' u' := by
  have inv : ∀ (t : Int) a k, a < R → k < R → lc R (addE i j t) (addE i j (-t) a) k = if k = a then 1 else 0 := fun t a k ha hk => by
    rw [lc_addE hj _ ha k]
    unfold addE
    by_cases e : a = i
    · rw [if_pos e, if_pos e, if_neg (Ne.symm hij)]
      by_cases e2 : k = j
      · rw [if_pos e2, if_pos e2]; omega
      · rw [if_neg e2, if_neg e2]; omega
    · rw [if_neg e, if_neg e]; omega
  have inv2 : ∀ a k, a < R → k < R → lc R (addE i j (-t)) (addE i j t a) k = if k = a then 1 else 0 := fun a k ha hk => by
    have := inv (-t) a k ha hk
    rwa [Int.neg_neg] at this
  refine H.step (addE i j t) (addE i j (-t)) (fun a b ha hb => ?_) (fun a b ha hb => ?_) (inv t) inv2
  · rw [hh a b ha hb, lc_addE hj h ha b]
    by_cases e : a = i
    · rw [if_pos e, if_pos e, Int.mul_comm]
    · rw [if_neg e, if_neg e]; omega
  · rw [hu a b ha hb, lc_addE hj u ha b]
    by_cases e : a = i
    · rw [if_pos e, if_pos e, Int.mul_comm]
    · rw [if_neg e, if_neg e]; omega
/-- rows exchanged -/
def sw (i j a : Nat) : Nat := if a = i then j else if a = j then i else a
theorem sw_lt {R i j a : Nat} (hi : i < R) (hj : j < R) (ha : a < R) : sw i j a < R := by unfold sw; split; exact hj; split; exact hi; exact ha
theorem sw_sw (i j a : Nat) : sw i j (sw i j a) = a := by
  unfold sw
  by_cases e1 : a = i
  · rw [if_pos e1]
    by_cases e2 : j = i
    · rw [if_pos e2]; omega
    · rw [if_neg e2, if_pos rfl]; omega
  · rw [if_neg e1]
    by_cases e2 : a = j
    · rw [if_pos e2, if_pos rfl]; omega
    · rw [if_neg e2, if_neg e1, if_neg e2]
theorem HerD.swp {R C : Nat} {m h u h' u' : Mt} (H : HerD R C m h u) {i j : Nat} (hi : i < R) (hj : j < R)
    (hh : ∀ a b, a < R → b < C → h' a b = h (sw i j a) b) (hu : ∀ a b, a < R → b < R → u' a b = u (sw i j a) b) : HerD R C m h' u' := by
  have inv : ∀ a k, a < R → k < R → lc R (fun a k => if k = sw i j a then (1 : Int) else 0) (fun k => if k = sw i j a then 1 else 0) k = if k = a then 1 else 0 := fun a k ha hk => by
    rw [lc_row _ (sw_lt hi hj ha) k, sw_sw]
  exact H.step (fun a k => if k = sw i j a then 1 else 0) (fun a k => if k = sw i j a then 1 else 0) (fun a b ha hb => by rw [hh a b ha hb, lc_row h (sw_lt hi hj ha) b]) (fun a b ha hb => by rw [hu a b ha hb, lc_row u (sw_lt hi hj ha) b]) inv inv
/-- a row turned to its negative -/
theorem HerD.neg {R C : Nat} {m h u h' u' : Mt} (H : HerD R C m h u) {i : Nat}
    (hh : ∀ a b, a < R → b < C → h' a b = if a = i then - h a b else h a b) (hu : ∀ a b, a < R → b < R → u' a b = if a = i then - u a b else u a b) : HerD R C m h' u' := by
  have key : ∀ (g : Mt) a b, a < R → lc R g (fun k => (if a = i then -1 else 1) * (if k = a then 1 else 0)) b = if a = i then - g a b else g a b := fun g a b ha => by
    rw [lc_mul, lc_row g ha b]
    split <;> omega
  have inv : ∀ a k, a < R → k < R → lc R (fun a k => (if a = i then (-1 : Int) else 1) * (if k = a then 1 else 0)) (fun k => (if a = i then -1 else 1) * (if k = a then 1 else 0)) k = if k = a then 1 else 0 := fun a k ha hk => by
    rw [key _ a k ha]
    by_cases e : a = i
    · rw [if_pos e, if_pos e]; omega
    · rw [if_neg e, if_neg e]; omega
  exact H.step (fun a k => (if a = i then (-1 : Int) else 1) * (if k = a then 1 else 0)) (fun a k => (if a = i then (-1 : Int) else 1) * (if k = a then 1 else 0)) (fun a b ha hb => by rw [hh a b ha hb, key h a b ha]) (fun a b ha hb => by rw [hu a b ha hb, key u a b ha]) inv inv

/-! ### the algorithm's steps -/
abbrev Hd (R C : Nat) (m : Mt) (s : LL) : Prop := HerD R C m (mt C s.1) (mt R s.2)
theorem addT_cells {R C i j : Nat} {t : Int} {l : List Int} (hi : i < R) (hn : allNum (addT R C i j t l) = true) (a b : Nat) (ha : a < R) (hb : b < C) : mt C (addT R C i j t l) a b = if a = i then mt C l a b + mt C l j b * t else mt C l a b := by
  unfold mt
  by_cases e : a = i
  · rw [if_pos e, e]; exact addT_same hi hb hn
  · rw [if_neg e]; exact addT_other ha hb e
theorem swpT_cells {R C i j : Nat} {l : List Int} (a b : Nat) (ha : a < R) (hb : b < C) : mt C (swpT R C i j l) a b = mt C l (sw i j a) b := by
  unfold mt sw
  rw [swpT_cell ha hb]
  split
  · rfl
  · split <;> rfl
theorem Hd.add {R C i j : Nat} {t : Int} {m : Mt} {s s' : LL} (H : Hd R C m s) (hi : i < R) (hj : j < R) (hij : i ≠ j) (h : addS R C i j t s = some s') : Hd R C m s' := by
  obtain ⟨rfl, h1, h2⟩ := two_some h
  exact HerD.add H hj hij t (fun a b ha hb => addT_cells hi h1 a b ha hb) (fun a b ha hb => addT_cells hi h2 a b ha hb)
theorem Hd.swp {R C i j : Nat} {m : Mt} {s : LL} (H : Hd R C m s) (hi : i < R) (hj : j < R) : Hd R C m (swpS R C i j s) :=
  HerD.swp H hi hj (fun a b ha hb => swpT_cells a b ha hb) (fun a b ha hb => swpT_cells a b ha hb)
theorem Hd.neg {R C i : Nat} {m : Mt} {s : LL} (H : Hd R C m s) (ok : Ok2 R C s) : Hd R C m (negS R C i s) :=
  HerD.neg H (fun a b ha hb => negT_cell ok.l1 ok.n1 ha hb) (fun a b ha hb => negT_cell ok.l2 ok.n2 ha hb)
theorem elimF_D {R C t j p : Nat} {m : Mt} {s : LL} (H : Hd R C m s) (hpR : p < R) {k : Nat} (hk : t + k ≤ R) {s' : LL} (h : elimF R C t j p s k = some s') : Hd R C m s' := by
  induction k generalizing s' with
  | zero => cases h; exact H
  | succ k ih =>
    rw [elimF] at h
    obtain ⟨q, h1, h2⟩ := Option.bind_eq_some_iff.1 h
    have E := ih (by omega) h1
    split at h2
    · cases h2; exact E
    · rename_i hc
      exact E.add (by omega) hpR (fun e => hc (.inl e)) h2
theorem redF_D {R C t j : Nat} {m : Mt} (hj : j < C) (f : Nat) : ∀ (s : LL) (p : Nat) (s' : LL) (p' : Nat), Ok2 R C s → Lst R C t j p s.1 → Hd R C m s → redF R C t j f s p = some (s', p') → Hd R C m s' := by
  induction f with
  | zero => intro s p s' p' _ _ _ h; cases h
  | succ f ih =>
    intro s p s' p' ok hl H h
    rw [redF] at h
    split at h
    · obtain ⟨q, h1, h2⟩ := Option.bind_eq_some_iff.1 h
      have hlo := hl.lo
      have hhi := hl.hi
      have E := elimF_EI ok hl.lo hl.hi hj hl.ne (by omega) h1
      split at h2
      · rename_i p2 hp2
        exact ih q p2 s' p' E.ok (Lst.of hp2) (elimF_D H hhi (by omega) h1) h2
      · cases h2
    · cases h; exact H
theorem upF_D {R C t j : Nat} {m : Mt} {s : LL} (H : Hd R C m s) (ht : t < R) {k : Nat} (hk : k ≤ t) {s' : LL} (h : upF R C t j s k = some s') : Hd R C m s' := by
  induction k generalizing s' with
  | zero => cases h; exact H
  | succ k ih =>
    rw [upF] at h
    obtain ⟨q, h1, h2⟩ := Option.bind_eq_some_iff.1 h
    exact (ih (by omega) h1).add (by omega) ht (by omega) h2
/-- made by a unimodular matrix; the rows so far are in Hermite form -/
structure HL (R C j : Nat) (m : Mt) (x : TS) : Prop where
  hi : HI R C j x
  hd : Hd R C m x.2
  her : ∃ p, Her x.1 j (mt C x.2.1) p
theorem colS_HL {R C j : Nat} {m : Mt} {x y : TS} (hj : j < C) (L : HL R C j m x) (h : colS R C j x = some y) : HL R C (j + 1) m y := by
  have hHI := colS_HI hj L.hi h
  suffices hh : Hd R C m y.2 ∧ ∃ p, Her y.1 (j + 1) (mt C y.2.1) p from ⟨hHI, hh.1, hh.2⟩
  clear hHI
  have H := L.hi
  obtain ⟨pp, hp0⟩ := L.her
  have HD := L.hd
  obtain ⟨t, s⟩ := x
  unfold colS at h
  simp only at h hp0 HD
  split at h
  · rename_i ht
    split at h
    · cases h
      exact ⟨HD, pp, ⟨fun i hi => Nat.lt_succ_of_lt (hp0.lt i hi), hp0.up, hp0.pos, hp0.zero, hp0.red⟩⟩
    · rename_i p hp
      obtain ⟨⟨q, p'⟩, h1, h2⟩ := Option.bind_eq_some_iff.1 h
      obtain ⟨s3, h3, rfl⟩ := Option.map_eq_some_iff.1 h2
      simp only at h3 ⊢
      have I := redF_RI hj _ s p q p' H.ok (Lst.of hp) h1
      have D1 := redF_D hj _ s p q p' H.ok (Lst.of hp) HD h1
      have hp'R := I.lst.hi
      have A : ∃ s1, s1 = swapIf R C p' t q ∧ Ok2 R C s1 ∧ Hd R C m s1 ∧ nth s1.1 (t * C + j) ≠ 0 ∧ (∀ r b, r < t → b < C → nth s1.1 (r * C + b) = nth s.1 (r * C + b)) ∧ (∀ b, b < j → ∀ r, t ≤ r → r < R → nth s1.1 (r * C + b) = 0) := by
        refine ⟨_, rfl, ?_⟩
        have zq : ∀ b, b < j → ∀ r, t ≤ r → r < R → nth q.1 (r * C + b) = 0 := fun b hb => I.zero b (by omega) fun r h1 h2 => H.zero r h1 h2 b hb
        unfold swapIf
        by_cases e : p' = t
        · rw [if_pos e]
          subst e
          exact ⟨I.ok, D1, I.lst.ne, I.above, zq⟩
        · rw [if_neg e]
          have hlo := I.lst.lo
          refine ⟨swpS_ok I.ok hp'R ht, D1.swp hp'R ht, ?_, fun r b hr hb => ?_, fun b hb r h1 h2 => ?_⟩
          · show nth (swpT R C p' t q.1) _ ≠ 0
            rw [swpT_cell ht hj, if_neg (Ne.symm e), if_pos rfl]; exact I.lst.ne
          · show nth (swpT R C p' t q.1) _ = _
            rw [swpT_cell (by omega) hb, if_neg (by omega), if_neg (by omega)]; exact I.above r b hr hb
          · show nth (swpT R C p' t q.1) _ = 0
            rw [swpT_cell h2 (by omega)]
            split
            · exact zq b hb t (by omega) ht
            · split
              · exact zq b hb p' hlo hp'R
              · exact zq b hb r h1 h2
      obtain ⟨s1, es1, ok1, hd1, ne1, ab1, z1⟩ := A
      rw [← es1] at h3
      have B : ∃ s2, s2 = negIf R C t j s1 ∧ Ok2 R C s2 ∧ Hd R C m s2 ∧ 0 < nth s2.1 (t * C + j) ∧ (∀ r b, r < t → b < C → nth s2.1 (r * C + b) = nth s.1 (r * C + b)) ∧ (∀ b, b < j → ∀ r, t ≤ r → r < R → nth s2.1 (r * C + b) = 0) := by
        refine ⟨_, rfl, ?_⟩
        unfold negIf
        split
        · have cell : ∀ a b, a < R → b < C → nth (negS R C t s1).1 (a * C + b) = if a = t then - nth s1.1 (a * C + b) else nth s1.1 (a * C + b) := fun a b ha hb => negT_cell ok1.l1 ok1.n1 ha hb
          refine ⟨negS_ok ok1 ht, hd1.neg ok1, ?_, fun r b hr hb => ?_, fun b hb r h1 h2 => ?_⟩
          · rw [cell _ _ ht hj, if_pos rfl]; omega
          · rw [cell _ _ (by omega) hb, if_neg (by omega)]; exact ab1 r b hr hb
          · rw [cell _ _ h2 (by omega), z1 b hb r h1 h2]; simp
        · exact ⟨ok1, hd1, by omega, ab1, z1⟩
      obtain ⟨s2, es2, ok2, hd2, pos2, ab2, z2⟩ := B
      rw [← es2] at h3
      have U := upF_UI ok2 ht hj (by omega) (Nat.le_refl t) h3
      have D3 := upF_D hd2 ht (Nat.le_refl t) h3
      have old : ∀ i c, i < t → c < j → mt C s3.1 i c = mt C s.1 i c := fun i c hi hc => by
        unfold mt
        rw [U.keep c (by omega) (z2 c hc t (Nat.le_refl _) ht) i (by omega), ab2 i c hi (by omega)]
      have ept : mt C s3.1 t j = nth s2.1 (t * C + j) := U.same t j ht hj (Nat.le_refl _)
      have ezt : ∀ c, c < j → mt C s3.1 t c = 0 := fun c hc => (U.same t c ht (by omega) (Nat.le_refl _)).trans (z2 c hc t (Nat.le_refl _) ht)
      refine ⟨D3, fun i => if i < t then pp i else j, ⟨fun i hi => ?_, fun i k hik hk => ?_, fun i hi => ?_, fun i c hi hc => ?_, fun k i hki hi => ?_⟩⟩
      · (try simp only)
        split
        · rename_i h; have := hp0.lt i h; omega
        · omega
      · (try simp only)
        have hk' : k < t + 1 := hk
        rw [if_pos (show i < t by omega)]
        split
        · rename_i h; exact hp0.up i k hik h
        · exact hp0.lt i (by omega)
      · have hi' : i < t + 1 := hi
        (try simp only)
        split
        · rename_i h
          rw [old i _ h (hp0.lt i h)]; exact hp0.pos i h
        · obtain rfl : i = t := by omega
          rw [ept]; exact pos2
      · have hi' : i < t + 1 := hi
        (try simp only at hc)
        split at hc
        · rename_i h
          rw [old i c h (by have := hp0.lt i h; omega)]; exact hp0.zero i c h hc
        · obtain rfl : i = t := by omega
          exact ezt c hc
      · have hi' : i < t + 1 := hi
        (try simp only)
        split
        · rename_i h
          have hl := hp0.lt i h
          rw [old k _ (by omega) hl, old i _ h hl]
          exact hp0.red k i hki h
        · obtain rfl : i = t := by omega
          have := U.red k hki
          rw [ept]
          refine ⟨this.1, ?_⟩
          have h4 := this.2
          unfold absI at h4
          rw [if_neg (by omega)] at h4
          exact h4
  · cases h
    exact ⟨HD, pp, ⟨fun i hi => Nat.lt_succ_of_lt (hp0.lt i hi), hp0.up, hp0.pos, hp0.zero, hp0.red⟩⟩
theorem hermF_HL {R C : Nat} {m : Mt} {s : LL} (hs : Ok2 R C s) (hd : Hd R C m s) {j : Nat} (hj : j ≤ C) {x : TS} (h : hermF R C s j = some x) : HL R C j m x := by
  induction j generalizing x with
  | zero =>
    have H := hermF_HI hs hj h
    cases h
    exact ⟨H, hd, fun _ => 0, ⟨fun i hi => absurd hi (Nat.not_lt_zero _), fun i k _ hk => absurd hk (Nat.not_lt_zero _), fun i hi => absurd hi (Nat.not_lt_zero _), fun i _ hi => absurd hi (Nat.not_lt_zero _), fun _ i _ hi => absurd hi (Nat.not_lt_zero _)⟩⟩
  | succ j ih =>
    rw [hermF] at h
    obtain ⟨y, h1, h2⟩ := Option.bind_eq_some_iff.1 h
    exact colS_HL (by omega) (ih (by omega) h1) h2
theorem idL_cell {R a b : Nat} (ha : a < R) (hb : b < R) : mt R (idL R) a b = if a = b then 1 else 0 := by
  unfold mt idL; rw [tab_nth _ ha hb]
theorem hermT_HL {R C : Nat} {l : List Int} (h : Ok2 R C (l, idL R)) {x : TS} (hx : hermT R C l = some x) : HL R C C (mt C l) x :=
  hermF_HL h ((HerD.one R C (mt C l)).congr (fun _ _ _ _ => rfl) fun i j hi hj => idL_cell hi hj) (Nat.le_refl C) hx
end Go.Proofs.Ythajmffhgbenpaa

/- The program's bases, kernels and coordinates, as lattices in plain numbers. -/
namespace Go.Proofs.Ythajmffhgbenpaa
set_option linter.unusedSimpArgs false
set_option linter.unusedVariables false

theorem latB_her {R C : Nat} {l : List Int} (h : latB R C l = true) : l.length = R * C ∧ Her R C (mt C l) (pv C l) := by
  unfold latB at h
  simp only [Bool.and_eq_true, decide_eq_true_eq, Int.toNat_natCast] at h
  obtain ⟨⟨hm, hb⟩, hz⟩ := h
  obtain ⟨R', C', e1, e2, _, _, hl, _⟩ := isMat_nat hm
  obtain rfl : R = R' := by omega
  obtain rfl : C = C' := by omega
  have hz' := zeroR_nil.1 (List.length_eq_zero_iff.1 hz)
  have lt : ∀ i, i < R → pv C l i < C := fun i hi => by have := pv_le hl hi; have := hz' i hi; omega
  obtain ⟨last', hlast⟩ := Option.isSome_iff_exists.1 hb
  have some_ : ∀ i, i ≤ R → ∃ x, herF C l i = some x := fun i hi => by
    cases e : herF C l i with
    | none => rw [herF_none e hi] at hlast; cases hlast
    | some x => exact ⟨x, rfl⟩
  have step : ∀ i x, i < R → herF C l i = some x → herF C l (i + 1) = some (pv C l i : Int) ∧ x < (pv C l i : Int) ∧ 0 ≤ nth l (i * C + pv C l i) ∧ upB C l i (pv C l i) i = false := fun i x hi hx => by
    have hp : pv C l i ≠ C := hz' i hi
    by_cases hb : (pv C l i : Int) ≤ x ∨ nth l (i * C + pv C l i) < 0 ∨ upB C l i (pv C l i) i = true
    · obtain ⟨y, hy⟩ := some_ (i + 1) hi
      rw [herF_bad hx hp hb] at hy; cases hy
    · have h1 : ¬ (pv C l i : Int) ≤ x := fun e => hb (.inl e)
      have h2 : ¬ nth l (i * C + pv C l i) < 0 := fun e => hb (.inr (.inl e))
      have h3 : upB C l i (pv C l i) i = false := by
        cases e : upB C l i (pv C l i) i
        · rfl
        · exact absurd (.inr (.inr e)) hb
      exact ⟨herF_good hx hp h1 h2 h3, by omega, by omega, h3⟩
  have nxt : ∀ i, i + 1 < R → pv C l i < pv C l (i + 1) := fun i hi => by
    obtain ⟨x, hx⟩ := some_ i (by omega)
    have s1 := (step i x (by omega) hx).1
    have s2 := (step (i + 1) _ hi s1).2.1
    omega
  have up : ∀ d i, i + d + 1 < R → pv C l i < pv C l (i + d + 1) := fun d => by
    induction d with
    | zero => exact fun i hi => nxt i hi
    | succ d ih => exact fun i hi => by have := ih i (by omega); have := nxt (i + d + 1) (by omega); rw [show i + (d + 1) + 1 = i + d + 1 + 1 by omega]; omega
  refine ⟨hl, lt, fun i k hik hk => ?_, fun i hi => ?_, fun i j hi hj => pv_zero (by have := lt i hi; omega) hj, fun k i hki hi => ?_⟩
  · have := up (k - i - 1) i (by omega)
    rwa [show i + (k - i - 1) + 1 = k by omega] at this
  · obtain ⟨x, hx⟩ := some_ i (by omega)
    have s := (step i x hi hx).2.2.1
    have n := pv_ne hl hi (lt i hi)
    show 0 < nth l _
    omega
  · obtain ⟨x, hx⟩ := some_ i (by omega)
    have s := (step i x hi hx).2.2.2
    show 0 ≤ nth l _ ∧ nth l _ < nth l _
    by_cases hb : nth l (k * C + pv C l i) < 0 ∨ nth l (i * C + pv C l i) ≤ nth l (k * C + pv C l i)
    · rw [upB_at hki hb] at s; cases s
    · omega
theorem her_pv {R C : Nat} {l : List Int} {p : Nat → Nat} (hl : l.length = R * C) (h : Her R C (mt C l) p) {i : Nat} (hi : i < R) : pv C l i = p i := by
  have hp := h.lt i hi
  have hlen : (rowL C l i).length = C := rowL_length (by rw [hl]; exact Nat.mul_le_mul_right C hi)
  refine (fnz_uniq (k := p i) (fun j hj => ?_) (fun _ => ?_) (by rw [hlen]; omega)).symm
  · rw [rowL_nth (by omega)]; exact h.zero i j hi hj
  · rw [rowL_nth hp]
    have := h.pos i hi
    show nth l (i * C + p i) ≠ 0
    have : 0 < nth l (i * C + p i) := this
    omega
theorem her_latB {R C : Nat} {l : List Int} {p : Nat → Nat} (hm : isMat R C l = true) (h : Her R C (mt C l) p) : latB R C l = true := by
  obtain ⟨R', C', e1, e2, _, _, hl, _⟩ := isMat_nat hm
  obtain rfl : R = R' := by omega
  obtain rfl : C = C' := by omega
  have hpv : ∀ i, i < R → pv C l i = p i := fun i hi => her_pv hl h hi
  have key : ∀ i, i ≤ R → ∃ x, herF C l i = some x ∧ ∀ k, i ≤ k → k < R → x < (p k : Int) := fun i => by
    induction i with
    | zero => exact fun _ => ⟨-1, rfl, fun k _ _ => by omega⟩
    | succ i ih =>
      intro hi
      obtain ⟨x, hx, hlt⟩ := ih (by omega)
      have hp := hpv i (by omega)
      have hltC := h.lt i (by omega)
      have hpos := h.pos i (by omega)
      refine ⟨_, herF_good hx (by omega) (by have := hlt i (Nat.le_refl _) (by omega); omega) ?_ ?_, fun k hk hkR => ?_⟩
      · rw [hp]; show ¬ mt C l i (p i) < 0; omega
      · cases e : upB C l i (pv C l i) i
        · rfl
        · unfold upB at e
          rw [List.any_eq_true] at e
          obtain ⟨t, ht, e⟩ := e
          have ht' : t < i := by simpa using ht
          have r := h.red t i ht' (by omega)
          rw [hp] at e
          simp only [Bool.or_eq_true, decide_eq_true_eq] at e
          have r1 : 0 ≤ nth l (t * C + p i) := r.1
          have r2 : nth l (t * C + p i) < nth l (i * C + p i) := r.2
          omega
      · rw [hp]
        have := h.up i k (by omega) hkR
        omega
  obtain ⟨x, hx, _⟩ := key R (Nat.le_refl _)
  have hb : herB R C l = true := by unfold herB; rw [hx]; rfl
  have hz : zeroR C l R = [] := zeroR_nil.2 fun i hi => by rw [hpv i hi]; have := h.lt i hi; omega
  unfold latB
  rw [hm, Int.toNat_natCast, Int.toNat_natCast, hb, hz]; rfl

theorem mt_take {T C : Nat} {l : List Int} {i j : Nat} (hi : i < T) (hj : j < C) : mt C (l.take (T * C)) i j = mt C l i j := by
  unfold mt nth
  simp only [List.getD_eq_getElem?_getD, List.getElem?_take, if_pos (idx_lt hi hj)]
theorem mt_drop {T C : Nat} {l : List Int} {i j : Nat} : mt C (l.drop (T * C)) i j = mt C l (T + i) j := by
  unfold mt nth
  simp only [List.getD_eq_getElem?_getD, List.getElem?_drop]
  rw [Nat.add_mul, Nat.add_assoc]
theorem Her.cells {R C : Nat} {a b : Mt} {p : Nat → Nat} (h : Her R C a p) (e : ∀ i j, i < R → j < C → b i j = a i j) : Her R C b p :=
  ⟨h.lt, h.up, fun i hi => by rw [e i _ hi (h.lt i hi)]; exact h.pos i hi, fun i j hi hj => by rw [e i j hi (Nat.lt_trans hj (h.lt i hi))]; exact h.zero i j hi hj, fun k i hk hi => by rw [e k _ (by omega) (h.lt i hi), e i _ hi (h.lt i hi)]; exact h.red k i hk hi⟩
/-- the Hermite form of the program -/
theorem hermO_D {R C : Nat} {l : List Int} (h : isMat R C l = true) {x : MX × MX} (hx : hermO ⟨R, C, l⟩ = some x) :
    ∃ (T : Nat) (a u : List Int) (p : Nat → Nat), x = (⟨R, C, a⟩, ⟨R, R, u⟩) ∧ rankN x = T ∧ T ≤ R ∧ Ok2 R C (a, u) ∧ HerD R C (mt C l) (mt C a) (mt R u) ∧ Her T C (mt C a) p ∧ ∀ i j, T ≤ i → i < R → j < C → mt C a i j = 0 := by
  obtain ⟨T, a, u, rfl, ok, st, hT⟩ := hermO_some h hx
  rw [hermO_nat h] at hx
  obtain ⟨⟨T', a', u'⟩, h1, h2⟩ := Option.map_eq_some_iff.1 hx
  have H := hermF_HL (m := mt C l) (ok2_start h) ((HerD.one R C (mt C l)).congr (fun _ _ _ _ => rfl) fun i j hi hj => idL_cell hi hj) (Nat.le_refl C) h1
  have e1 : a' = a := congrArg (fun q : MX × MX => q.1.l) h2
  have e2 : u' = u := congrArg (fun q : MX × MX => q.2.l) h2
  subst e1 e2
  have hT' : rankN (⟨R, C, a'⟩, ⟨R, R, u'⟩) = T' := by
    show nzN (C : Int).toNat a' (R : Int).toNat = T'
    rw [Int.toNat_natCast, Int.toNat_natCast, H.hi.stair.nzN R (Nat.le_refl _)]
    have := H.hi.tR
    simp only at this ⊢
    omega
  rw [hT] at hT'
  subst hT'
  obtain ⟨p, hp⟩ := H.her
  exact ⟨T, a', u', p, rfl, hT, H.hi.tR, ok, H.hd, hp, fun i j h1 h2 h3 => H.hi.zero i h1 h2 j h3⟩
/-- a basis of the lattice of the rows of a -/
structure BasD (R C : Nat) (a : Mt) (m : MX) (T : Nat) : Prop where
  r : m.r = T
  c : m.c = C
  len : m.l.length = T * C
  lat : latB T C m.l = true
  same : ∀ v, InL R C a v ↔ InL T C (mt C m.l) v
theorem BasD.her {R C T : Nat} {a : Mt} {m : MX} (h : BasD R C a m T) : Her T C (mt C m.l) (pv C m.l) := (latB_her h.lat).2
theorem basO_D {R C : Nat} {l : List Int} {m : MX} (h : isMat R C l = true) (hm : basO ⟨R, C, l⟩ = some m) : ∃ T, T ≤ R ∧ BasD R C (mt C l) m T := by
  have hok := basO_ok hm
  unfold basO at hm
  obtain ⟨x, h1, h2⟩ := Option.map_eq_some_iff.1 hm
  obtain ⟨T, a, u, p, rfl, hT, hTR, ok, HD, hp, hz⟩ := hermO_D h h1
  rw [hT] at h2
  simp only [Int.toNat_natCast] at h2
  subst h2
  have cells : ∀ i j, i < T → j < C → mt C (a.take (T * C)) i j = mt C a i j := fun i j hi hj => mt_take hi hj
  refine ⟨T, hTR, rfl, rfl, ?_, her_latB hok (hp.cells cells), fun v => ?_⟩
  · have hl : a.length = R * C := ok.l1
    have := Nat.mul_le_mul_right C hTR
    show (a.take (T * C)).length = T * C
    rw [List.length_take]; omega
  · rw [HD.same hTR hz v]
    exact ⟨fun h => h.cells fun i j hi hj => (cells i j hi hj).symm, fun h => h.cells cells⟩
/-- independent rows are as many as those of their basis -/
theorem basO_full {R C : Nat} {l : List Int} {m : MX} (h : isMat R C l = true) (hm : basO ⟨R, C, l⟩ = some m) (hi : ∀ x : Nat → Int, (∀ j, j < C → lc R (mt C l) x j = 0) → ∀ i, i < R → x i = 0) : BasD R C (mt C l) m R := by
  obtain ⟨T, hTR, B⟩ := basO_D h hm
  have hm2 := hm
  unfold basO at hm2
  obtain ⟨x, h1, h2⟩ := Option.map_eq_some_iff.1 hm2
  obtain ⟨T', a, u, p, rfl, hT, hTR', ok, HD, hp, hz⟩ := hermO_D h h1
  have e := HD.full hTR' hz hi
  rw [hT, e] at h2
  have e2 : T = R := by
    have := B.r
    rw [← h2] at this
    simp only at this
    omega
  subst e2
  exact B
/-- a basis of what a matrix takes to 0 -/
theorem kerO_D {R C : Nat} {l : List Int} {k : MX} (h : isMat R C l = true) (hk : kerO ⟨R, C, l⟩ = some k) :
    ∃ (T : Nat) (a u : List Int) (p : Nat → Nat), hermO ⟨R, C, l⟩ = some (⟨R, C, a⟩, ⟨R, R, u⟩) ∧ T ≤ R ∧ Her T C (mt C a) p ∧ HerD R C (mt C l) (mt C a) (mt R u) ∧ (∀ i j, T ≤ i → i < R → j < C → mt C a i j = 0) ∧ BasD (R - T) R (fun i j => mt R u (T + i) j) k (R - T) ∧ ∀ x, (∀ j, j < C → lc R (mt C l) x j = 0) ↔ InL (R - T) R (mt R k.l) x := by
  unfold kerO at hk
  obtain ⟨x, h1, h2⟩ := Option.bind_eq_some_iff.1 hk
  obtain ⟨T, a, u, p, rfl, hT, hTR, ok, HD, hp, hz⟩ := hermO_D h h1
  simp only [hT, Int.toNat_natCast] at h2
  have hR : R ≤ 24 := by
    obtain ⟨R', C', e1, e2, hR, _⟩ := isMat_nat h
    omega
  have hlen : (u.drop (T * R)).length = (R - T) * R := by
    have hl : u.length = R * R := ok.l2
    rw [List.length_drop, hl, Nat.sub_mul]
  have hM : isMat (R - T : Nat) R (u.drop (T * R)) = true := by
    rw [isMat_made (by omega) hR hlen, allNum_iff]
    intro i hi
    have e : nth (u.drop (T * R)) i = nth u (T * R + i) := by
      unfold nth; simp only [List.getD_eq_getElem?_getD, List.getElem?_drop]
    rw [e]
    exact nth_num ok.n2 _
  have cells : ∀ i j, mt R (u.drop (T * R)) i j = mt R u (T + i) j := fun i j => mt_drop
  have hind : ∀ x : Nat → Int, (∀ j, j < R → lc (R - T) (mt R (u.drop (T * R))) x j = 0) → ∀ i, i < R - T → x i = 0 := fun x hx i hi => by
    have h3 := HD.un.ind (fun i => if T ≤ i then x (i - T) else 0) (fun j hj => by
      refine Eq.trans ?_ (hx j hj)
      unfold lc
      obtain ⟨d, hd⟩ : ∃ d, R = T + d := ⟨R - T, by omega⟩
      have e0 : R - T = d := by omega
      rw [e0]
      have e1 : sumN R (fun i => (if T ≤ i then x (i - T) else 0) * mt R u i j) = sumN (T + d) (fun i => (if T ≤ i then x (i - T) else 0) * mt R u i j) := by rw [← hd]
      rw [e1, sumN_split, sumN_zero (n := T) fun i hi => by rw [if_neg (by omega), Int.zero_mul], Int.zero_add]
      exact sumN_congr fun i _ => by rw [if_pos (by omega), Nat.add_sub_cancel_left, cells]) (T + i) (by omega)
    rw [if_pos (by omega), Nat.add_sub_cancel_left] at h3
    exact h3
  have B := basO_full hM h2 hind
  have e : mt R (u.drop (T * R)) = fun i j => mt R u (T + i) j := by funext i j; exact cells i j
  rw [e] at B
  exact ⟨T, a, u, p, h1, hTR, hp, HD, hz, B, fun x => by rw [HD.ker hTR hp hz x]; exact B.same x⟩

/-! ### coordinates -/
theorem crdF_lc {C : Nat} {l v : List Int} (hl : allNum l = true) (hv : v.length = C) (hn : allNum v = true) {I : Nat} {s : List Int × List Int} (h : crdF C l v I = some s) : ∀ j, j < C → nth v j = nth s.1 j + lc I (mt C l) (nth s.2) j := by
  induction I generalizing s with
  | zero => cases h; intro j hj; show nth v j = nth v j + 0; omega
  | succ I ih =>
    cases hI : crdF C l v I with
    | none => rw [crdF, hI] at h; cases h
    | some t =>
      rw [crdF_next hI] at h
      have hi := crdF_inv hv hn hI
      have ih' := ih hI
      obtain ⟨rfl, h2⟩ := crdS_some h
      intro j hj
      have hx := (allNum_iff _).1 h2 j (by rw [subRow_length]; exact hj)
      simp only at hx ⊢
      rw [subRow_nth hj] at hx ⊢
      rw [isNum_addB hx, ih' j hj]
      unfold lc
      rw [sumN]
      have e1 : nth (t.2 ++ [crdQ C l I t.1]) I = crdQ C l I t.1 := by
        rw [nth_append_right _ _ _ (by rw [hi.l2]; exact Nat.le_refl _), hi.l2, Nat.sub_self]; rfl
      have e2 : sumN I (fun i => nth (t.2 ++ [crdQ C l I t.1]) i * mt C l i j) = sumN I (fun i => nth t.2 i * mt C l i j) := sumN_congr fun i hi2 => by
        rw [nth_append_left _ _ _ (by rw [hi.l2]; exact hi2)]
      rw [e1, e2]
      have e3 : mt C l I j = nth l (I * C + j) := rfl
      rw [e3, Int.mul_neg, Int.mul_comm]; omega
theorem crdO_lc {R C : Nat} {l v x : List Int} (h : crdO ⟨R, C, l⟩ v = some x) : latB R C l = true ∧ v.length = C ∧ x.length = R ∧ ∀ j, j < C → nth v j = lc R (mt C l) (nth x) j := by
  cases h1 : latB R C l
  · rw [crdO_no (a := ⟨R, C, l⟩) (.inl h1)] at h; cases h
  · by_cases h2 : (v.length : Int) = C
    · cases h3 : allNum v
      · rw [crdO_no (a := ⟨R, C, l⟩) (.inr (.inr h3))] at h; cases h
      · have hx := (crdO_some h).1
        rw [crdO_yes h1 (by omega) h3] at h
        obtain ⟨s, h4, h5⟩ := Option.bind_eq_some_iff.1 h
        have hv : v.length = C := by omega
        have hi := crdF_inv hv h3 h4
        have hl : allNum l = true := by
          obtain ⟨hm, _⟩ := latB_parts h1
          obtain ⟨_, _, _, _, _, _, _, hn⟩ := isMat_nat hm
          exact (allNum_iff l).2 hn
        split at h5
        · rename_i hz
          cases h5
          refine ⟨rfl, hv, hx, fun j hj => ?_⟩
          rw [crdF_lc hl hv h3 h4 j hj, (zeroB_iff _).1 hz j (by rw [hi.l1]; exact hj), Int.zero_add]
        · cases h5
    · rw [crdO_no (a := ⟨R, C, l⟩) (.inr (.inl h2))] at h; cases h
theorem crdO_in {R C : Nat} {l v x : List Int} (h : crdO ⟨R, C, l⟩ v = some x) : InL R C (mt C l) (nth v) := ⟨nth x, (crdO_lc h).2.2.2⟩
theorem getD_rows {L : List (List Int)} {R i : Nat} (h : ∀ k, k < L.length → (L.getD k []).length = R) (hi : i < L.length) (n : Nat) (hn : i < n) (hn2 : n ≤ L.length) {j : Nat} (hj : j < R) : nth (flatF L n) (i * R + j) = nth (L.getD i []) j := by
  have hlen : ∀ n, n ≤ L.length → (flatF L n).length = n * R := fun n => by
    induction n with
    | zero => intro _; simp [flatF]
    | succ n ih => intro hn; rw [flatF, List.length_append, ih (by omega), h n (by omega), Nat.add_mul, Nat.one_mul]
  induction n with
  | zero => omega
  | succ n ih =>
    rw [flatF]
    by_cases e : i < n
    · rw [nth_append_left _ _ _ (by rw [hlen n (by omega)]; exact idx_lt e hj)]
      exact ih e (by omega)
    · obtain rfl : i = n := by omega
      rw [nth_append_right _ _ _ (by rw [hlen i (by omega)]; omega), hlen i (by omega), Nat.add_sub_cancel_left]
theorem crmF_row {a : MX} {C : Nat} {l : List Int} {n : Nat} {L : List (List Int)} (h : crmF a C l n = some L) : ∀ i, i < n → crdO a (rowL C l i) = some (L.getD i []) := by
  induction n generalizing L with
  | zero => intro i hi; omega
  | succ n ih =>
    rw [crmF] at h
    obtain ⟨M, h1, h2⟩ := Option.bind_eq_some_iff.1 h
    obtain ⟨x, h3, rfl⟩ := Option.map_eq_some_iff.1 h2
    have hl := (crmF_inv h1).len
    intro i hi
    by_cases e : i < n
    · rw [getD_app_left (by omega)]; exact ih h1 i e
    · obtain rfl : i = n := by omega
      rw [h3]
      congr 1
      have := getD_app_last (L := M) (x := x)
      rw [hl] at this
      exact this.symm
/-- coordinates of the rows of a sublattice -/
theorem crmO_D {R C R' C' : Nat} {l l' : List Int} {m : MX} (h : crmO ⟨R, C, l⟩ ⟨R', C', l'⟩ = some m) :
    latB R C l = true ∧ latB R' C' l' = true ∧ C' = C ∧ ∃ c, m = ⟨R', R, c⟩ ∧ isMat R' R c = true ∧ c.length = R' * R ∧ (∀ i, i < R' → ∀ j, j < C → mt C l' i j = lc R (mt C l) (mt R c i) j) := by
  obtain ⟨R1, R1', c, e0, e1, e2, hR, hR', hm, hlen⟩ := crmO_shape h
  obtain rfl : R = R1 := by omega
  obtain rfl : R' = R1' := by omega
  unfold crmO at h
  simp only at h
  split at h
  · rename_i hc
    simp only [Bool.and_eq_true, decide_eq_true_eq] at hc
    obtain ⟨⟨h1, h2⟩, h3⟩ := hc
    obtain rfl : C' = C := by omega
    simp only [Int.toNat_natCast] at h
    obtain ⟨L, hL, h4⟩ := Option.map_eq_some_iff.1 h
    have ec : c = flatF L R' := by
      rw [e0] at h4
      exact (congrArg MX.l h4).symm
    refine ⟨h1, h2, rfl, c, e0, hm, hlen, fun i hi j hj => ?_⟩
    have hrow := crmF_row hL i hi
    obtain ⟨_, _, hx, hlc⟩ := crdO_lc hrow
    have hI := crmF_inv hL
    obtain ⟨_, _, h5⟩ := crm_mat hR hR' hL
    have := hlc j hj
    rw [rowL_nth hj] at this
    show nth l' (i * C' + j) = _
    rw [this]
    refine lc_congr fun k hk => ?_
    show nth (L.getD i []) k * _ = nth c (i * R + k) * _
    rw [ec, getD_rows h5 (by rw [hI.len]; exact hi) R' hi (by rw [hI.len]; exact Nat.le_refl _) hk]
  · cases h

/-! ### one lattice, one basis -/
theorem her_eq {R R' C : Nat} {l l' : List Int} (hl : l.length = R * C) (hl' : l'.length = R' * C) {p q : Nat → Nat} (h : Her R C (mt C l) p) (h' : Her R' C (mt C l') q) (e : ∀ v, InL R C (mt C l) v ↔ InL R' C (mt C l') v) : R = R' ∧ l = l' := by
  obtain ⟨rfl, _, hc⟩ := h.unique h' (fun i hi => (e _).2 (InL.row hi)) (fun i hi => (e _).1 (InL.row hi))
  refine ⟨rfl, nth_ext (by omega) fun i hi => ?_⟩
  rw [hl] at hi
  obtain ⟨h1, h2, h3⟩ := idx_split hi
  have := hc _ _ h1 h2
  unfold mt at this
  rw [← h3] at this
  exact this
theorem BasD.eq {R R' C T T' : Nat} {a b : Mt} {m m' : MX} (h : BasD R C a m T) (h' : BasD R' C b m' T') (e : ∀ v, InL R C a v ↔ InL R' C b v) : m = m' ∧ T = T' := by
  obtain ⟨h1, h2⟩ := her_eq h.len h'.len h.her h'.her fun v => by rw [← h.same v, ← h'.same v]; exact e v
  obtain ⟨r, c, l⟩ := m
  obtain ⟨r', c', l'⟩ := m'
  have a1 := h.r; have a2 := h.c; have a3 := h'.r; have a4 := h'.c
  simp only at a1 a2 a3 a4 h2
  refine ⟨?_, h1⟩
  rw [a1, a2, a3, a4, h2, h1]
/-- the coordinates of a row of the lattice itself -/
theorem crdF_self {R C : Nat} {l : List Int} (hl : allNum l = true) (hlen : l.length = R * C) (h : Her R C (mt C l) (pv C l)) {i : Nat} (hi : i < R) : ∀ k, k ≤ R → ∃ s, crdF C l (rowL C l i) k = some s ∧ s.1.length = C ∧ ∀ j, j < C → nth s.1 j = if k ≤ i then nth l (i * C + j) else 0 := by
  have hrl : (rowL C l i).length = C := rowL_length (by rw [hlen]; exact Nat.mul_le_mul_right C hi)
  intro k
  induction k with
  | zero => exact fun _ => ⟨(rowL C l i, []), rfl, hrl, fun j hj => by rw [if_pos (Nat.zero_le _)]; exact rowL_nth hj⟩
  | succ k ih =>
    intro hk
    obtain ⟨s, h1, h2, h3⟩ := ih (by omega)
    have hpk := h.lt k (by omega)
    have hposk : 0 < nth l (k * C + pv C l k) := h.pos k (by omega)
    have eq : nth s.1 (pv C l k) = if k = i then nth l (k * C + pv C l k) else 0 := by
      rw [h3 _ hpk]
      by_cases e : k = i
      · rw [if_pos e, if_pos (by omega), e]
      · rw [if_neg e]
        split
        · rename_i hki
          exact h.zero i _ hi (h.up k i (by omega) hi)
        · rfl
    have hq : crdQ C l k s.1 = if k = i then 1 else 0 := by
      unfold crdQ
      rw [eq]
      by_cases e : k = i
      · rw [if_pos e, if_pos e, Int.tdiv_self (by omega)]
      · rw [if_neg e, if_neg e, Int.zero_tdiv]
    have hmod : (nth s.1 (pv C l k)).tmod (nth l (k * C + pv C l k)) = 0 := by
      rw [eq]
      by_cases e : k = i
      · rw [if_pos e, Int.tmod_self]
      · rw [if_neg e, Int.zero_tmod]
    have cell : ∀ j, j < C → nth (subRow C l k (crdQ C l k s.1) s.1) j = if k + 1 ≤ i then nth l (i * C + j) else 0 := fun j hj => by
      rw [subRow_nth hj, h3 j hj, hq]
      have hn1 := nth_num hl (i * C + j)
      have hn2 := nth_num hl (k * C + j)
      by_cases e : k = i
      · subst e
        rw [if_pos rfl, if_pos (Nat.le_refl _), if_neg (by omega), mulB_neg hn2, addB_num hn1 (by rw [isNum_iff] at *; omega)]
        rw [show nth l (k * C + j) + -nth l (k * C + j) = 0 by omega]; rfl
      · rw [if_neg e]
        have hm : mulB (nth l (k * C + j)) (-0) = 0 := by
          rw [show (-0 : Int) = 0 from rfl, mulB_num hn2 (by decide), Int.mul_zero]; rfl
        rw [hm]
        by_cases e2 : k ≤ i
        · rw [if_pos e2, if_pos (by omega), addB_num hn1 (by decide), Int.add_zero, fit_yes hn1]
        · rw [if_neg e2, if_neg (by omega), addB_num (by decide) (by decide)]; rfl
    have hall : allNum (subRow C l k (crdQ C l k s.1) s.1) = true := (allNum_iff _).2 fun j hj => by
      rw [subRow_length] at hj
      rw [cell j hj]
      split
      · exact nth_num hl _
      · decide
    refine ⟨(subRow C l k (crdQ C l k s.1) s.1, s.2 ++ [crdQ C l k s.1]), ?_, subRow_length _ _ _ _ _, cell⟩
    rw [crdF_next h1]
    unfold crdS
    rw [if_pos ⟨hmod, hall⟩]
theorem crdO_self {R C : Nat} {l : List Int} (h : latB R C l = true) {i : Nat} (hi : i < R) : ∃ x, crdO ⟨R, C, l⟩ (rowL C l i) = some x := by
  obtain ⟨hlen, hH⟩ := latB_her h
  have hl : allNum l = true := by
    obtain ⟨hm, _⟩ := latB_parts h
    obtain ⟨_, _, _, _, _, _, _, hn⟩ := isMat_nat hm
    exact (allNum_iff l).2 hn
  have hrl : (rowL C l i).length = C := rowL_length (by rw [hlen]; exact Nat.mul_le_mul_right C hi)
  have hrn : allNum (rowL C l i) = true := (allNum_iff _).2 fun j hj => by
    rw [hrl] at hj
    rw [rowL_nth hj]; exact nth_num hl _
  obtain ⟨s, h1, h2, h3⟩ := crdF_self hl hlen hH hi R (Nat.le_refl _)
  rw [crdO_yes h hrl hrn, h1, Option.bind_some, if_pos]
  · exact ⟨_, rfl⟩
  · rw [zeroB_iff]
    intro j hj
    rw [h2] at hj
    rw [h3 j hj, if_neg (by omega)]
theorem crmO_self {R C : Nat} {l : List Int} (h : latB R C l = true) : (crmO ⟨R, C, l⟩ ⟨R, C, l⟩).isSome = true := by
  have key : ∀ n, n ≤ R → ∃ L, crmF ⟨R, C, l⟩ C l n = some L := fun n => by
    induction n with
    | zero => exact fun _ => ⟨[], rfl⟩
    | succ n ih =>
      intro hn
      obtain ⟨L, hL⟩ := ih (by omega)
      obtain ⟨x, hx⟩ := crdO_self h (show n < R by omega)
      exact ⟨_, crmF_next hL hx⟩
  obtain ⟨L, hL⟩ := key R (Nat.le_refl _)
  rw [crmO_yes (a := ⟨R, C, l⟩) (b := ⟨R, C, l⟩) h h rfl (by simpa using hL)]; rfl
end Go.Proofs.Ythajmffhgbenpaa

/- How many classes a lattice of full rank leaves: the product of its Hermite form's diagonal; compared by maps that keep classes apart. -/
namespace Go.Proofs.Ythajmffhgbenpaa
set_option linter.unusedSimpArgs false
set_option linter.unusedVariables false

/-! ### lists -/
theorem count_le {α β : Type} {l : List α} : ∀ {l' : List β} (f : α → β), l.Nodup → (∀ a, a ∈ l → f a ∈ l') → (∀ a b, a ∈ l → b ∈ l → f a = f b → a = b) → l.length ≤ l'.length := by
  induction l with
  | nil => intros; exact Nat.zero_le _
  | cons a l ih =>
    intro l' f hn hm hi
    classical
    rw [List.nodup_cons] at hn
    have h1 := ih (l' := l'.erase (f a)) f hn.2 (fun b hb => by
      refine (List.mem_erase_of_ne fun e => ?_).2 (hm b (List.mem_cons_of_mem _ hb))
      have := hi b a (List.mem_cons_of_mem _ hb) List.mem_cons_self e
      rw [this] at hb
      exact hn.1 hb) (fun b c hb hc => hi b c (List.mem_cons_of_mem _ hb) (List.mem_cons_of_mem _ hc))
    rw [List.length_erase_of_mem (hm a List.mem_cons_self)] at h1
    have : 0 < l'.length := List.length_pos_of_mem (hm a List.mem_cons_self)
    simp only [List.length_cons]
    omega
/-! ### boxes of vectors: functions that are 0 beyond n -/
def prodN : Nat → (Nat → Nat) → Nat
  | 0, _ => 1
  | n + 1, d => prodN n d * d n
def upd (v : Nat → Int) (n : Nat) (x : Int) : Nat → Int := fun i => if i = n then x else v i
def boxN : Nat → (Nat → Nat) → List (Nat → Int)
  | 0, _ => [fun _ => 0]
  | n + 1, d => (boxN n d).flatMap fun v => (List.range (d n)).map fun (k : Nat) => upd v n (k : Int)
theorem length_flat {α β : Type} (l : List α) (g : α → List β) (m : Nat) (h : ∀ a, (g a).length = m) : (l.flatMap g).length = l.length * m := by
  induction l with
  | nil => simp
  | cons a l ih => rw [List.flatMap_cons, List.length_append, ih, h, List.length_cons, Nat.add_mul, Nat.one_mul]; omega
theorem boxN_length (n : Nat) (d : Nat → Nat) : (boxN n d).length = prodN n d := by
  induction n with
  | zero => rfl
  | succ n ih => rw [boxN, length_flat _ _ (d n) (fun a => by simp), ih]; rfl
theorem mem_boxN {n : Nat} {d : Nat → Nat} {v : Nat → Int} : v ∈ boxN n d ↔ (∀ i, i < n → 0 ≤ v i ∧ v i < d i) ∧ ∀ i, n ≤ i → v i = 0 := by
  induction n generalizing v with
  | zero =>
    simp only [boxN, List.mem_singleton]
    constructor
    · rintro rfl; exact ⟨fun i hi => absurd hi (Nat.not_lt_zero _), fun _ _ => rfl⟩
    · intro h; funext i; exact h.2 i (Nat.zero_le _)
  | succ n ih =>
    simp only [boxN, List.mem_flatMap, List.mem_map, List.mem_range]
    constructor
    · rintro ⟨u, hu, k, hk, rfl⟩
      have h := ih.1 hu
      refine ⟨fun i hi => ?_, fun i hi => ?_⟩
      · unfold upd
        by_cases e : i = n
        · subst e; rw [if_pos rfl]; omega
        · rw [if_neg e]; exact h.1 i (by omega)
      · unfold upd; rw [if_neg (by omega)]; exact h.2 i (by omega)
    · intro h
      refine ⟨upd v n 0, ih.2 ⟨fun i hi => ?_, fun i hi => ?_⟩, (v n).toNat, ?_, ?_⟩
      · unfold upd; rw [if_neg (by omega)]; exact h.1 i (by omega)
      · unfold upd
        by_cases e : i = n
        · rw [if_pos e]
        · rw [if_neg e]; exact h.2 i (by omega)
      · have := h.1 n (by omega); omega
      · funext i
        unfold upd
        by_cases e : i = n
        · subst e; rw [if_pos rfl]; have := h.1 i (by omega); omega
        · rw [if_neg e, if_neg e]
theorem nodup_flat {α β : Type} (l : List α) (g : α → List β) (hn : l.Nodup) (hg : ∀ a, (g a).Nodup) (hd : ∀ a b x, a ∈ l → b ∈ l → x ∈ g a → x ∈ g b → a = b) : (l.flatMap g).Nodup := by
  induction l with
  | nil => simp
  | cons a l ih =>
    rw [List.nodup_cons] at hn
    rw [List.flatMap_cons, List.nodup_append]
    refine ⟨hg a, ih hn.2 fun b c x hb hc => hd b c x (List.mem_cons_of_mem _ hb) (List.mem_cons_of_mem _ hc), ?_⟩
    intro x hx y hy e
    subst e
    obtain ⟨b, hb, hxb⟩ := List.mem_flatMap.1 hy
    have := hd a b x List.mem_cons_self (List.mem_cons_of_mem _ hb) hx hxb
    rw [this] at hn
    exact hn.1 hb
theorem nodup_map {α β : Type} (l : List α) (f : α → β) (hn : l.Nodup) (hf : ∀ a b, f a = f b → a = b) : (l.map f).Nodup := by
  induction l with
  | nil => simp
  | cons a l ih =>
    rw [List.nodup_cons] at hn
    rw [List.map_cons, List.nodup_cons]
    refine ⟨fun h => ?_, ih hn.2⟩
    obtain ⟨b, hb, e⟩ := List.mem_map.1 h
    rw [hf b a e] at hb
    exact hn.1 hb
theorem boxN_nodup (n : Nat) (d : Nat → Nat) : (boxN n d).Nodup := by
  induction n with
  | zero => simp [boxN]
  | succ n ih =>
    rw [boxN]
    refine nodup_flat _ _ ih (fun a => nodup_map _ _ List.nodup_range fun k m e => ?_) fun a b x ha hb hx hy => ?_
    · have := congrFun e n
      unfold upd at this
      rw [if_pos rfl, if_pos rfl] at this
      omega
    · obtain ⟨k, _, rfl⟩ := List.mem_map.1 hx
      obtain ⟨m, _, e⟩ := List.mem_map.1 hy
      have h1 := mem_boxN.1 ha
      have h2 := mem_boxN.1 hb
      funext i
      by_cases e2 : i < n
      · have := congrFun e i
        unfold upd at this
        rw [if_neg (by omega), if_neg (by omega)] at this
        exact this.symm
      · rw [h1.2 i (by omega), h2.2 i (by omega)]

/-! ### classes -/
theorem Her.sq {R : Nat} {h : Mt} {p : Nat → Nat} (H : Her R R h p) : ∀ i, i < R → p i = i := by
  have lo : ∀ i, i < R → i ≤ p i := fun i => by
    induction i with
    | zero => intro _; exact Nat.zero_le _
    | succ i ih => intro hi; have := ih (by omega); have := H.up i (i + 1) (by omega) hi; omega
  have hi : ∀ d i, i + d + 1 = R → p i ≤ i := fun d => by
    induction d with
    | zero => intro i hi; have := H.lt i (by omega); omega
    | succ d ih => intro i hi; have := ih (i + 1) (by omega); have := H.up i (i + 1) (by omega) (by omega); omega
  intro i h
  have := lo i h
  have := hi (R - i - 1) i (by omega)
  omega
/-- each vector is in the class of one in the box -/
theorem Her.rep {R : Nat} {h : Mt} {p : Nat → Nat} (H : Her R R h p) (v : Nat → Int) : ∃ w, w ∈ boxN R (fun i => (h i i).toNat) ∧ InL R R h (fun j => v j - w j) := by
  have sq := H.sq
  have pos : ∀ i, i < R → 0 < h i i := fun i hi => by have := H.pos i hi; rw [sq i hi] at this; exact this
  have zero : ∀ i j, i < R → j < i → h i j = 0 := fun i j hi hj => H.zero i j hi (by rw [sq i hi]; exact hj)
  have step : ∀ n, n ≤ R → ∃ w : Nat → Int, (∀ i, i < n → 0 ≤ w i ∧ w i < h i i) ∧ InL R R h (fun j => v j - w j) := by
    intro n
    induction n with
    | zero => exact fun _ => ⟨v, fun i hi => absurd hi (Nat.not_lt_zero _), (InL.zero R R h).congr fun j _ => by show v j - v j = 0; omega⟩
    | succ n ih =>
      intro hn
      obtain ⟨w, h1, h2⟩ := ih (by omega)
      have hp := pos n (by omega)
      refine ⟨fun j => w j - (w n / h n n) * h n j, fun i hi => ?_, ?_⟩
      · by_cases e : i = n
        · subst e
          have e1 : w i - w i / h i i * h i i = w i % h i i := by rw [Int.emod_def, Int.mul_comm]
          show 0 ≤ w i - w i / h i i * h i i ∧ w i - w i / h i i * h i i < h i i
          rw [e1]
          exact ⟨Int.emod_nonneg _ (by omega), Int.emod_lt_of_pos _ hp⟩
        · have := h1 i (by omega)
          show 0 ≤ w i - w n / h n n * h n i ∧ w i - w n / h n n * h n i < h i i
          rw [zero n i (by omega) (by omega), Int.mul_zero]; omega
      · refine (h2.add ((InL.row (a := h) (C := R) (show n < R by omega)).mul (w n / h n n))).congr fun j _ => ?_
        show v j - (w j - w n / h n n * h n j) = v j - w j + w n / h n n * h n j
        omega
  obtain ⟨w, h1, h2⟩ := step R (Nat.le_refl _)
  refine ⟨fun i => if i < R then w i else 0, mem_boxN.2 ⟨fun i hi => ?_, fun i hi => ?_⟩, h2.congr fun j hj => ?_⟩
  · have := h1 i hi
    simp only [if_pos hi]
    omega
  · simp only [if_neg (show ¬ i < R by omega)]
  · show v j - (if j < R then w j else 0) = v j - w j
    rw [if_pos hj]
/-- two in the box of one class are equal -/
theorem Her.apart {R : Nat} {h : Mt} {p : Nat → Nat} (H : Her R R h p) {v w : Nat → Int} (hv : v ∈ boxN R (fun i => (h i i).toNat)) (hw : w ∈ boxN R (fun i => (h i i).toNat)) (e : InL R R h (fun j => v j - w j)) : v = w := by
  have h1 := mem_boxN.1 hv
  have h2 := mem_boxN.1 hw
  have sq := H.sq
  have := H.small e fun i hi => by
    have a := h1.1 i hi
    have b := h2.1 i hi
    have c := H.pos i hi
    rw [sq i hi] at c ⊢
    show _ < v i - w i ∧ v i - w i < _
    omega
  funext i
  by_cases hi : i < R
  · have := this i hi; omega
  · rw [h1.2 i (by omega), h2.2 i (by omega)]
theorem index_le {R R' : Nat} {h h' : Mt} {p p' : Nat → Nat} (H : Her R R h p) (H' : Her R' R' h' p') (f : (Nat → Int) → Nat → Int)
    (hf : ∀ x y, InL R' R' h' (fun j => f x j - f y j) → InL R R h (fun j => x j - y j)) : prodN R (fun i => (h i i).toNat) ≤ prodN R' (fun i => (h' i i).toNat) := by
  rw [← boxN_length, ← boxN_length]
  have hr := fun v => H'.rep v
  refine count_le (fun a => Classical.choose (hr (f a))) (boxN_nodup _ _) (fun a _ => (Classical.choose_spec (hr (f a))).1) fun a b ha hb e => ?_
  refine H.apart ha hb (hf a b ?_)
  have h1 := (Classical.choose_spec (hr (f a))).2
  have h2 := (Classical.choose_spec (hr (f b))).2
  rw [← e] at h2
  exact (h1.sub h2).congr fun j _ => by
    show f a j - f b j = f a j - Classical.choose (hr (f a)) j - (f b j - Classical.choose (hr (f a)) j)
    omega
end Go.Proofs.Ythajmffhgbenpaa

/- Plain: the product of the diagonal of a Hermite form. -/
namespace Go.Proofs.Ythajmffhgbenpaa
set_option linter.unusedSimpArgs false
set_option linter.unusedVariables false
open Go.RowKit

def prdD (R : Nat) (l : List Int) : Nat → Option Int
  | 0 => some 1
  | i + 1 => (prdD R l i).bind fun p => if isNum (p * nth l (i * R + i)) then some (p * nth l (i * R + i)) else none
theorem prdD_num {R : Nat} {l : List Int} {i : Nat} {p : Int} (h : prdD R l i = some p) : isNum p = true := by
  cases i with
  | zero => cases h; decide
  | succ i =>
    rw [prdD] at h
    obtain ⟨q, _, h2⟩ := Option.bind_eq_some_iff.1 h
    split at h2
    · cases h2; assumption
    · cases h2
theorem prdD_yes {R : Nat} {l : List Int} {i : Nat} {p : Int} (h : prdD R l i = some p) (h2 : isNum (p * nth l (i * R + i)) = true) : prdD R l (i + 1) = some (p * nth l (i * R + i)) := by
  rw [prdD, h]; simp [h2]
theorem prdD_no {R : Nat} {l : List Int} {i : Nat} {p : Int} (h : prdD R l i = some p) (h2 : isNum (p * nth l (i * R + i)) = false) : prdD R l (i + 1) = none := by
  rw [prdD, h]; simp [h2]
theorem prdD_none {R : Nat} {l : List Int} {i k : Nat} (h : prdD R l i = none) (hk : i ≤ k) : prdD R l k = none := by
  induction k with
  | zero => obtain rfl : i = 0 := by omega
            exact h
  | succ k ih =>
    by_cases e : i = k + 1
    · rw [← e]; exact h
    · rw [prdD, ih (by omega)]; rfl
/-- the product, or the mark of a number beyond the limit -/
def prdB (R : Nat) (l : List Int) : Nat → Int
  | 0 => 1
  | i + 1 => mulB (prdB R l i) (nth l (i * R + i))
theorem prdB_eq {R : Nat} {l : List Int} {i : Nat} (hl : ∀ t, t < i → isNum (nth l (t * R + t)) = true) : prdB R l i = (prdD R l i).getD bad := by
  induction i with
  | zero => rfl
  | succ i ih =>
    rw [prdB, ih (fun t ht => hl t (by omega))]
    cases h : prdD R l i with
    | none => rw [prdD, h]; exact mulB_bad_left _
    | some p =>
      have hp := prdD_num h
      rw [Option.getD_some, mulB_num hp (hl i (by omega))]
      cases hn : isNum (p * nth l (i * R + i))
      · rw [prdD_no h hn, fit_no hn]; rfl
      · rw [prdD_yes h hn, fit_yes hn]; rfl
theorem prdB_ok {R : Nat} {l : List Int} {i : Nat} (hl : ∀ t, t < i → isNum (nth l (t * R + t)) = true) : prdB R l i = bad ∨ isNum (prdB R l i) = true := by
  rw [prdB_eq hl]
  cases h : prdD R l i with
  | none => exact .inl rfl
  | some p => exact .inr (prdD_num h)
def oI (o : Option Int) : Int := o.getD 0
def idxO (a b : MX) : Option Int :=
  (crmO a b).bind fun c => if a.r = b.r then (hermO c).bind fun h => prdD c.r.toNat h.1.l c.r.toNat else none
def IORet (o : Option Int) (w : World) (e : Ending) (w' : World) : Prop := e = .returned (.tuple #[.int .i64 (oI o), .bool o.isSome]) ∧ Grows w w'
theorem herm_cells {R : Nat} {l : List Int} (h : isMat R R l = true) {x : MX × MX} (hx : hermO ⟨R, R, l⟩ = some x) :
    ∃ (a u : List Int), x = (⟨R, R, a⟩, ⟨R, R, u⟩) ∧ a.length = R * R ∧ ∀ i, i < R → isNum (nth a (i * R + i)) = true := by
  obtain ⟨T, a, u, rfl, ok, _⟩ := hermO_some h hx
  refine ⟨a, u, rfl, ok.l1, fun i hi => (allNum_iff a).1 ok.n1 _ ?_⟩
  rw [ok.l1]
  exact idx_lt hi hi
end Go.Proofs.Ythajmffhgbenpaa

/- The program's index of a sublattice is the number of its classes. -/
namespace Go.Proofs.Ythajmffhgbenpaa
set_option linter.unusedSimpArgs false
set_option linter.unusedVariables false

theorem prdD_prod {R : Nat} {l : List Int} {i : Nat} {k : Int} (h : prdD R l i = some k) (hp : ∀ t, t < i → 0 < mt R l t t) : k = (prodN i (fun t => (mt R l t t).toNat) : Nat) := by
  induction i generalizing k with
  | zero => cases h; rfl
  | succ i ih =>
    rw [prdD] at h
    obtain ⟨q, h1, h2⟩ := Option.bind_eq_some_iff.1 h
    have e := ih h1 (fun t ht => hp t (by omega))
    split at h2
    · cases h2
      rw [prodN, Int.natCast_mul, ← e]
      have := hp i (by omega)
      rw [Int.toNat_of_nonneg (by omega)]; rfl
    · cases h2
theorem Her.ind' {R C : Nat} {a : Mt} {p : Nat → Nat} (h : Her R C a p) {x y : Nat → Int} (e : ∀ j, j < C → lc R a x j = lc R a y j) : ∀ i, i < R → x i = y i := fun i hi => by
  have := h.ind (x := fun i => x i - y i) (fun j hj => by
    have e1 : lc R a (fun i => x i - y i) j = lc R a (fun i => x i + (-1) * y i) j := lc_congr fun k _ => by rw [show x k - y k = x k + (-1) * y k by omega]
    rw [e1, lc_add R a x (fun i => (-1) * y i), lc_mul, e j hj]; omega) i hi
  have this : x i - y i = 0 := this
  omega
theorem idxO_D {R C R' C' : Nat} {l l' : List Int} {k : Int} (h : idxO ⟨R, C, l⟩ ⟨R', C', l'⟩ = some k) :
    R' = R ∧ C' = C ∧ latB R C l = true ∧ latB R' C' l' = true ∧ ∃ (hh : List Int) (p : Nat → Nat), Her R R (mt R hh) p ∧ (∀ y, InL R R (mt R hh) y ↔ InL R' C (mt C l') (fun j => lc R (mt C l) y j)) ∧ k = (prodN R (fun i => (mt R hh i i).toNat) : Nat) := by
  unfold idxO at h
  obtain ⟨m, h1, h2⟩ := Option.bind_eq_some_iff.1 h
  obtain ⟨hl, hl', rfl, c, rfl, hm, hlen, hrow⟩ := crmO_D h1
  simp only at h2
  split at h2
  · rename_i hR
    obtain rfl : R = R' := by omega
    obtain ⟨x, h3, h4⟩ := Option.bind_eq_some_iff.1 h2
    simp only [Int.toNat_natCast] at h4
    obtain ⟨T, a, u, p, rfl, hT, hTR, ok, HD, hp, hz⟩ := hermO_D hm h3
    have H := (latB_her hl).2
    have H' := (latB_her hl').2
    -- a combination of l' as one of l
    have comb : ∀ z j, j < C' → lc R (mt C' l') z j = lc R (mt C' l) (fun t => lc R (mt R c) z t) j := fun z j hj => by
      rw [← lc_lc]
      exact lc_congr fun i hi => by rw [hrow i hi j hj]
    have full : T = R := HD.full hTR hz fun z hz0 => H'.ind fun j hj => by
      rw [comb z j hj]
      exact lc_zero fun t ht => .inl (hz0 t ht)
    subst full
    simp only at h4
    refine ⟨rfl, rfl, hl, hl', a, p, hp, fun y => ?_, prdD_prod h4 fun t ht => by have := hp.pos t ht; rw [hp.sq t ht] at this; exact this⟩
    rw [← HD.same (Nat.le_refl _) (fun i j h1 h2 => by omega) y]
    constructor
    · rintro ⟨z, hz2⟩
      exact ⟨z, fun j hj => by
        rw [comb z j hj]
        exact lc_congr fun t ht => by rw [hz2 t ht]⟩
    · rintro ⟨z, hz2⟩
      refine ⟨z, fun t ht => ?_⟩
      exact H.ind' (x := y) (y := fun t => lc T (mt T c) z t) (fun j hj => by have e := hz2 j hj; rw [comb z j hj] at e; exact e) t ht
  · cases h2
end Go.Proofs.Ythajmffhgbenpaa

/- Plain: the cells of a product of matrices. -/
namespace Go.Proofs.Ythajmffhgbenpaa
set_option linter.unusedSimpArgs false
set_option linter.unusedVariables false
open Go.RowKit

/-- the cells of a product -/
theorem mulO_cells {R K C : Nat} {a b : List Int} {p : MX} (h : mulO ⟨R, K, a⟩ ⟨K, C, b⟩ = some p) : p.r = R ∧ p.c = C ∧ p.l.length = R * C ∧ ∀ i j, i < R → j < C → nth p.l (i * C + j) = sumN K fun k => nth a (i * K + k) * nth b (k * C + j) := by
  have e := mulO_eq ⟨R, K, a⟩ ⟨K, C, b⟩
  rw [h] at e
  obtain ⟨e1, e2, e3, e4⟩ := e
  have hok : mulOk R K a K C b = true := e4.symm
  have e1' : p.r = mulR R K a K C b := e1
  have e2' : p.c = mulC R K a K C b := e2
  have e3' : p.l = mulV R K a K C b := e3
  unfold mulR at e1'; unfold mulC at e2'; unfold mulV at e3'
  rw [hok] at e1' e2' e3'
  simp only [if_true, Int.toNat_natCast] at e1' e2' e3'
  refine ⟨e1', e2', by rw [e3', mulL_length], fun i j hi hj => ?_⟩
  rw [e3']
  have t := tab_nth (R := R) (C := C) (i := i) (j := j) (fun i j => dotTo a b K C i j K) hi hj
  refine Eq.trans t ?_
  have : ∀ n, dotTo a b K C i j n = sumN n fun t => nth a (i * K + t) * nth b (t * C + j) := fun n => by
    induction n with
    | zero => rfl
    | succ n ih => rw [dotTo, sumN, ih]
  exact this K
end Go.Proofs.Ythajmffhgbenpaa
