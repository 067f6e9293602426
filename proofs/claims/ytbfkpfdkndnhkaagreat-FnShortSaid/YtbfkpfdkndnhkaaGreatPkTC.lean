/- Contracts and lemmas, put together. -/
import Derived.Test.YtbfkpfdkndnhkaaGreatPkCS
import Derived.Test.YtbfkpfdkndnhkaaGreatPkD
import Derived.Test.YtbfkpfdkndnhkaaGreatPkDrS
import Derived.Test.YtbfkpfdkndnhkaaGreatPkTB
import Derived.Test.YtbfkpfdkndnhkaaGreatPkTS
import Derived.Test.YtbfkpfdkndnhkaaGreatPkVS
import Derived.Test.YtbfkpfdkndnhkaaGreatPkXF
/- Plain: ratios as rational numbers; sums of rational numbers. -/
namespace Go.Proofs.YtbfkpfdkndnhkaaGreat
set_option linter.unusedSimpArgs false
set_option linter.unusedVariables false
open Go.RowKit

/-- a ratio's value -/
def rv (q : Q2) : Rat := (q.1 : Rat) / (q.2 : Rat)
theorem cast_pos {a : Int} (h : 0 < a) : (0 : Rat) < a := by
  have := Rat.intCast_lt_intCast.2 h
  simpa using this
theorem cast_ne {a : Int} (h : a ≠ 0) : (a : Rat) ≠ 0 := by
  rcases Int.lt_or_gt_of_ne h with e | e
  · have := cast_pos (a := -a) (by omega)
    rw [Rat.intCast_neg] at this
    grind
  · have := cast_pos e
    grind
theorem okQ_den {q : Q2} (h : okQ q = true) : (0 : Rat) < q.2 := cast_pos (by have := okQ_bd h; omega)
theorem okQ_no : okQ (0, 0) = false := isRat_zero
theorem keepQ_ok {a b : Int} (h : okQ (keepQ a b) = true) : keepQ a b = (a, b) := by
  unfold keepQ at *
  cases hr : isRat a b
  · rw [hr] at h; simp only [Bool.false_eq_true, if_false] at h; rw [okQ_no] at h; cases h
  · rfl
theorem div_same {n d g : Int} (hg : 0 < g) (hn : g ∣ n) (hd : g ∣ d) (h : d ≠ 0) : ((n.tdiv g : Int) : Rat) / ((d.tdiv g : Int) : Rat) = (n : Rat) / d := by
  obtain ⟨a, rfl⟩ := hn
  obtain ⟨b, rfl⟩ := hd
  rw [Int.mul_tdiv_cancel_left _ (by omega), Int.mul_tdiv_cancel_left _ (by omega)]
  have hb : b ≠ 0 := fun e => h (by rw [e]; simp)
  have h1 := cast_ne hb
  have h2 := cast_ne (a := g) (by omega)
  rw [Rat.intCast_mul, Rat.intCast_mul]
  grind
theorem gcdI_dvd (n d : Int) : gcdI n d ∣ n ∧ gcdI n d ∣ d := ⟨Int.gcd_dvd_left _ _, Int.gcd_dvd_right _ _⟩
theorem mkQ_val {n d : Int} (hd : d ≠ 0) (h : okQ (mkQ n d) = true) : rv (mkQ n d) = (n : Rat) / d := by
  have hg := gcdI_pos (a := n) hd
  obtain ⟨g1, g2⟩ := gcdI_dvd n d
  rcases Int.lt_or_gt_of_ne hd with e | e
  · rw [mkQ_neg e] at h ⊢
    rw [keepQ_ok h]
    show (((-n).tdiv (gcdI n d) : Int) : Rat) / _ = _
    rw [div_same hg (Int.dvd_neg.2 g1) (Int.dvd_neg.2 g2) (by omega), Rat.intCast_neg, Rat.intCast_neg]
    have := cast_ne hd
    grind
  · rw [mkQ_pos e] at h ⊢
    rw [keepQ_ok h]
    exact div_same hg g1 g2 (by omega)
theorem addQ_val {a b : Q2} (h : okQ (addQ a b) = true) : okQ a = true ∧ okQ b = true ∧ rv (addQ a b) = rv a + rv b := by
  unfold addQ at *
  split at h
  · rename_i hh
    simp only [Bool.and_eq_true] at hh
    have h1 := okQ_bd hh.1
    have h2 := okQ_bd hh.2
    have d1 := okQ_den hh.1
    have d2 := okQ_den hh.2
    refine ⟨hh.1, hh.2, ?_⟩
    rw [if_pos (by simp [hh.1, hh.2]), mkQ_val (Int.mul_ne_zero (by omega) (by omega)) h]
    unfold rv
    rw [Rat.intCast_add, Rat.intCast_mul, Rat.intCast_mul, Rat.intCast_mul]
    grind
  · rw [okQ_no] at h; cases h
theorem mulQ_val {a b : Q2} (h : okQ (mulQ a b) = true) : okQ a = true ∧ okQ b = true ∧ rv (mulQ a b) = rv a * rv b := by
  unfold mulQ at *
  split at h
  · rename_i hh
    simp only [Bool.and_eq_true] at hh
    have h1 := okQ_bd hh.1
    have h2 := okQ_bd hh.2
    have d1 := okQ_den hh.1
    have d2 := okQ_den hh.2
    refine ⟨hh.1, hh.2, ?_⟩
    rw [if_pos (by simp [hh.1, hh.2]), mkQ_val (Int.mul_ne_zero (by omega) (by omega)) h]
    unfold rv
    rw [Rat.intCast_mul, Rat.intCast_mul]
    grind
  · rw [okQ_no] at h; cases h
theorem negQ_val {a : Q2} (h : okQ (negQ a) = true) : okQ a = true ∧ rv (negQ a) = - rv a := by
  unfold negQ at *
  split at h
  · rename_i hh
    refine ⟨hh, ?_⟩
    have d1 := okQ_den hh
    rw [if_pos hh]
    unfold rv
    simp only [Rat.intCast_neg]
    grind
  · rw [okQ_no] at h; cases h
theorem negQ_ok {a : Q2} (h : okQ a = true) : okQ (negQ a) = true := by
  unfold negQ; rw [if_pos h]
  have h2 := h
  unfold okQ at *
  rw [isRat_iff] at *
  simp only
  refine ⟨h2.1, h2.2.1, by omega, by omega, ?_⟩
  have := h2.2.2.2.2
  unfold gcdI at *
  rwa [Int.neg_gcd]
theorem divQ_val {a b : Q2} (h : okQ (divQ a b) = true) : okQ a = true ∧ okQ b = true ∧ b.1 ≠ 0 ∧ rv (divQ a b) = rv a / rv b := by
  unfold divQ at *
  split at h
  · rename_i hh
    simp only [Bool.and_eq_true, bne_iff_ne] at hh
    obtain ⟨⟨o1, o2⟩, o3⟩ := hh
    have h1 := okQ_bd o1
    have h2 := okQ_bd o2
    have d1 := okQ_den o1
    have d2 := okQ_den o2
    have d3 := cast_ne o3
    refine ⟨o1, o2, o3, ?_⟩
    rw [if_pos (by simp [o1, o2, o3]), mkQ_val (Int.mul_ne_zero (by omega) o3) h]
    unfold rv
    rw [Rat.intCast_mul, Rat.intCast_mul]
    grind
  · rw [okQ_no] at h; cases h
theorem rv_pos {q : Q2} (h : okQ q = true) (hp : 0 < q.1) : 0 < rv q := by
  unfold rv
  rw [Rat.div_def]
  exact Rat.mul_pos (cast_pos hp) (Rat.inv_pos.2 (okQ_den h))
theorem rv_zero {q : Q2} (hp : q.1 = 0) : rv q = 0 := by
  unfold rv; rw [hp]; grind
theorem rv_neg {q : Q2} (h : okQ q = true) (hp : q.1 < 0) : rv q < 0 := by
  have := rv_pos (q := negQ q) (negQ_ok h) (by unfold negQ; rw [if_pos h]; simp only; omega)
  rw [(negQ_val (negQ_ok h)).2] at this
  grind
theorem rv_nonneg {q : Q2} (h : okQ q = true) (hp : 0 ≤ q.1) : 0 ≤ rv q := by
  rcases Int.lt_or_eq_of_le hp with e | e
  · have := rv_pos h e; grind
  · rw [rv_zero e.symm]; exact Rat.le_refl
theorem rv_sign {q : Q2} (h : okQ q = true) : (0 ≤ rv q ↔ 0 ≤ q.1) ∧ (0 < rv q ↔ 0 < q.1) := by
  rcases Int.lt_or_le q.1 0 with e | e
  · have := rv_neg h e
    exact ⟨⟨fun h => by grind, fun h => by omega⟩, ⟨fun h => by grind, fun h => by omega⟩⟩
  · have h2 := rv_nonneg h e
    refine ⟨⟨fun _ => e, fun _ => h2⟩, ⟨fun h3 => ?_, fun h3 => rv_pos h h3⟩⟩
    rcases Int.lt_or_eq_of_le e with e2 | e2
    · exact e2
    · rw [rv_zero e2.symm] at h3; grind
theorem rv_whole (n : Int) : rv (n, 1) = n := by unfold rv; simp only; grind

/-! ### sums -/
def sumR : Nat → (Nat → Rat) → Rat
  | 0, _ => 0
  | n + 1, f => sumR n f + f n
theorem sumR_congr {n : Nat} {f g : Nat → Rat} (h : ∀ i, i < n → f i = g i) : sumR n f = sumR n g := by
  induction n with
  | zero => rfl
  | succ n ih => rw [sumR, sumR, ih (fun i hi => h i (by omega)), h n (by omega)]
theorem sumR_zero {n : Nat} {f : Nat → Rat} (h : ∀ i, i < n → f i = 0) : sumR n f = 0 := by
  induction n with
  | zero => rfl
  | succ n ih => rw [sumR, ih (fun i hi => h i (by omega)), h n (by omega)]; grind
theorem sumR_add (n : Nat) (f g : Nat → Rat) : sumR n (fun i => f i + g i) = sumR n f + sumR n g := by
  induction n with
  | zero => simp only [sumR]; grind
  | succ n ih => simp only [sumR, ih]; grind
theorem sumR_mul (n : Nat) (c : Rat) (f : Nat → Rat) : sumR n (fun i => c * f i) = c * sumR n f := by
  induction n with
  | zero => simp only [sumR]; grind
  | succ n ih => simp only [sumR, ih]; grind
theorem sumR_mulr (n : Nat) (c : Rat) (f : Nat → Rat) : sumR n (fun i => f i * c) = sumR n f * c := by
  induction n with
  | zero => simp only [sumR]; grind
  | succ n ih => simp only [sumR, ih]; grind
theorem sumR_swap (n m : Nat) (f : Nat → Nat → Rat) : sumR n (fun i => sumR m fun j => f i j) = sumR m (fun j => sumR n fun i => f i j) := by
  induction n with
  | zero => simp only [sumR]; exact (sumR_zero fun _ _ => rfl).symm
  | succ n ih => simp only [sumR, ih]; rw [← sumR_add]
theorem sumR_cut {n k : Nat} {f : Nat → Rat} (hk : k ≤ n) (h : ∀ i, k ≤ i → i < n → f i = 0) : sumR n f = sumR k f := by
  induction n with
  | zero => obtain rfl : k = 0 := by omega
            rfl
  | succ n ih =>
    by_cases e : k = n + 1
    · rw [e]
    · rw [sumR, ih (by omega) (fun i h1 h2 => h i h1 (by omega)), h n (by omega) (by omega)]; grind
theorem sumR_split (n m : Nat) (f : Nat → Rat) : sumR (n + m) f = sumR n f + sumR m (fun i => f (n + i)) := by
  induction m with
  | zero => simp only [sumR, Nat.add_zero]; grind
  | succ m ih => rw [← Nat.add_assoc, sumR, ih, sumR]; grind
theorem sumR_nonneg {n : Nat} {f : Nat → Rat} (h : ∀ i, i < n → 0 ≤ f i) : 0 ≤ sumR n f := by
  induction n with
  | zero => exact Rat.le_refl
  | succ n ih =>
    have h1 := ih fun i hi => h i (by omega)
    have h2 := h n (by omega)
    rw [sumR]; grind
theorem sumR_ge {n k : Nat} {f : Nat → Rat} (h : ∀ i, i < n → 0 ≤ f i) (hk : k < n) : f k ≤ sumR n f := by
  induction n with
  | zero => omega
  | succ n ih =>
    have h1 := sumR_nonneg fun i hi => h i (by omega : i < n + 1)
    rw [sumR]
    by_cases e : k = n
    · subst e
      have := sumR_nonneg fun i (hi : i < k) => h i (by omega)
      grind
    · have := ih (fun i hi => h i (by omega)) (by omega)
      have := h n (by omega)
      grind
theorem sumR_cast (n : Nat) (f : Nat → Int) : ((sumN n f : Int) : Rat) = sumR n fun i => (f i : Rat) := by
  induction n with
  | zero => simp [sumN, sumR]
  | succ n ih => rw [sumN, sumR, Rat.intCast_add, ih]
theorem sq_nonneg (a : Rat) : 0 ≤ a * a := by
  rcases Rat.le_total (a := 0) (b := a) with h | h
  · exact Rat.mul_nonneg h h
  · have := Rat.mul_nonneg (show 0 ≤ -a by grind) (show 0 ≤ -a by grind); grind
end Go.Proofs.YtbfkpfdkndnhkaaGreat

/- Plain: the account of a symmetric form splits it into squares. -/
namespace Go.Proofs.YtbfkpfdkndnhkaaGreat
set_option linter.unusedSimpArgs false
set_option linter.unusedVariables false
open Go.RowKit

theorem muX_congr {x0 : Int} {sq row oth sq' row' oth' : List Q2} {k : Nat} (h : ∀ t, t < k → nthQ row t = nthQ row' t ∧ nthQ oth t = nthQ oth' t ∧ nthQ sq t = nthQ sq' t) : muX x0 sq row oth k = muX x0 sq' row' oth' k := by
  induction k with
  | zero => rfl
  | succ k ih =>
    obtain ⟨h1, h2, h3⟩ := h k (by omega)
    rw [muX, muX, ih fun t ht => h t (by omega), h1, h2, h3]
theorem muX_val {x0 : Int} {sq row oth : List Q2} {k : Nat} (h : okQ (muX x0 sq row oth k) = true) : (∀ t, t < k → okQ (nthQ row t) = true ∧ okQ (nthQ oth t) = true ∧ okQ (nthQ sq t) = true) ∧ (x0 : Rat) = rv (muX x0 sq row oth k) + sumR k fun t => rv (nthQ row t) * rv (nthQ oth t) * rv (nthQ sq t) := by
  induction k with
  | zero =>
    refine ⟨fun t ht => by omega, ?_⟩
    show (x0 : Rat) = rv (x0, 1) + 0
    rw [rv_whole]; grind
  | succ k ih =>
    rw [muX] at h ⊢
    obtain ⟨h1, h2, h3⟩ := addQ_val h
    obtain ⟨h4, h5⟩ := negQ_val h2
    obtain ⟨h6, h7, h8⟩ := mulQ_val h4
    obtain ⟨h9, h10, h11⟩ := mulQ_val h6
    obtain ⟨i1, i2⟩ := ih h1
    refine ⟨fun t ht => ?_, ?_⟩
    · by_cases e : t = k
      · subst e; exact ⟨h9, h10, h7⟩
      · exact i1 t (by omega)
    · rw [h3, h5, h8, h11, sumR]
      grind
theorem rowF_cells {C : Nat} {l : List Int} {mu : List (List Q2)} {sq : List Q2} {i j : Nat} {row : List Q2} (h : rowF C l mu sq i j = some row) : ∀ t, t < j → nthQ row t = divQ (cofX C l mu sq i row t) (nthQ sq t) ∧ okQ (cofX C l mu sq i row t) = true := by
  induction j generalizing row with
  | zero => intro t ht; omega
  | succ j ih =>
    rw [rowF] at h
    obtain ⟨r, h1, h2⟩ := Option.bind_eq_some_iff.1 h
    have hl := rowF_len h1
    split at h2
    · rename_i ho
      cases h2
      have hc : ∀ t, t ≤ j → cofX C l mu sq i (r ++ [divQ (cofX C l mu sq i r j) (nthQ sq j)]) t = cofX C l mu sq i r t := fun t ht => by
        unfold cofX
        exact muX_congr fun u hu => ⟨nthQ_append_left _ _ _ (by omega), rfl, rfl⟩
      intro t ht
      rw [hc t (by omega)]
      by_cases e : t = j
      · subst e
        refine ⟨?_, ho⟩
        have := nthQ_append_last r (divQ (cofX C l mu sq i r t) (nthQ sq t))
        rwa [hl] at this
      · rw [nthQ_append_left _ _ _ (by omega)]
        exact ih h1 t (by omega)
    · cases h2
/-- what the account says of a form's first n rows -/
structure AccV (C : Nat) (l : List Int) (n : Nat) (s : List (List Q2) × List Q2) : Prop where
  sq : ∀ i, i < n → okQ (nthQ s.2 i) = true ∧ 0 < (nthQ s.2 i).1
  row : ∀ i j, i < n → j < i → okQ (nthQ (s.1.getD i []) j) = true
  cell : ∀ i j, i < n → j < i → (nth l (i * C + j) : Rat) = rv (nthQ (s.1.getD i []) j) * rv (nthQ s.2 j) + sumR j fun t => rv (nthQ (s.1.getD i []) t) * rv (nthQ (s.1.getD j []) t) * rv (nthQ s.2 t)
  diag : ∀ i, i < n → (nth l (i * C + i) : Rat) = rv (nthQ s.2 i) + sumR i fun t => rv (nthQ (s.1.getD i []) t) * rv (nthQ (s.1.getD i []) t) * rv (nthQ s.2 t)
theorem getD_app_left {α : Type} (a b : List (List α)) (i : Nat) (h : i < a.length) : (a ++ b).getD i [] = a.getD i [] := by
  simp only [List.getD_eq_getElem?_getD]
  rw [List.getElem?_append_left h]
theorem getD_app_last {α : Type} (a : List (List α)) (x : List α) : (a ++ [x]).getD a.length [] = x := by
  simp [List.getD_eq_getElem?_getD]
theorem accF_val {C : Nat} {l : List Int} {n : Nat} {s : List (List Q2) × List Q2} (h : accF C l n = some s) : AccV C l n s := by
  induction n generalizing s with
  | zero => exact ⟨fun i hi => by omega, fun i j hi => by omega, fun i j hi => by omega, fun i hi => by omega⟩
  | succ n ih =>
    rw [accF] at h
    obtain ⟨⟨mu, sq⟩, h1, h2⟩ := Option.bind_eq_some_iff.1 h
    have V := ih h1
    have I := accF_inv h1
    unfold accS at h2
    obtain ⟨row, h3, h4⟩ := Option.bind_eq_some_iff.1 h2
    simp only at h3 h4
    split at h4
    rotate_left
    · cases h4
    rename_i hh
    simp only [Bool.and_eq_true, decide_eq_true_eq] at hh
    obtain ⟨hok, hpos⟩ := hh
    simp only [Option.some.injEq] at h4
    subst h4
    have l1 : mu.length = n := I.l1
    have l2 : sq.length = n := I.l2
    have hrl := rowF_len h3
    obtain ⟨last, hlast⟩ : ∃ q, q = lastX C l sq n row := ⟨_, rfl⟩
    rw [← hlast] at hok hpos ⊢
    have a1 : ∀ i, i < n → (mu ++ [row]).getD i [] = mu.getD i [] := fun i hi => getD_app_left _ _ _ (by omega)
    have a2 : (mu ++ [row]).getD n [] = row := by rw [← l1]; exact getD_app_last _ _
    have a3 : ∀ i, i < n → nthQ (sq ++ [last]) i = nthQ sq i := fun i hi => nthQ_append_left _ _ _ (by omega)
    have a4 : nthQ (sq ++ [last]) n = last := by rw [← l2]; exact nthQ_append_last _ _
    have hm := muX_val (x0 := nth l (n * C + n)) (sq := sq) (row := row) (oth := row) (k := n) (by rw [hlast] at hok; exact hok)
    have hc := rowF_cells h3
    refine ⟨fun i hi => ?_, fun i j hi hj => ?_, fun i j hi hj => ?_, fun i hi => ?_⟩
    · by_cases e : i < n
      · simp only [a3 i e]; exact V.sq i e
      · obtain rfl : i = n := by omega
        simp only [a4]; exact ⟨hok, hpos⟩
    · by_cases e : i < n
      · simp only [a1 i e]; exact V.row i j e hj
      · obtain rfl : i = n := by omega
        simp only [a2]; exact (hm.1 j hj).1
    · by_cases e : i < n
      · simp only [a1 i e, a1 j (by omega), a3 j (by omega)]
        rw [V.cell i j e hj]
        congr 1
        exact sumR_congr fun t ht => by simp only [a3 t (by omega)]
      · obtain rfl : i = n := by omega
        simp only [a2, a1 j hj, a3 j hj]
        obtain ⟨c1, c2⟩ := hc j hj
        have ho := (hm.1 j hj).1
        rw [c1] at ho
        obtain ⟨d1, d2, d3, d4⟩ := divQ_val ho
        have hv := (muX_val (x0 := nth l (i * C + j)) (sq := sq) (row := row) (oth := mu.getD j []) (k := j) c2).2
        have hcx : cofX C l mu sq i row j = muX (nth l (i * C + j)) sq row (mu.getD j []) j := rfl
        rw [hv, ← hcx, c1, d4]
        have hne : rv (nthQ sq j) ≠ 0 := by have := rv_pos d2 (V.sq j hj).2; grind
        have e5 : (sumR j fun t => rv (nthQ row t) * rv (nthQ (mu.getD j []) t) * rv (nthQ (sq ++ [last]) t)) = sumR j fun t => rv (nthQ row t) * rv (nthQ (mu.getD j []) t) * rv (nthQ sq t) := sumR_congr fun t ht => by simp only [a3 t (by omega)]
        rw [e5]
        grind
    · by_cases e : i < n
      · simp only [a1 i e, a3 i e]
        rw [V.diag i e]
        congr 1
        exact sumR_congr fun t ht => by simp only [a3 t (by omega)]
      · obtain rfl : i = n := by omega
        simp only [a2, a4]
        rw [hm.2]
        have : lastX C l sq i row = muX (nth l (i * C + i)) sq row row i := rfl
        rw [← this, ← hlast]
        congr 1
        exact sumR_congr fun t ht => by simp only [a3 t (by omega)]
/-- the coefficients as a matrix -/
def mM (s : List (List Q2) × List Q2) (i k : Nat) : Rat := if k < i then rv (nthQ (s.1.getD i []) k) else if i = k then 1 else 0
def sqV (s : List (List Q2) × List Q2) (k : Nat) : Rat := rv (nthQ s.2 k)
theorem AccV.low {R : Nat} {l : List Int} {s : List (List Q2) × List Q2} (V : AccV R l R s) {i j : Nat} (hi : i < R) (hj : j ≤ i) : (nth l (i * R + j) : Rat) = sumR R fun k => mM s i k * mM s j k * sqV s k := by
  rw [sumR_cut (k := j + 1) (by omega) fun k h1 h2 => by
    have : mM s j k = 0 := by unfold mM; rw [if_neg (by omega), if_neg (by omega)]
    rw [this]; grind]
  rw [sumR]
  have e1 : mM s j j = 1 := by unfold mM; rw [if_neg (by omega), if_pos rfl]
  have e2 : (sumR j fun k => mM s i k * mM s j k * sqV s k) = sumR j fun t => rv (nthQ (s.1.getD i []) t) * rv (nthQ (s.1.getD j []) t) * rv (nthQ s.2 t) := sumR_congr fun t ht => by
    unfold mM sqV; rw [if_pos (by omega), if_pos ht]
  rw [e1, e2]
  by_cases e : j < i
  · rw [V.cell i j hi e]
    have e3 : mM s i j = rv (nthQ (s.1.getD i []) j) := by unfold mM; rw [if_pos e]
    rw [e3]; unfold sqV; grind
  · obtain rfl : j = i := by omega
    rw [V.diag j hi, e1]; unfold sqV; grind
theorem AccV.all {R : Nat} {l : List Int} {s : List (List Q2) × List Q2} (V : AccV R l R s) (hs : ∀ i j, i < R → j < R → nth l (i * R + j) = nth l (j * R + i)) {i j : Nat} (hi : i < R) (hj : j < R) : (nth l (i * R + j) : Rat) = sumR R fun k => mM s i k * mM s j k * sqV s k := by
  by_cases e : j ≤ i
  · exact V.low hi e
  · rw [hs i j hi hj, V.low hj (by omega)]
    exact sumR_congr fun k _ => by grind
/-- the k-th of the orthogonal coordinates of a vector -/
def ordV (R : Nat) (s : List (List Q2) × List Q2) (v : Nat → Int) (k : Nat) : Rat := sumR R fun i => (v i : Rat) * mM s i k
/-- the form is a sum of squares -/
theorem AccV.squares {R : Nat} {l : List Int} {s : List (List Q2) × List Q2} (V : AccV R l R s) (hs : ∀ i j, i < R → j < R → nth l (i * R + j) = nth l (j * R + i)) (v : Nat → Int) : (qf R (fnOf R l) v : Rat) = sumR R fun k => sqV s k * (ordV R s v k * ordV R s v k) := by
  have e1 : (qf R (fnOf R l) v : Rat) = sumR R fun i => sumR R fun j => sumR R fun k => sqV s k * (((v i : Rat) * mM s i k) * ((v j : Rat) * mM s j k)) := by
    unfold qf
    rw [sumR_cast]
    refine sumR_congr fun i hi => ?_
    rw [sumR_cast]
    refine sumR_congr fun j hj => ?_
    rw [Rat.intCast_mul, Rat.intCast_mul]
    show (v i : Rat) * (nth l (i * R + j) : Rat) * (v j : Rat) = _
    rw [V.all hs hi hj, ← sumR_mul, ← sumR_mulr]
    exact sumR_congr fun k _ => by grind
  rw [e1]
  have e2 : ∀ i, (sumR R fun j => sumR R fun k => sqV s k * (((v i : Rat) * mM s i k) * ((v j : Rat) * mM s j k))) = sumR R fun k => sqV s k * ((v i : Rat) * mM s i k) * ordV R s v k := fun i => by
    rw [sumR_swap]
    refine sumR_congr fun k _ => ?_
    unfold ordV
    rw [← sumR_mul]
    exact sumR_congr fun j _ => by grind
  rw [sumR_congr fun i _ => e2 i, sumR_swap]
  refine sumR_congr fun k _ => ?_
  have e3 : (sumR R fun i => sqV s k * ((v i : Rat) * mM s i k) * ordV R s v k) = sumR R fun i => (sqV s k * ordV R s v k) * ((v i : Rat) * mM s i k) := sumR_congr fun i _ => by grind
  rw [e3, sumR_mul]
  show _ = sqV s k * (ordV R s v k * ordV R s v k)
  have : (sumR R fun i => (v i : Rat) * mM s i k) = ordV R s v k := rfl
  rw [this]; grind
/-- a coordinate is that cell and what the later ones add -/
theorem ordV_cell {R : Nat} {s : List (List Q2) × List Q2} {v : Nat → Int} {k : Nat} (hk : k < R) : ordV R s v k = (v k : Rat) + sumR (R - (k + 1)) fun t => (v (k + 1 + t) : Rat) * rv (nthQ (s.1.getD (k + 1 + t) []) k) := by
  unfold ordV
  have e : R = (k + 1) + (R - (k + 1)) := by omega
  have e2 : (sumR R fun i => (v i : Rat) * mM s i k) = sumR (k + 1 + (R - (k + 1))) fun i => (v i : Rat) * mM s i k := by rw [← e]
  rw [e2, sumR_split, sumR]
  have e3 : (sumR k fun i => (v i : Rat) * mM s i k) = 0 := sumR_zero fun i hi => by
    have : mM s i k = 0 := by unfold mM; rw [if_neg (by omega), if_neg (by omega)]
    rw [this]; grind
  have e4 : mM s k k = 1 := by unfold mM; rw [if_neg (by omega), if_pos rfl]
  have e5 : (sumR (R - (k + 1)) fun i => (v (k + 1 + i) : Rat) * mM s (k + 1 + i) k) = sumR (R - (k + 1)) fun t => (v (k + 1 + t) : Rat) * rv (nthQ (s.1.getD (k + 1 + t) []) k) := sumR_congr fun t ht => by
    have : mM s (k + 1 + t) k = rv (nthQ (s.1.getD (k + 1 + t) []) k) := by unfold mM; rw [if_pos (by omega)]
    rw [this]
  rw [e3, e4, e5]; grind
end Go.Proofs.YtbfkpfdkndnhkaaGreat

/- Plain: the search of short vectors cell by cell. -/
namespace Go.Proofs.YtbfkpfdkndnhkaaGreat
set_option linter.unusedSimpArgs false
set_option linter.unusedVariables false
open Go.RowKit

abbrev VS := List (List Int)
/-- what t of the later cells add to cell i -/
def cenQ (mu : List (List Q2)) (v : List Int) (i : Nat) : Nat → Q2
  | 0 => (0, 1)
  | t + 1 => addQ (cenQ mu v i t) (mulQ (wholeQ (nth v (i + 1 + t))) (nthQ (mu.getD (i + 1 + t) []) i))
/-- what is left of the bound when cell i is n -/
def restQ (left c s : Q2) (n : Int) : Q2 := addQ left (negQ (mulQ (mulQ (addQ (wholeQ n) c) (addQ (wholeQ n) c)) s))
theorem mulQ_comm (a b : Q2) : mulQ a b = mulQ b a := by
  unfold mulQ
  rw [Bool.and_comm (okQ a), Int.mul_comm a.1, Int.mul_comm a.2]
theorem okQ_whole {n : Int} (h : okQ (wholeQ n) = true) : -400000000 ≤ n ∧ n ≤ 400000000 := by
  have := okQ_bd h; unfold wholeQ at this; simp only at this; omega
theorem restQ_parts {left c s : Q2} {n : Int} (h : okQ (restQ left c s n) = true) : okQ left = true ∧ okQ c = true ∧ okQ s = true ∧ -400000000 ≤ n ∧ n ≤ 400000000 ∧ rv (restQ left c s n) = rv left - rv s * (((n : Rat) + rv c) * ((n : Rat) + rv c)) := by
  unfold restQ at *
  obtain ⟨h1, h2, h3⟩ := addQ_val h
  obtain ⟨h4, h5⟩ := negQ_val h2
  obtain ⟨h6, h7, h8⟩ := mulQ_val h4
  obtain ⟨h9, _, h10⟩ := mulQ_val h6
  obtain ⟨h11, h12, h13⟩ := addQ_val h9
  have hb := okQ_whole h11
  refine ⟨h1, h12, h7, hb.1, hb.2, ?_⟩
  have hw : rv (wholeQ n) = n := rv_whole n
  rw [h3, h5, h8, h10, h13, hw]
  grind
/-- one direction: from n on by st, what a cell's values add -/
inductive Swp (T : Int → Q2 → Option VS → Prop) (rest : Int → Q2) (st : Int) : Int → VS → Option VS → Prop
  | bad {n : Int} {out : VS} : okQ (rest n) = false ∨ 4000 < out.length → Swp T rest st n out none
  | stop {n : Int} {out : VS} : okQ (rest n) = true → out.length ≤ 4000 → (rest n).1 < 0 → Swp T rest st n out (some out)
  | fail {n : Int} {out : VS} : okQ (rest n) = true → out.length ≤ 4000 → 0 ≤ (rest n).1 → T n (rest n) none → Swp T rest st n out none
  | next {n : Int} {out more : VS} {r : Option VS} : okQ (rest n) = true → out.length ≤ 4000 → 0 ≤ (rest n).1 → T n (rest n) (some more) → Swp T rest st (n + st) (out ++ more) r → Swp T rest st n out r
theorem Swp.det {T : Int → Q2 → Option VS → Prop} {rest : Int → Q2} {st : Int} (hT : ∀ n q o o', T n q o → T n q o' → o = o') {n : Int} {out : VS} {r r' : Option VS} (h : Swp T rest st n out r) (h' : Swp T rest st n out r') : r = r' := by
  induction h with
  | bad hb =>
    cases h' with
    | bad => rfl
    | stop h1 h2 => rcases hb with hb | hb; (rw [h1] at hb; cases hb); omega
    | fail => rfl
    | next h1 h2 => rcases hb with hb | hb; (rw [h1] at hb; cases hb); omega
  | stop h1 h2 h3 =>
    cases h' with
    | bad hb => rcases hb with hb | hb; (rw [h1] at hb; cases hb); omega
    | stop => rfl
    | fail _ _ h4 => omega
    | next _ _ h4 => omega
  | fail h1 h2 h3 h4 =>
    cases h' with
    | bad => rfl
    | stop _ _ h5 => omega
    | fail => rfl
    | next _ _ _ h5 => have := hT _ _ _ _ h4 h5; cases this
  | next h1 h2 h3 h4 _ ih =>
    cases h' with
    | bad hb => rcases hb with hb | hb; (rw [h1] at hb; cases hb); omega
    | stop _ _ h5 => omega
    | fail _ _ _ h5 => have := hT _ _ _ _ h4 h5; cases this
    | next _ _ _ h5 h6 =>
      have := hT _ _ _ _ h4 h5
      cases this
      exact ih h6
/-- the vectors that go on with the cells of v from place k on -/
def TreeR (mu : List (List Q2)) (sq : List Q2) : Nat → List Int → Q2 → Option VS → Prop
  | 0, v, _, o => o = some [v]
  | i + 1, v, left, o => ∃ o1, Swp (fun n q o => TreeR mu sq i (v.set i n) q o) (restQ left (cenQ mu v i (v.length - (i + 1))) (nthQ sq i)) (-1) (roundQ (negQ (cenQ mu v i (v.length - (i + 1))))) [] o1 ∧
      (o1 = none → o = none) ∧ ∀ out, o1 = some out → Swp (fun n q o => TreeR mu sq i (v.set i n) q o) (restQ left (cenQ mu v i (v.length - (i + 1))) (nthQ sq i)) 1 (roundQ (negQ (cenQ mu v i (v.length - (i + 1)))) + 1) out o
theorem TreeR.det {mu : List (List Q2)} {sq : List Q2} : ∀ (k : Nat) (v : List Int) (left : Q2) (o o' : Option VS), TreeR mu sq k v left o → TreeR mu sq k v left o' → o = o'
  | 0, v, left, o, o', h, h' => by
    unfold TreeR at h h'
    rw [h, h']
  | i + 1, v, left, o, o', h, h' => by
    unfold TreeR at h h'
    obtain ⟨o1, a1, a2, a3⟩ := h
    obtain ⟨o2, b1, b2, b3⟩ := h'
    have hT : ∀ n q o o', TreeR mu sq i (v.set i n) q o → TreeR mu sq i (v.set i n) q o' → o = o' := fun n q o o' h h' => TreeR.det i _ _ _ _ h h'
    have e := Swp.det hT a1 b1
    subst e
    cases o1 with
    | none => rw [a2 rfl, b2 rfl]
    | some out => exact Swp.det hT (a3 out rfl) (b3 out rfl)
theorem roundQ_bd (q : Q2) : -400000000 ≤ roundQ q ∧ roundQ q ≤ 400000000 := by
  cases h : okQ q
  · unfold roundQ; rw [h]; simp
  · have hb := okQ_bd h
    unfold roundQ
    rw [h, if_pos rfl]
    constructor
    · exact (Int.le_ediv_iff_mul_le (by omega)).2 (by omega)
    · exact Int.lt_add_one_iff.1 (Int.ediv_lt_of_lt_mul (by omega) (by omega))
/-- no ratio at the center: nothing is found -/
theorem restQ_bad {left c s : Q2} (h : okQ c = false) (n : Int) : okQ (restQ left c s n) = false := by
  cases h2 : okQ (restQ left c s n)
  · rfl
  · rw [(restQ_parts h2).2.1] at h; cases h
/-! ### words for the walks -/
def P3 (T : Int → Q2 → Option VS → Prop) (rest : Int → Q2) (sg : Int) (F : Option VS → Prop) (n : Int) (L : VS) (bad : Bool) : Prop := (bad = false ∧ ∀ r, Swp T rest sg n L r → F r) ∨ (bad = true ∧ F none)
/-- what is known behind a direction -/
def PF (F : Option VS → Prop) (L : VS) (bad : Bool) : Prop := ∃ r, F r ∧ bad = r.isNone ∧ ∀ y, r = some y → y = L
section
variable {T : Int → Q2 → Option VS → Prop} {rest : Int → Q2} {sg n : Int} {F : Option VS → Prop} {L : VS}
theorem PF.none_ (h : F none) (L : VS) : PF F L true := ⟨none, h, rfl, fun y e => by cases e⟩
theorem P3.bad_ (h : P3 T rest sg F n L true) : PF F L true := by
  rcases h with ⟨h, _⟩ | ⟨_, h⟩
  · cases h
  · exact PF.none_ h L
theorem P3.good (h : P3 T rest sg F n L false) {r : Option VS} (hs : Swp T rest sg n L r) : F r := by
  rcases h with ⟨_, h⟩ | ⟨h, _⟩
  · exact h r hs
  · cases h
theorem P3.full (h : P3 T rest sg F n L false) (hb : okQ (rest n) = false ∨ 4000 < L.length) : PF F L true := PF.none_ (h.good (.bad hb)) L
theorem P3.stop (h : P3 T rest sg F n L false) (h1 : okQ (rest n) = true) (h2 : L.length ≤ 4000) (h3 : (rest n).1 < 0) : PF F L false := ⟨some L, h.good (.stop h1 h2 h3), rfl, fun y e => by cases e; rfl⟩
theorem P3.step (h : P3 T rest sg F n L false) (h1 : okQ (rest n) = true) (h2 : L.length ≤ 4000) (h3 : 0 ≤ (rest n).1) {M : VS} {bad : Bool} (hT : PF (T n (rest n)) M bad) : P3 T rest sg F (n + sg) (L ++ M) bad := by
  obtain ⟨o, ht, hb, hM⟩ := hT
  cases o with
  | none => subst hb; exact .inr ⟨rfl, h.good (.fail h1 h2 h3 ht)⟩
  | some y =>
    obtain rfl := hM y rfl
    subst hb
    exact .inl ⟨rfl, fun r hr => h.good (.next h1 h2 h3 ht hr)⟩
end
/-- ahead of direction d -/
def P2 (mu : List (List Q2)) (sq : List Q2) (i : Nat) (x : List Int) (left c : Q2) (d : Nat) (L : VS) (bad : Bool) : Prop :=
  (d = 0 ∧ L = [] ∧ bad = false) ∨ (d = 1 ∧ PF (Swp (fun n q o => TreeR mu sq i (x.set i n) q o) (restQ left c (nthQ sq i)) (-1) (roundQ (negQ c)) []) L bad) ∨ (d = 2 ∧ PF (TreeR mu sq (i + 1) x left) L bad)
/-- one direction out of what is known ahead of it -/
theorem P2.dir {mu : List (List Q2)} {sq : List Q2} {i : Nat} {x : List Int} {left c : Q2} {d : Nat} {L : VS} {bad : Bool} (h : P2 mu sq i x left c d L bad) (hd : d < 2) (hc : c = cenQ mu x i (x.length - (i + 1))) :
    ∃ (sg n : Int) (F : Option VS → Prop), sg = (if d = 0 then -1 else 1) ∧ n = roundQ (negQ c) + d ∧ P3 (fun n q o => TreeR mu sq i (x.set i n) q o) (restQ left c (nthQ sq i)) sg F n L bad ∧ ∀ L' bad', PF F L' bad' → P2 mu sq i x left c (d + 1) L' bad' := by
  rcases h with ⟨rfl, rfl, rfl⟩ | ⟨rfl, h⟩ | ⟨rfl, _⟩
  · exact ⟨-1, _, Swp (fun n q o => TreeR mu sq i (x.set i n) q o) (restQ left c (nthQ sq i)) (-1) (roundQ (negQ c)) [], rfl, by simp, .inl ⟨rfl, fun r hr => hr⟩, fun L' bad' h => .inr (.inl ⟨rfl, h⟩)⟩
  · refine ⟨1, roundQ (negQ c) + 1, TreeR mu sq (i + 1) x left, rfl, by simp, ?_, fun L' bad' h => .inr (.inr ⟨rfl, h⟩)⟩
    obtain ⟨o1, h1, hb, hL⟩ := h
    cases o1 with
    | none =>
      subst hb
      refine .inr ⟨rfl, ?_⟩
      unfold TreeR
      rw [← hc]
      exact ⟨none, h1, fun _ => rfl, fun out e => by cases e⟩
    | some y =>
      obtain rfl := hL y rfl
      subst hb
      refine .inl ⟨rfl, fun r hr => ?_⟩
      unfold TreeR
      rw [← hc]
      exact ⟨some y, h1, (fun e => by cases e), fun out e => by cases e; exact hr⟩
  · omega
theorem P2.done {mu : List (List Q2)} {sq : List Q2} {i : Nat} {x : List Int} {left c : Q2} {L : VS} {bad : Bool} (h : P2 mu sq i x left c 2 L bad) : PF (TreeR mu sq (i + 1) x left) L bad := by
  rcases h with ⟨h, _⟩ | ⟨h, _⟩ | ⟨_, h⟩
  · cases h
  · cases h
  · exact h
/-- no ratio at the center -/
theorem tree_bad {mu : List (List Q2)} {sq : List Q2} {i : Nat} {x : List Int} {left : Q2} (h : okQ (cenQ mu x i (x.length - (i + 1))) = false) (L : VS) : PF (TreeR mu sq (i + 1) x left) L true := by
  refine PF.none_ ?_ L
  unfold TreeR
  exact ⟨none, .bad (.inl (restQ_bad h _)), fun _ => rfl, fun out e => by cases e⟩
theorem tree_zero {mu : List (List Q2)} {sq : List Q2} {x : List Int} {left : Q2} : PF (TreeR mu sq 0 x left) [x] false := ⟨some [x], by unfold TreeR; rfl, rfl, fun y e => by cases e; rfl⟩
end Go.Proofs.YtbfkpfdkndnhkaaGreat

/- Words on memory for the search of short vectors cell by cell; append of owned rows. -/
namespace Go.Proofs.YtbfkpfdkndnhkaaGreat
set_option linter.unusedSimpArgs false
set_option linter.unusedVariables false
open Go.RowKit

section
variable {S : Nat → Prop} {w w' : World}
theorem Mv.cell (m : Mv S w w') {p : Addr} (hp : p.block < w.heap.size) (hS : ¬ S p.block) : w'.cell? p = w.cell? p := World.cell?_of_block (m.block _ hp hS)
theorem Mv.frozen (m : Mv S w w') {p : Addr} (hp : p.block < w.heap.size) (hS : ¬ S p.block) : w'.frozen? p = w.frozen? p := World.frozen?_of_block (m.block _ hp hS)
theorem QBox.mv {b : Nat} {q : Q2} (h : QBox w b q) (m : Mv S w w') (hb : ¬ S b) : QBox w' b q :=
  ⟨Nat.lt_of_lt_of_le h.lt m.size, (m.cell (p := ⟨b, 0, none⟩) h.lt hb).trans h.c0, (m.cell (p := ⟨b, 1, none⟩) h.lt hb).trans h.c1, fun o => (m.frozen (p := ⟨b, o, none⟩) h.lt hb).trans (h.fz o)⟩
theorem own_mv {t : TypeId} {n k B : Nat} {v : Value} {l : List Value} (h : w.ownsRow B t k v n l) (g : Mv S w w') (h1 : ∀ g, v.ownBlock = some g → ¬ S g) : w'.ownsRow B t k v n l := by
  refine ⟨h.1, ?_⟩
  rcases h.2 with hz | ⟨b, cap, cur, hv, hb, hg, k⟩
  · exact .inl hz
  · have hlt : b < w.heap.size := (Array.getElem?_eq_some_iff.1 hg).1
    exact .inr ⟨b, cap, cur, hv, hb, (g.block b hlt (h1 b (by rw [hv]; simp [Value.ownBlock]))).trans hg, k⟩
theorem RowsO.mv {B : Nat} {v : Value} {vs : List Value} {L : List (List Int)} (h : RowsO w B v vs L) (m : Mv S w w') (hS : ∀ g, S g → g < B) : RowsO w' B v vs L := by
  refine ⟨h.len, own_mv h.own m fun g hg hs => ?_, fun i u x h1 h2 => (h.row i u x h1 h2).mv m fun g hg hs => ?_, h.far, h.nod⟩
  · have := (World.ownsRow.lt h.own g hg).1; have := hS g hs; omega
  · have := (h.lt h1 hg).1; have := hS g hs; omega
end
/-- a variable of the search: account, number of cells, cells, whether it failed -/
structure TBox (w : World) (b : Nat) (u v : Value) (R : Nat) (x : Value) (bad : Bool) : Prop where
  lt : b < w.heap.size
  c0 : w.cell? ⟨b, 0, none⟩ = some u
  c1 : w.cell? ⟨b, 1, none⟩ = some v
  c2 : w.cell? ⟨b, 2, none⟩ = some (.int .i64 R)
  c3 : w.cell? ⟨b, 3, none⟩ = some x
  c4 : w.cell? ⟨b, 4, none⟩ = some (.bool bad)
  fz : ∀ o, w.frozen? ⟨b, o, none⟩ = false
section
variable {w w' : World} {b R : Nat} {u v x : Value} {bad : Bool}
theorem TBox.mv {S : Nat → Prop} (h : TBox w b u v R x bad) (m : Mv S w w') (hb : ¬ S b) : TBox w' b u v R x bad :=
  ⟨Nat.lt_of_lt_of_le h.lt m.size, (m.cell (p := ⟨b, 0, none⟩) h.lt hb).trans h.c0, (m.cell (p := ⟨b, 1, none⟩) h.lt hb).trans h.c1, (m.cell (p := ⟨b, 2, none⟩) h.lt hb).trans h.c2, (m.cell (p := ⟨b, 3, none⟩) h.lt hb).trans h.c3, (m.cell (p := ⟨b, 4, none⟩) h.lt hb).trans h.c4, fun o => (m.frozen (p := ⟨b, o, none⟩) h.lt hb).trans (h.fz o)⟩
theorem Mv.of_grows {S : Nat → Prop} (g : Grows w w') : Mv S w w' := (Mv.refl w).right g
theorem TBox.grows (h : TBox w b u v R x bad) (g : Grows w w') : TBox w' b u v R x bad := h.mv (S := fun _ => False) (.of_grows g) (fun h => h)
theorem TBox.far (h : TBox w b u v R x bad) {p : Addr} (hp : p.block ≠ b) (z : Value) : TBox (w.setCell p z) b u v R x bad :=
  h.mv (S := fun g => g = p.block) (Mv.put (S := fun g => g = p.block) (Mv.refl w) (p := p) (.inr rfl) z) (fun e => hp e.symm)
theorem TBox.put4 (h : TBox w b u v R x bad) (z : Bool) : TBox (w.setCell ⟨b, 4, none⟩ (.bool z)) b u v R x z := by
  have h0 := h.c0; have h1 := h.c1; have h2 := h.c2; have h3 := h.c3; have h4 := h.c4; have hf := h.fz; have hl := h.lt
  exact ⟨by simp; exact hl, by simp [go_sem, h0], by simp [go_sem, h1], by simp [go_sem, h2], by simp [go_sem, h3], by simp [go_sem, h4], fun o => by simp [go_sem, hf]⟩
end
theorem RowsO.appn {w w' : World} {B B2 : Nat} {v v2 v' : Value} {vs us : List Value} {L M : List (List Int)} (h : RowsO w B v vs L) (k : RowsO w B2 v2 us M) (hB : B ≤ B2)
    (hv : ∀ g, v.ownBlock = some g → g < B2) (hvs : ∀ (i : Nat) (u : Value), vs[i]? = some u → ∀ g, u.ownBlock = some g → g < B2)
    (h2 : OwnV 24 w' B v' (vs ++ us)) (h3 : w.grownBy w' v.ownBlock) (h4 : v'.ownBlock = v.ownBlock ∨ ∃ g, v'.ownBlock = some g ∧ w.heap.size ≤ g) : RowsO w' B v' (vs ++ us) (L ++ M) := by
  have hl := h.len
  have hl2 := k.len
  have key : ∀ (i : Nat) (u' : Value), (vs ++ us)[i]? = some u' → (vs[i]? = some u' ∧ i < vs.length) ∨ (us[i - vs.length]? = some u' ∧ vs.length ≤ i) := fun i u' hi => by
    by_cases e : i < vs.length
    · rw [List.getElem?_append_left e] at hi; exact .inl ⟨hi, e⟩
    · rw [List.getElem?_append_right (by omega)] at hi; exact .inr ⟨hi, by omega⟩
  have kept : ∀ {o : Value} {x : List Int}, Own w B o x → (∀ g, o.ownBlock = some g → v.ownBlock ≠ some g) → Own w' B o x := fun {o} {x} ho hne => by
    refine World.ownsRow.kept ho h3 ?_
    cases e : o.ownBlock with
    | none => exact .inl rfl
    | some g => exact .inr fun e2 => hne g e e2.symm
  have far2 : ∀ (i : Nat) (u : Value), us[i]? = some u → ∀ g, u.ownBlock = some g → v.ownBlock ≠ some g := fun i u hi g hg e => by
    have := (k.lt hi hg).1
    have := hv g e
    omega
  refine ⟨by simp [hl, hl2], h2, fun i u' x h5 h6 => ?_, fun i u' h5 g hg e => ?_, fun i j a b ha hb hne g hg => ?_⟩
  · rcases key i u' h5 with ⟨h7, h8⟩ | ⟨h7, h8⟩
    · rw [List.getElem?_append_left (by omega)] at h6
      exact kept (h.row i u' x h7 h6) fun g hg => h.far i u' h7 g hg
    · rw [List.getElem?_append_right (by omega), ← hl] at h6
      exact kept ((k.row _ u' x h7 h6).less hB) fun g hg => far2 _ u' h7 g hg
  · have hlt : g < w.heap.size := by
      rcases key i u' h5 with ⟨h7, _⟩ | ⟨h7, _⟩
      · exact (h.lt h7 hg).2
      · exact (k.lt h7 hg).2
    rcases h4 with h4 | ⟨g', h4, h5'⟩
    · rw [h4] at e
      rcases key i u' h5 with ⟨h7, _⟩ | ⟨h7, _⟩
      · exact h.far i u' h7 g hg e
      · exact far2 _ u' h7 g hg e
    · rw [h4] at e
      cases e
      omega
  · rcases key i a ha with ⟨h7, h8⟩ | ⟨h7, h8⟩ <;> rcases key j b hb with ⟨h9, h10⟩ | ⟨h9, h10⟩
    · exact h.nod i j a b h7 h9 hne g hg
    · intro e
      have := hvs i a h7 g hg
      have := (k.lt h9 e).1
      omega
    · intro e
      have := hvs j b h9 g e
      have := (k.lt h7 hg).1
      omega
    · exact k.nod _ _ a b h7 h9 (by omega) g hg
/-- out = append(out, more...), more's rows made later than out's -/
theorem wpList_appOn {ops : Array Oper} {rest : List Oper} {o : Oper} {a : Act} {Q : Exit → Act → World → Prop} (hgd : o.guard = none) (s x : Operand)
    (ho : o.op = .call { callee := .builtin .append, args := #[s, x], argTypes := #[29, 29] }) (w : World)
    (B B2 : Nat) (v : Value) (vs us : List Value) (L M : List (List Int)) (A : Option Addr) (c : Nat) (hs : a.eval s = v) (hx : a.eval x = .slice A M.length c) (hown : RowsO w B v vs L) (k : RowsO w B2 (.slice A M.length c) us M) (hBB : B ≤ B2)
    (hv : ∀ g, v.ownBlock = some g → g < B2) (hvs : ∀ (i : Nat) (u : Value), vs[i]? = some u → ∀ g, u.ownBlock = some g → g < B2)
    (hl : L.length + M.length ≤ 1099511627776) (hB : B ≤ w.heap.size)
    (h : ∀ v' w', RowsO w' B v' (vs ++ us) (L ++ M) → w.grownBy w' v.ownBlock → (v'.ownBlock = v.ownBlock ∨ ∃ g, v'.ownBlock = some g ∧ w.heap.size ≤ g) → wpList Tryz.prog ops Q rest (a.put o.dst v') w') :
    wpList Tryz.prog ops Q (o :: rest) a w := by
  have hul := k.len
  have hur : RdV w A us := by have := OwnV.rd (n := M.length) (c := c) k.own; exact this
  have hu1 : ∀ u ∈ us, u.oneCell' = true := fun u hu => by
    obtain ⟨i, hi⟩ := List.mem_iff_getElem?.1 hu
    obtain ⟨x, _, hx⟩ := k.any hi
    obtain ⟨A, c, e, _, _⟩ := hx.val
    rw [e]; rfl
  obtain ⟨v', w', hrun, h2, h3, h4⟩ := run_appVn 24 29 und_ii info_is w o.type B v vs hown.own A us c hur hu1 (by rw [hown.len, hul]; omega) hB
  rw [hul] at hrun
  refine wpList_plain hgd fun _ hK => ?_
  unfold Oper.wp execOp
  simp only [ho, resolve, invoke, builtin, Sem.run_bind, Sem.run_pure, Result.andThen_ok, List.map_toArray, List.map_cons, List.map_nil, hs, hx, hrun]
  exact hK _ _ (h v' w' (hown.appn k hBB hv hvs h2 h3 h4) h3 h4)
end Go.Proofs.YtbfkpfdkndnhkaaGreat

/- Plain: what the search cell by cell finds has values up to the bound; its answer as a function. -/
namespace Go.Proofs.YtbfkpfdkndnhkaaGreat
set_option linter.unusedSimpArgs false
set_option linter.unusedVariables false
open Go.RowKit

theorem Swp.mem {T : Int → Q2 → Option VS → Prop} {rest : Int → Q2} {st n : Int} {out : VS} {o : Option VS} (h : Swp T rest st n out o) {r : VS} (ho : o = some r) {v : List Int} (hv : v ∈ r) : v ∈ out ∨ ∃ m more, okQ (rest m) = true ∧ 0 ≤ (rest m).1 ∧ T m (rest m) (some more) ∧ v ∈ more := by
  induction h with
  | bad => cases ho
  | stop => cases ho; exact .inl hv
  | fail => cases ho
  | next h1 h2 h3 h4 _ ih =>
    rcases ih ho with h | h
    · rcases List.mem_append.1 h with h | h
      · exact .inl h
      · exact .inr ⟨_, _, h1, h3, h4, h⟩
    · exact .inr h
/-- a vector found at a level comes from one of its cell's values -/
theorem TreeR.mem {mu : List (List Q2)} {sq : List Q2} {i : Nat} {x : List Int} {left : Q2} {L : VS} (h : TreeR mu sq (i + 1) x left (some L)) {v : List Int} (hv : v ∈ L) : ∃ m more, okQ (restQ left (cenQ mu x i (x.length - (i + 1))) (nthQ sq i) m) = true ∧ 0 ≤ (restQ left (cenQ mu x i (x.length - (i + 1))) (nthQ sq i) m).1 ∧ TreeR mu sq i (x.set i m) (restQ left (cenQ mu x i (x.length - (i + 1))) (nthQ sq i) m) (some more) ∧ v ∈ more := by
  unfold TreeR at h
  obtain ⟨o1, h1, h2, h3⟩ := h
  cases o1 with
  | none => cases h2 rfl
  | some out =>
    rcases (h3 out rfl).mem rfl hv with h | h
    · rcases h1.mem rfl h with h | h
      · cases h
      · exact h
    · exact h
theorem TreeR.cells {mu : List (List Q2)} {sq : List Q2} : ∀ {k : Nat} {x : List Int} {left : Q2} {L : VS}, TreeR mu sq k x left (some L) → ∀ {v : List Int}, v ∈ L → v.length = x.length ∧ ∀ j, k ≤ j → nth v j = nth x j
  | 0, x, left, L, h, v, hv => by
    unfold TreeR at h
    cases h
    rw [List.mem_singleton] at hv
    subst hv
    exact ⟨rfl, fun _ _ => rfl⟩
  | i + 1, x, left, L, h, v, hv => by
    obtain ⟨m, more, _, _, h3, h4⟩ := h.mem hv
    obtain ⟨h5, h6⟩ := TreeR.cells h3 h4
    refine ⟨by rw [h5, List.length_set], fun j hj => ?_⟩
    rw [h6 j (by omega)]
    by_cases e : i < x.length
    · rw [nth_set _ _ _ _ e, if_neg (by omega)]
    · rw [List.set_eq_of_length_le (by omega)]
theorem TreeR.cell_at {mu : List (List Q2)} {sq : List Q2} {i : Nat} {x : List Int} {left : Q2} {L : VS} {m : Int} (h : TreeR mu sq i (x.set i m) left (some L)) (hi : i < x.length) {v : List Int} (hv : v ∈ L) : nth v i = m := by
  rw [(h.cells hv).2 i (Nat.le_refl _), nth_set _ _ _ _ hi, if_pos rfl]
theorem cenQ_val {mu : List (List Q2)} {v : List Int} {i t : Nat} (h : okQ (cenQ mu v i t) = true) : rv (cenQ mu v i t) = sumR t fun u => (nth v (i + 1 + u) : Rat) * rv (nthQ (mu.getD (i + 1 + u) []) i) := by
  induction t with
  | zero => show rv (0, 1) = 0; rw [rv_whole]; rfl
  | succ t ih =>
    rw [cenQ] at h ⊢
    obtain ⟨h1, h2, h3⟩ := addQ_val h
    obtain ⟨_, _, h6⟩ := mulQ_val h2
    have hw : rv (wholeQ (nth v (i + 1 + t))) = nth v (i + 1 + t) := rv_whole _
    rw [h3, h6, hw, ih h1, sumR]
/-- what is left of the bound is never below 0 -/
theorem tree_le {R : Nat} {l : List Int} {s : List (List Q2) × List Q2} (V : AccV R l R s) : ∀ {k : Nat} {x : List Int} {left : Q2} {L : VS}, k ≤ R → x.length = R → okQ left = true → 0 ≤ left.1 → TreeR s.1 s.2 k x left (some L) → ∀ {v : List Int}, v ∈ L → (sumR k fun j => sqV s j * (ordV R s (nth v) j * ordV R s (nth v) j)) ≤ rv left
  | 0, x, left, L, _, _, hok, hp, h, v, hv => by
    have := rv_nonneg hok hp
    exact this
  | i + 1, x, left, L, hk, hx, hok, hp, h, v, hv => by
    obtain ⟨m, more, h1, h2, h3, h4⟩ := h.mem hv
    have ih := tree_le V (by omega) (by rw [List.length_set]; exact hx) h1 h2 h3 h4
    obtain ⟨_, hc, _, _, _, hr⟩ := restQ_parts h1
    have e1 : ordV R s (nth v) i = (m : Rat) + rv (cenQ s.1 x i (x.length - (i + 1))) := by
      rw [ordV_cell (by omega), cenQ_val hc, h3.cell_at (by omega) h4, hx]
      congr 1
      refine sumR_congr fun t ht => ?_
      rw [(h.cells hv).2 _ (by omega)]
    have e2 : rv (nthQ s.2 i) = sqV s i := rfl
    rw [hr, e2, ← e1] at ih
    rw [sumR]
    grind
theorem def_symQ {R : Nat} {l : List Int} (hd : isDef R R l = true) : ∀ i j, i < R → j < R → nth l (i * R + j) = nth l (j * R + i) := by
  obtain ⟨_, R', e1, _, _, hl, _⟩ := isSq_nat (isDef_sq hd)
  obtain rfl : R' = R := by omega
  have hg : isGram R' R' l = true := by
    unfold isDef at hd
    simp only [Bool.and_eq_true] at hd
    exact hd.2
  have hs := (symB_iff hl).1 (by unfold isGram at hg; simp only [Bool.and_eq_true, Int.toNat_natCast] at hg; exact hg.2)
  intro i j hi hj
  by_cases e : j < i
  · exact hs i j hi e
  · by_cases e2 : i = j
    · rw [e2]
    · exact (hs j i hj (by omega)).symm
/-- the values of what the search finds are up to the bound -/
theorem tree_bound {R : Nat} {l : List Int} {s : List (List Q2) × List Q2} {b : Int} {x : List Int} {L : VS} (hd : isDef R R l = true) (ha : accF R l R = some s) (hb : 0 ≤ b) (hb2 : b ≤ 10000) (hx : x.length = R) (h : TreeR s.1 s.2 R x (b, 1) (some L)) {v : List Int} (hv : v ∈ L) (ho : vOk R R l v = true) : vVal R R l v ≤ b := by
  have V := accF_val ha
  have hok : okQ (b, 1) = true := by
    unfold okQ
    rw [isRat_iff]
    refine ⟨by simp only; omega, by simp only; omega, by simp only; omega, by simp only; omega, ?_⟩
    show gcdI b 1 = 1
    unfold gcdI; simp
  have h1 := tree_le V (Nat.le_refl R) hx hok hb h hv
  rw [← V.squares (def_symQ hd) (nth v), rv_whole] at h1
  rw [vVal_qf ho]
  exact Rat.intCast_le_intCast.1 h1
open Classical in
/-- the answer of the search, as a function -/
noncomputable def treeO (mu : List (List Q2)) (sq : List Q2) (k : Nat) (v : List Int) (left : Q2) : Option VS := if h : ∃ o, TreeR mu sq k v left o then h.choose else none
theorem treeO_eq {mu : List (List Q2)} {sq : List Q2} {k : Nat} {v : List Int} {left : Q2} {o : Option VS} (h : TreeR mu sq k v left o) : treeO mu sq k v left = o := by
  unfold treeO
  have h2 : ∃ o, TreeR mu sq k v left o := ⟨o, h⟩
  rw [dif_pos h2]
  exact TreeR.det _ _ _ _ _ h2.choose_spec h
theorem PF.tree {mu : List (List Q2)} {sq : List Q2} {k : Nat} {v : List Int} {left : Q2} {L : VS} {bad : Bool} (h : PF (TreeR mu sq k v left) L bad) : treeO mu sq k v left = if bad then none else some L := by
  obtain ⟨o, h1, h2, h3⟩ := h
  rw [treeO_eq h1]
  cases o with
  | none => subst h2; rfl
  | some y => obtain rfl := h3 y rfl; subst h2; rfl
/-- the short vectors by the search -/
noncomputable def sbtO (g : MX) (b : Int) : Option (List KV) :=
  if isDef g.r g.c g.l && inB b 0 10000 then (accF g.r.toNat g.l g.r.toNat).bind fun s => (treeO s.1 s.2 g.r.toNat (List.replicate g.r.toNat 0) (b, 1)).map fun rows => putsK [] (shL g b rows) else none
theorem sbtO_no1 {g : MX} {b : Int} (h : isDef g.r g.c g.l = false) : sbtO g b = none := by unfold sbtO; rw [h]; rfl
theorem sbtO_no2 {g : MX} {b : Int} (h : inB b 0 10000 = false) : sbtO g b = none := by unfold sbtO; rw [h]; simp
theorem sbtO_yes {R : Nat} {l : List Int} {b : Int} (h : isDef R R l = true) (hb : inB b 0 10000 = true) : sbtO ⟨R, R, l⟩ b = (accF R l R).bind fun s => (treeO s.1 s.2 R (List.replicate R 0) (b, 1)).map fun rows => putsK [] (shL ⟨R, R, l⟩ b rows) := by
  unfold sbtO; simp only [h, hb, Bool.and_self, if_true, Int.toNat_natCast]
theorem sbtO_rows {g : MX} {b : Int} {s : List KV} (h : sbtO g b = some s) : ∃ (R : Nat) (L : VS), R ≤ 6 ∧ s = putsK [] (shL g b L) ∧ L.length ≤ L.length ∧ ∀ v ∈ L, v.length = R := by
  unfold sbtO at h
  split at h
  · rename_i hh
    simp only [Bool.and_eq_true] at hh
    obtain ⟨_, R, e1, _, hR, _⟩ := isSq_nat (isDef_sq hh.1)
    obtain ⟨a, _, h2⟩ := Option.bind_eq_some_iff.1 h
    obtain ⟨L, h3, rfl⟩ := Option.map_eq_some_iff.1 h2
    have ht : TreeR a.1 a.2 g.r.toNat (List.replicate g.r.toNat 0) (b, 1) (some L) := by
      unfold treeO at h3
      split at h3
      · rename_i hx
        have := hx.choose_spec
        rwa [h3] at this
      · cases h3
    refine ⟨R, L, hR, rfl, Nat.le_refl _, fun v hv => ?_⟩
    have := (ht.cells hv).1
    rw [List.length_replicate] at this
    omega
  · cases h
end Go.Proofs.YtbfkpfdkndnhkaaGreat
