/- Contracts and lemmas, put together. -/
import Derived.Test.YtfilbjbogggaoaaGreatPkCD
import Derived.Test.YtfilbjbogggaoaaGreatPkD
import Derived.Test.YtfilbjbogggaoaaGreatPkF
import Derived.Test.YtfilbjbogggaoaaGreatPkRAD
import Derived.Test.YtfilbjbogggaoaaGreatPkTD
import Derived.Test.YtfilbjbogggaoaaGreatPkXD
/- Plain: ratios as rational numbers; sums of rational numbers. -/
namespace Go.Proofs.YtfilbjbogggaoaaGreat
set_option linter.unusedSimpArgs false
set_option linter.unusedVariables false
open Go.RowKit

/-- a ratio's value -/
def rv (q : Q2) : Rat := (q.1 : Rat) / (q.2 : Rat)
theorem cast_pos {a : Int} (h : 0 < a) : (0 : Rat) < a := by
  have := Rat.intCast_lt_intCast.2 h
  simpa using this
theorem cast_ne {a : Int} (h : a ≠ 0) : (a : Rat) ≠ 0 := by
  rcases Int.lt_or_gt_of_ne h with e | e
  · have := cast_pos (a := -a) (by omega)
    rw [Rat.intCast_neg] at this
    grind
  · have := cast_pos e
    grind
theorem okQ_den {q : Q2} (h : okQ q = true) : (0 : Rat) < q.2 := cast_pos (by have := okQ_bd h; omega)
theorem okQ_no : okQ (0, 0) = false := isRat_zero
theorem keepQ_ok {a b : Int} (h : okQ (keepQ a b) = true) : keepQ a b = (a, b) := by
  unfold keepQ at *
  cases hr : isRat a b
  · rw [hr] at h; simp only [Bool.false_eq_true, if_false] at h; rw [okQ_no] at h; cases h
  · rfl
theorem div_same {n d g : Int} (hg : 0 < g) (hn : g ∣ n) (hd : g ∣ d) (h : d ≠ 0) : ((n.tdiv g : Int) : Rat) / ((d.tdiv g : Int) : Rat) = (n : Rat) / d := by
  obtain ⟨a, rfl⟩ := hn
  obtain ⟨b, rfl⟩ := hd
  rw [Int.mul_tdiv_cancel_left _ (by omega), Int.mul_tdiv_cancel_left _ (by omega)]
  have hb : b ≠ 0 := fun e => h (by rw [e]; simp)
  have h1 := cast_ne hb
  have h2 := cast_ne (a := g) (by omega)
  rw [Rat.intCast_mul, Rat.intCast_mul]
  grind
theorem gcdI_dvd (n d : Int) : gcdI n d ∣ n ∧ gcdI n d ∣ d := ⟨Int.gcd_dvd_left _ _, Int.gcd_dvd_right _ _⟩
theorem mkQ_val {n d : Int} (hd : d ≠ 0) (h : okQ (mkQ n d) = true) : rv (mkQ n d) = (n : Rat) / d := by
  have hg := gcdI_pos (a := n) hd
  obtain ⟨g1, g2⟩ := gcdI_dvd n d
  rcases Int.lt_or_gt_of_ne hd with e | e
  · rw [mkQ_neg e] at h ⊢
    rw [keepQ_ok h]
    show (((-n).tdiv (gcdI n d) : Int) : Rat) / _ = _
    rw [div_same hg (Int.dvd_neg.2 g1) (Int.dvd_neg.2 g2) (by omega), Rat.intCast_neg, Rat.intCast_neg]
    have := cast_ne hd
    grind
  · rw [mkQ_pos e] at h ⊢
    rw [keepQ_ok h]
    exact div_same hg g1 g2 (by omega)
theorem addQ_val {a b : Q2} (h : okQ (addQ a b) = true) : okQ a = true ∧ okQ b = true ∧ rv (addQ a b) = rv a + rv b := by
  unfold addQ at *
  split at h
  · rename_i hh
    simp only [Bool.and_eq_true] at hh
    have h1 := okQ_bd hh.1
    have h2 := okQ_bd hh.2
    have d1 := okQ_den hh.1
    have d2 := okQ_den hh.2
    refine ⟨hh.1, hh.2, ?_⟩
    rw [if_pos (by simp [hh.1, hh.2]), mkQ_val (Int.mul_ne_zero (by omega) (by omega)) h]
    unfold rv
    rw [Rat.intCast_add, Rat.intCast_mul, Rat.intCast_mul, Rat.intCast_mul]
    grind
  · rw [okQ_no] at h; cases h
theorem mulQ_val {a b : Q2} (h : okQ (mulQ a b) = true) : okQ a = true ∧ okQ b = true ∧ rv (mulQ a b) = rv a * rv b := by
  unfold mulQ at *
  split at h
  · rename_i hh
    simp only [Bool.and_eq_true] at hh
    have h1 := okQ_bd hh.1
    have h2 := okQ_bd hh.2
    have d1 := okQ_den hh.1
    have d2 := okQ_den hh.2
    refine ⟨hh.1, hh.2, ?_⟩
    rw [if_pos (by simp [hh.1, hh.2]), mkQ_val (Int.mul_ne_zero (by omega) (by omega)) h]
    unfold rv
    rw [Rat.intCast_mul, Rat.intCast_mul]
    grind
  · rw [okQ_no] at h; cases h
theorem negQ_val {a : Q2} (h : okQ (negQ a) = true) : okQ a = true ∧ rv (negQ a) = - rv a := by
  unfold negQ at *
  split at h
  · rename_i hh
    refine ⟨hh, ?_⟩
    have d1 := okQ_den hh
    rw [if_pos hh]
    unfold rv
    simp only [Rat.intCast_neg]
    grind
  · rw [okQ_no] at h; cases h
theorem negQ_ok {a : Q2} (h : okQ a = true) : okQ (negQ a) = true := by
  unfold negQ; rw [if_pos h]
  have h2 := h
  unfold okQ at *
  rw [isRat_iff] at *
  simp only
  refine ⟨h2.1, h2.2.1, by omega, by omega, ?_⟩
  have := h2.2.2.2.2
  unfold gcdI at *
  rwa [Int.neg_gcd]
theorem divQ_val {a b : Q2} (h : okQ (divQ a b) = true) : okQ a = true ∧ okQ b = true ∧ b.1 ≠ 0 ∧ rv (divQ a b) = rv a / rv b := by
  unfold divQ at *
  split at h
  · rename_i hh
    simp only [Bool.and_eq_true, bne_iff_ne] at hh
    obtain ⟨⟨o1, o2⟩, o3⟩ := hh
    have h1 := okQ_bd o1
    have h2 := okQ_bd o2
    have d1 := okQ_den o1
    have d2 := okQ_den o2
    have d3 := cast_ne o3
    refine ⟨o1, o2, o3, ?_⟩
    rw [if_pos (by simp [o1, o2, o3]), mkQ_val (Int.mul_ne_zero (by omega) o3) h]
    unfold rv
    rw [Rat.intCast_mul, Rat.intCast_mul]
    grind
  · rw [okQ_no] at h; cases h
theorem rv_pos {q : Q2} (h : okQ q = true) (hp : 0 < q.1) : 0 < rv q := by
  unfold rv
  rw [Rat.div_def]
  exact Rat.mul_pos (cast_pos hp) (Rat.inv_pos.2 (okQ_den h))
theorem rv_zero {q : Q2} (hp : q.1 = 0) : rv q = 0 := by
  unfold rv; rw [hp]; grind
theorem rv_neg {q : Q2} (h : okQ q = true) (hp : q.1 < 0) : rv q < 0 := by
  have := rv_pos (q := negQ q) (negQ_ok h) (by unfold negQ; rw [if_pos h]; simp only; omega)
  rw [(negQ_val (negQ_ok h)).2] at this
  grind
theorem rv_nonneg {q : Q2} (h : okQ q = true) (hp : 0 ≤ q.1) : 0 ≤ rv q := by
  rcases Int.lt_or_eq_of_le hp with e | e
  · have := rv_pos h e; grind
  · rw [rv_zero e.symm]; exact Rat.le_refl
theorem rv_sign {q : Q2} (h : okQ q = true) : (0 ≤ rv q ↔ 0 ≤ q.1) ∧ (0 < rv q ↔ 0 < q.1) := by
  rcases Int.lt_or_le q.1 0 with e | e
  · have := rv_neg h e
    exact ⟨⟨fun h => by grind, fun h => by omega⟩, ⟨fun h => by grind, fun h => by omega⟩⟩
  · have h2 := rv_nonneg h e
    refine ⟨⟨fun _ => e, fun _ => h2⟩, ⟨fun h3 => ?_, fun h3 => rv_pos h h3⟩⟩
    rcases Int.lt_or_eq_of_le e with e2 | e2
    · exact e2
    · rw [rv_zero e2.symm] at h3; grind
theorem rv_whole (n : Int) : rv (n, 1) = n := by unfold rv; simp only; grind

/-! ### sums -/
def sumR : Nat → (Nat → Rat) → Rat
  | 0, _ => 0
  | n + 1, f => sumR n f + f n
theorem sumR_congr {n : Nat} {f g : Nat → Rat} (h : ∀ i, i < n → f i = g i) : sumR n f = sumR n g := by
  induction n with
  | zero => rfl
  | succ n ih => rw [sumR, sumR, ih (fun i hi => h i (by omega)), h n (by omega)]
theorem sumR_zero {n : Nat} {f : Nat → Rat} (h : ∀ i, i < n → f i = 0) : sumR n f = 0 := by
  induction n with
  | zero => rfl
  | succ n ih => rw [sumR, ih (fun i hi => h i (by omega)), h n (by omega)]; grind
theorem sumR_add (n : Nat) (f g : Nat → Rat) : sumR n (fun i => f i + g i) = sumR n f + sumR n g := by
  induction n with
  | zero => simp only [sumR]; grind
  | succ n ih => simp only [sumR, ih]; grind
theorem sumR_mul (n : Nat) (c : Rat) (f : Nat → Rat) : sumR n (fun i => c * f i) = c * sumR n f := by
  induction n with
  | zero => simp only [sumR]; grind
  | succ n ih => simp only [sumR, ih]; grind
theorem sumR_mulr (n : Nat) (c : Rat) (f : Nat → Rat) : sumR n (fun i => f i * c) = sumR n f * c := by
  induction n with
  | zero => simp only [sumR]; grind
  | succ n ih => simp only [sumR, ih]; grind
theorem sumR_swap (n m : Nat) (f : Nat → Nat → Rat) : sumR n (fun i => sumR m fun j => f i j) = sumR m (fun j => sumR n fun i => f i j) := by
  induction n with
  | zero => simp only [sumR]; exact (sumR_zero fun _ _ => rfl).symm
  | succ n ih => simp only [sumR, ih]; rw [← sumR_add]
theorem sumR_cut {n k : Nat} {f : Nat → Rat} (hk : k ≤ n) (h : ∀ i, k ≤ i → i < n → f i = 0) : sumR n f = sumR k f := by
  induction n with
  | zero => obtain rfl : k = 0 := by omega
            rfl
  | succ n ih =>
    by_cases e : k = n + 1
    · rw [e]
    · rw [sumR, ih (by omega) (fun i h1 h2 => h i h1 (by omega)), h n (by omega) (by omega)]; grind
theorem sumR_split (n m : Nat) (f : Nat → Rat) : sumR (n + m) f = sumR n f + sumR m (fun i => f (n + i)) := by
  induction m with
  | zero => simp only [sumR, Nat.add_zero]; grind
  | succ m ih => rw [← Nat.add_assoc, sumR, ih, sumR]; grind
theorem sumR_nonneg {n : Nat} {f : Nat → Rat} (h : ∀ i, i < n → 0 ≤ f i) : 0 ≤ sumR n f := by
  induction n with
  | zero => exact Rat.le_refl
  | succ n ih =>
    have h1 := ih fun i hi => h i (by omega)
    have h2 := h n (by omega)
    rw [sumR]; grind
theorem sumR_ge {n k : Nat} {f : Nat → Rat} (h : ∀ i, i < n → 0 ≤ f i) (hk : k < n) : f k ≤ sumR n f := by
  induction n with
  | zero => omega
  | succ n ih =>
    have h1 := sumR_nonneg fun i hi => h i (by omega : i < n + 1)
    rw [sumR]
    by_cases e : k = n
    · subst e
      have := sumR_nonneg fun i (hi : i < k) => h i (by omega)
      grind
    · have := ih (fun i hi => h i (by omega)) (by omega)
      have := h n (by omega)
      grind
theorem sumR_cast (n : Nat) (f : Nat → Int) : ((sumN n f : Int) : Rat) = sumR n fun i => (f i : Rat) := by
  induction n with
  | zero => simp [sumN, sumR]
  | succ n ih => rw [sumN, sumR, Rat.intCast_add, ih]
theorem sq_nonneg (a : Rat) : 0 ≤ a * a := by
  rcases Rat.le_total (a := 0) (b := a) with h | h
  · exact Rat.mul_nonneg h h
  · have := Rat.mul_nonneg (show 0 ≤ -a by grind) (show 0 ≤ -a by grind); grind
end Go.Proofs.YtfilbjbogggaoaaGreat

/- Plain: the account of a symmetric form splits it into squares. -/
namespace Go.Proofs.YtfilbjbogggaoaaGreat
set_option linter.unusedSimpArgs false
set_option linter.unusedVariables false
open Go.RowKit

theorem muX_congr {x0 : Int} {sq row oth sq' row' oth' : List Q2} {k : Nat} (h : ∀ t, t < k → nthQ row t = nthQ row' t ∧ nthQ oth t = nthQ oth' t ∧ nthQ sq t = nthQ sq' t) : muX x0 sq row oth k = muX x0 sq' row' oth' k := by
  induction k with
  | zero => rfl
  | succ k ih =>
    obtain ⟨h1, h2, h3⟩ := h k (by omega)
    rw [muX, muX, ih fun t ht => h t (by omega), h1, h2, h3]
theorem muX_val {x0 : Int} {sq row oth : List Q2} {k : Nat} (h : okQ (muX x0 sq row oth k) = true) : (∀ t, t < k → okQ (nthQ row t) = true ∧ okQ (nthQ oth t) = true ∧ okQ (nthQ sq t) = true) ∧ (x0 : Rat) = rv (muX x0 sq row oth k) + sumR k fun t => rv (nthQ row t) * rv (nthQ oth t) * rv (nthQ sq t) := by
  induction k with
  | zero =>
    refine ⟨fun t ht => by omega, ?_⟩
    show (x0 : Rat) = rv (x0, 1) + 0
    rw [rv_whole]; grind
  | succ k ih =>
    rw [muX] at h ⊢
    obtain ⟨h1, h2, h3⟩ := addQ_val h
    obtain ⟨h4, h5⟩ := negQ_val h2
    obtain ⟨h6, h7, h8⟩ := mulQ_val h4
    obtain ⟨h9, h10, h11⟩ := mulQ_val h6
    obtain ⟨i1, i2⟩ := ih h1
    refine ⟨fun t ht => ?_, ?_⟩
    · by_cases e : t = k
      · subst e; exact ⟨h9, h10, h7⟩
      · exact i1 t (by omega)
    · rw [h3, h5, h8, h11, sumR]
      grind
theorem rowF_cells {C : Nat} {l : List Int} {mu : List (List Q2)} {sq : List Q2} {i j : Nat} {row : List Q2} (h : rowF C l mu sq i j = some row) : ∀ t, t < j → nthQ row t = divQ (cofX C l mu sq i row t) (nthQ sq t) ∧ okQ (cofX C l mu sq i row t) = true := by
  induction j generalizing row with
  | zero => intro t ht; omega
  | succ j ih =>
    rw [rowF] at h
    obtain ⟨r, h1, h2⟩ := Option.bind_eq_some_iff.1 h
    have hl := rowF_len h1
    split at h2
    · rename_i ho
      cases h2
      have hc : ∀ t, t ≤ j → cofX C l mu sq i (r ++ [divQ (cofX C l mu sq i r j) (nthQ sq j)]) t = cofX C l mu sq i r t := fun t ht => by
        unfold cofX
        exact muX_congr fun u hu => ⟨nthQ_append_left _ _ _ (by omega), rfl, rfl⟩
      intro t ht
      rw [hc t (by omega)]
      by_cases e : t = j
      · subst e
        refine ⟨?_, ho⟩
        have := nthQ_append_last r (divQ (cofX C l mu sq i r t) (nthQ sq t))
        rwa [hl] at this
      · rw [nthQ_append_left _ _ _ (by omega)]
        exact ih h1 t (by omega)
    · cases h2
/-- what the account says of a form's first n rows -/
structure AccV (C : Nat) (l : List Int) (n : Nat) (s : List (List Q2) × List Q2) : Prop where
  sq : ∀ i, i < n → okQ (nthQ s.2 i) = true ∧ 0 < (nthQ s.2 i).1
  row : ∀ i j, i < n → j < i → okQ (nthQ (s.1.getD i []) j) = true
  cell : ∀ i j, i < n → j < i → (nth l (i * C + j) : Rat) = rv (nthQ (s.1.getD i []) j) * rv (nthQ s.2 j) + sumR j fun t => rv (nthQ (s.1.getD i []) t) * rv (nthQ (s.1.getD j []) t) * rv (nthQ s.2 t)
  diag : ∀ i, i < n → (nth l (i * C + i) : Rat) = rv (nthQ s.2 i) + sumR i fun t => rv (nthQ (s.1.getD i []) t) * rv (nthQ (s.1.getD i []) t) * rv (nthQ s.2 t)
theorem getD_app_left {α : Type} (a b : List (List α)) (i : Nat) (h : i < a.length) : (a ++ b).getD i [] = a.getD i [] := by
  simp only [List.getD_eq_getElem?_getD]
  rw [List.getElem?_append_left h]
theorem getD_app_last {α : Type} (a : List (List α)) (x : List α) : (a ++ [x]).getD a.length [] = x := by
  simp [List.getD_eq_getElem?_getD]
theorem accF_val {C : Nat} {l : List Int} {n : Nat} {s : List (List Q2) × List Q2} (h : accF C l n = some s) : AccV C l n s := by
  induction n generalizing s with
  | zero => exact ⟨fun i hi => by omega, fun i j hi => by omega, fun i j hi => by omega, fun i hi => by omega⟩
  | succ n ih =>
    rw [accF] at h
    obtain ⟨⟨mu, sq⟩, h1, h2⟩ := Option.bind_eq_some_iff.1 h
    have V := ih h1
    have I := accF_inv h1
    unfold accS at h2
    obtain ⟨row, h3, h4⟩ := Option.bind_eq_some_iff.1 h2
    simp only at h3 h4
    split at h4
    rotate_left
    · cases h4
    rename_i hh
    simp only [Bool.and_eq_true, decide_eq_true_eq] at hh
    obtain ⟨hok, hpos⟩ := hh
    simp only [Option.some.injEq] at h4
    subst h4
    have l1 : mu.length = n := I.l1
    have l2 : sq.length = n := I.l2
    have hrl := rowF_len h3
    obtain ⟨last, hlast⟩ : ∃ q, q = lastX C l sq n row := ⟨_, rfl⟩
    rw [← hlast] at hok hpos ⊢
    have a1 : ∀ i, i < n → (mu ++ [row]).getD i [] = mu.getD i [] := fun i hi => getD_app_left _ _ _ (by omega)
    have a2 : (mu ++ [row]).getD n [] = row := by rw [← l1]; exact getD_app_last _ _
    have a3 : ∀ i, i < n → nthQ (sq ++ [last]) i = nthQ sq i := fun i hi => nthQ_append_left _ _ _ (by omega)
    have a4 : nthQ (sq ++ [last]) n = last := by rw [← l2]; exact nthQ_append_last _ _
    have hm := muX_val (x0 := nth l (n * C + n)) (sq := sq) (row := row) (oth := row) (k := n) (by rw [hlast] at hok; exact hok)
    have hc := rowF_cells h3
    refine ⟨fun i hi => ?_, fun i j hi hj => ?_, fun i j hi hj => ?_, fun i hi => ?_⟩
    · by_cases e : i < n
      · simp only [a3 i e]; exact V.sq i e
      · obtain rfl : i = n := by omega
        simp only [a4]; exact ⟨hok, hpos⟩
    · by_cases e : i < n
      · simp only [a1 i e]; exact V.row i j e hj
      · obtain rfl : i = n := by omega
        simp only [a2]; exact (hm.1 j hj).1
    · by_cases e : i < n
      · simp only [a1 i e, a1 j (by omega), a3 j (by omega)]
        rw [V.cell i j e hj]
        congr 1
        exact sumR_congr fun t ht => by simp only [a3 t (by omega)]
      · obtain rfl : i = n := by omega
        simp only [a2, a1 j hj, a3 j hj]
        obtain ⟨c1, c2⟩ := hc j hj
        have ho := (hm.1 j hj).1
        rw [c1] at ho
        obtain ⟨d1, d2, d3, d4⟩ := divQ_val ho
        have hv := (muX_val (x0 := nth l (i * C + j)) (sq := sq) (row := row) (oth := mu.getD j []) (k := j) c2).2
        have hcx : cofX C l mu sq i row j = muX (nth l (i * C + j)) sq row (mu.getD j []) j := rfl
        rw [hv, ← hcx, c1, d4]
        have hne : rv (nthQ sq j) ≠ 0 := by have := rv_pos d2 (V.sq j hj).2; grind
        have e5 : (sumR j fun t => rv (nthQ row t) * rv (nthQ (mu.getD j []) t) * rv (nthQ (sq ++ [last]) t)) = sumR j fun t => rv (nthQ row t) * rv (nthQ (mu.getD j []) t) * rv (nthQ sq t) := sumR_congr fun t ht => by simp only [a3 t (by omega)]
        rw [e5]
        grind
    · by_cases e : i < n
      · simp only [a1 i e, a3 i e]
        rw [V.diag i e]
        congr 1
        exact sumR_congr fun t ht => by simp only [a3 t (by omega)]
      · obtain rfl : i = n := by omega
        simp only [a2, a4]
        rw [hm.2]
        have : lastX C l sq i row = muX (nth l (i * C + i)) sq row row i := rfl
        rw [← this, ← hlast]
        congr 1
        exact sumR_congr fun t ht => by simp only [a3 t (by omega)]
/-- the coefficients as a matrix -/
def mM (s : List (List Q2) × List Q2) (i k : Nat) : Rat := if k < i then rv (nthQ (s.1.getD i []) k) else if i = k then 1 else 0
def sqV (s : List (List Q2) × List Q2) (k : Nat) : Rat := rv (nthQ s.2 k)
theorem AccV.low {R : Nat} {l : List Int} {s : List (List Q2) × List Q2} (V : AccV R l R s) {i j : Nat} (hi : i < R) (hj : j ≤ i) : (nth l (i * R + j) : Rat) = sumR R fun k => mM s i k * mM s j k * sqV s k := by
  rw [sumR_cut (k := j + 1) (by omega) fun k h1 h2 => by
    have : mM s j k = 0 := by unfold mM; rw [if_neg (by omega), if_neg (by omega)]
    rw [this]; grind]
  rw [sumR]
  have e1 : mM s j j = 1 := by unfold mM; rw [if_neg (by omega), if_pos rfl]
  have e2 : (sumR j fun k => mM s i k * mM s j k * sqV s k) = sumR j fun t => rv (nthQ (s.1.getD i []) t) * rv (nthQ (s.1.getD j []) t) * rv (nthQ s.2 t) := sumR_congr fun t ht => by
    unfold mM sqV; rw [if_pos (by omega), if_pos ht]
  rw [e1, e2]
  by_cases e : j < i
  · rw [V.cell i j hi e]
    have e3 : mM s i j = rv (nthQ (s.1.getD i []) j) := by unfold mM; rw [if_pos e]
    rw [e3]; unfold sqV; grind
  · obtain rfl : j = i := by omega
    rw [V.diag j hi, e1]; unfold sqV; grind
theorem AccV.all {R : Nat} {l : List Int} {s : List (List Q2) × List Q2} (V : AccV R l R s) (hs : ∀ i j, i < R → j < R → nth l (i * R + j) = nth l (j * R + i)) {i j : Nat} (hi : i < R) (hj : j < R) : (nth l (i * R + j) : Rat) = sumR R fun k => mM s i k * mM s j k * sqV s k := by
  by_cases e : j ≤ i
  · exact V.low hi e
  · rw [hs i j hi hj, V.low hj (by omega)]
    exact sumR_congr fun k _ => by grind
/-- the k-th of the orthogonal coordinates of a vector -/
def ordV (R : Nat) (s : List (List Q2) × List Q2) (v : Nat → Int) (k : Nat) : Rat := sumR R fun i => (v i : Rat) * mM s i k
/-- the form is a sum of squares -/
theorem AccV.squares {R : Nat} {l : List Int} {s : List (List Q2) × List Q2} (V : AccV R l R s) (hs : ∀ i j, i < R → j < R → nth l (i * R + j) = nth l (j * R + i)) (v : Nat → Int) : (qf R (fnOf R l) v : Rat) = sumR R fun k => sqV s k * (ordV R s v k * ordV R s v k) := by
  have e1 : (qf R (fnOf R l) v : Rat) = sumR R fun i => sumR R fun j => sumR R fun k => sqV s k * (((v i : Rat) * mM s i k) * ((v j : Rat) * mM s j k)) := by
    unfold qf
    rw [sumR_cast]
    refine sumR_congr fun i hi => ?_
    rw [sumR_cast]
    refine sumR_congr fun j hj => ?_
    rw [Rat.intCast_mul, Rat.intCast_mul]
    show (v i : Rat) * (nth l (i * R + j) : Rat) * (v j : Rat) = _
    rw [V.all hs hi hj, ← sumR_mul, ← sumR_mulr]
    exact sumR_congr fun k _ => by grind
  rw [e1]
  have e2 : ∀ i, (sumR R fun j => sumR R fun k => sqV s k * (((v i : Rat) * mM s i k) * ((v j : Rat) * mM s j k))) = sumR R fun k => sqV s k * ((v i : Rat) * mM s i k) * ordV R s v k := fun i => by
    rw [sumR_swap]
    refine sumR_congr fun k _ => ?_
    unfold ordV
    rw [← sumR_mul]
    exact sumR_congr fun j _ => by grind
  rw [sumR_congr fun i _ => e2 i, sumR_swap]
  refine sumR_congr fun k _ => ?_
  have e3 : (sumR R fun i => sqV s k * ((v i : Rat) * mM s i k) * ordV R s v k) = sumR R fun i => (sqV s k * ordV R s v k) * ((v i : Rat) * mM s i k) := sumR_congr fun i _ => by grind
  rw [e3, sumR_mul]
  show _ = sqV s k * (ordV R s v k * ordV R s v k)
  have : (sumR R fun i => (v i : Rat) * mM s i k) = ordV R s v k := rfl
  rw [this]; grind
/-- a coordinate is that cell and what the later ones add -/
theorem ordV_cell {R : Nat} {s : List (List Q2) × List Q2} {v : Nat → Int} {k : Nat} (hk : k < R) : ordV R s v k = (v k : Rat) + sumR (R - (k + 1)) fun t => (v (k + 1 + t) : Rat) * rv (nthQ (s.1.getD (k + 1 + t) []) k) := by
  unfold ordV
  have e : R = (k + 1) + (R - (k + 1)) := by omega
  have e2 : (sumR R fun i => (v i : Rat) * mM s i k) = sumR (k + 1 + (R - (k + 1))) fun i => (v i : Rat) * mM s i k := by rw [← e]
  rw [e2, sumR_split, sumR]
  have e3 : (sumR k fun i => (v i : Rat) * mM s i k) = 0 := sumR_zero fun i hi => by
    have : mM s i k = 0 := by unfold mM; rw [if_neg (by omega), if_neg (by omega)]
    rw [this]; grind
  have e4 : mM s k k = 1 := by unfold mM; rw [if_neg (by omega), if_pos rfl]
  have e5 : (sumR (R - (k + 1)) fun i => (v (k + 1 + i) : Rat) * mM s (k + 1 + i) k) = sumR (R - (k + 1)) fun t => (v (k + 1 + t) : Rat) * rv (nthQ (s.1.getD (k + 1 + t) []) k) := sumR_congr fun t ht => by
    have : mM s (k + 1 + t) k = rv (nthQ (s.1.getD (k + 1 + t) []) k) := by unfold mM; rw [if_pos (by omega)]
    rw [this]
  rw [e3, e4, e5]; grind
end Go.Proofs.YtfilbjbogggaoaaGreat

/- Plain: the cells of a matrix after operations on its rows. -/
namespace Go.Proofs.YtfilbjbogggaoaaGreat
set_option linter.unusedSimpArgs false
set_option linter.unusedVariables false
open Go.RowKit

def mt (C : Nat) (l : List Int) : Nat → Nat → Int := fun i j => nth l (i * C + j)
def sw (i j a : Nat) : Nat := if a = i then j else if a = j then i else a
theorem sw_lt {R i j a : Nat} (hi : i < R) (hj : j < R) (ha : a < R) : sw i j a < R := by unfold sw; split; exact hj; split; exact hi; exact ha
theorem sw_sw (i j a : Nat) : sw i j (sw i j a) = a := by
  unfold sw
  by_cases e1 : a = i
  · rw [if_pos e1]
    by_cases e2 : j = i
    · rw [if_pos e2]; omega
    · rw [if_neg e2, if_pos rfl]; omega
  · rw [if_neg e1]
    by_cases e2 : a = j
    · rw [if_pos e2, if_pos rfl]; omega
    · rw [if_neg e2, if_neg e1, if_neg e2]
theorem addT_cells {R C i j : Nat} {t : Int} {l : List Int} (hi : i < R) (hn : allNum (addT R C i j t l) = true) (a b : Nat) (ha : a < R) (hb : b < C) : mt C (addT R C i j t l) a b = if a = i then mt C l a b + mt C l j b * t else mt C l a b := by
  unfold mt
  by_cases e : a = i
  · rw [if_pos e, e]; exact addT_same hi hb hn
  · rw [if_neg e]; exact addT_other ha hb e
theorem swpT_cells {R C i j : Nat} {l : List Int} (a b : Nat) (ha : a < R) (hb : b < C) : mt C (swpT R C i j l) a b = mt C l (sw i j a) b := by
  unfold mt sw
  rw [swpT_cell ha hb]
  split
  · rfl
  · split <;> rfl
theorem idL_cell {R a b : Nat} (ha : a < R) (hb : b < R) : mt R (idL R) a b = if a = b then 1 else 0 := by
  unfold mt idL; rw [tab_nth _ ha hb]
end Go.Proofs.YtfilbjbogggaoaaGreat

/- Plain: what comes from the unit matrix by adding and exchanging rows is unimodular, its determinant is 1 or -1. -/
namespace Go.Proofs.YtfilbjbogggaoaaGreat
set_option linter.unusedSimpArgs false
set_option linter.unusedVariables false

structure UmD (R : Nat) (u : List Int) : Prop where
  det : dets R (fnOf R u) = 1 ∨ dets R (fnOf R u) = -1
theorem dets_one (n : Nat) : dets n (fun i j => if i = j then 1 else 0) = 1 := by
  induction n with
  | zero => rfl
  | succ n ih =>
    have e := dets_corner n (fun i j => if i = j then (1 : Int) else 0) fun a => if_neg (by omega)
    rw [e, if_pos rfl, Int.one_mul]
    refine Eq.trans ?_ ih
    exact dets_congr fun i j _ _ => by
      by_cases h : i = j
      · rw [if_pos h, if_pos (by omega)]
      · rw [if_neg h, if_neg (by omega)]
theorem UmD.one (R : Nat) : UmD R (idL R) := by
  refine ⟨.inl ?_⟩
  rw [← dets_one R]
  exact dets_congr fun i j hi hj => idL_cell hi hj
theorem UmD.add {R i j : Nat} {t : Int} {u : List Int} (h : UmD R u) (hi : i < R) (hj : j < R) (hij : i ≠ j) (hn : allNum (addT R R i j t u) = true) : UmD R (addT R R i j t u) := by
  have cell : ∀ a b, a < R → b < R → nth (addT R R i j t u) (a * R + b) = if a = i then nth u (a * R + b) + nth u (j * R + b) * t else nth u (a * R + b) := fun a b ha hb => by
    by_cases e : a = i
    · subst e; rw [if_pos rfl]; exact addT_same ha hb hn
    · rw [if_neg e]; exact addT_other ha hb e
  refine ⟨?_⟩
  have e : dets R (fnOf R (addT R R i j t u)) = dets R (fnOf R u) := by
    have := dets_row R (fnOf R u) i j hi hj hij 1 t
    rw [Int.one_mul] at this
    rw [← this]
    refine dets_congr fun a b ha hb => ?_
    unfold setR fnOf
    rw [cell a b ha hb]
    by_cases e : a = i
    · rw [if_pos e, if_pos e, e]
      show _ = 1 * nth u (i * R + b) + t * nth u (j * R + b)
      rw [Int.one_mul, Int.mul_comm t]
    · rw [if_neg e, if_neg e]
  rw [e]
  exact h.det
theorem UmD.swp {R k : Nat} {u : List Int} (h : UmD R u) (h1 : 1 ≤ k) (hk : k < R) : UmD R (swpT R R k (k - 1) u) := by
  have cell : ∀ a b, a < R → b < R → nth (swpT R R k (k - 1) u) (a * R + b) = nth u (sw k (k - 1) a * R + b) := fun a b ha hb => by
    rw [swpT_cell ha hb]
    unfold sw
    split
    · rfl
    · split <;> rfl
  refine ⟨?_⟩
  obtain ⟨i, rfl⟩ : ∃ i, k = i + 1 := ⟨k - 1, by omega⟩
  simp only [Nat.add_sub_cancel] at cell ⊢
  have e : dets R (fnOf R u) = - dets R (fnOf R (swpT R R (i + 1) i u)) := by
    have := dets_swap R (fnOf R u) i hk (fnOf R u i) (fnOf R u (i + 1))
    rw [setR_self, setR_self] at this
    rw [this]
    congr 1
    refine dets_congr fun a b ha hb => ?_
    unfold setR
    show _ = nth (swpT R R (i + 1) i u) (a * R + b)
    rw [cell a b ha hb]
    unfold sw
    by_cases e1 : a = i + 1
    · rw [if_pos e1, if_pos e1]; rfl
    · rw [if_neg e1, if_neg e1]
      by_cases e2 : a = i
      · rw [if_pos e2, if_pos e2]; rfl
      · rw [if_neg e2, if_neg e2]; rfl
  rcases h.det with d | d
  · right; omega
  · left; omega
end Go.Proofs.YtfilbjbogggaoaaGreat

/- Plain: the matrix of a reduction is unimodular. -/
namespace Go.Proofs.YtfilbjbogggaoaaGreat
set_option linter.unusedSimpArgs false
set_option linter.unusedVariables false
open Go.RowKit

theorem bothA_um {R i j : Nat} {t : Int} {s s' : LL} (hu : UmD R s.2) (hi : i < R) (hj : j < R) (hij : i ≠ j) (h : bothA R i j t s = some s') : UmD R s'.2 := by
  unfold bothA at h
  obtain ⟨x, h1, h2⟩ := Option.bind_eq_some_iff.1 h
  obtain ⟨rfl, _, h5⟩ := two_some (show two (addT R R i j t s.1) (addT R R i j t s.2) = some x from h1)
  obtain ⟨rfl, _, _⟩ := two_some h2
  exact hu.add hi hj hij h5
theorem redS_um {R : Nat} {mu : List (List Q2) × List Q2} {x y : RS} (hu : UmD R x.1.2) (h1 : 1 ≤ x.2) (h2 : x.2 < R) (h : redS R mu x = some y) : UmD R y.1.2 := by
  obtain ⟨s, k⟩ := x
  simp only at hu h1 h2
  cases hf : fstJ (mu.1.getD k []) k with
  | some j =>
    have hjk := fstJ_lt hf
    cases ho : okQ (nthQ (mu.1.getD k []) j)
    · rw [redS_bad hf ho] at h; cases h
    · rw [redS_add hf ho] at h
      obtain ⟨s', h3, rfl⟩ := Option.map_eq_some_iff.1 h
      exact bothA_um hu h2 (by omega) (by omega) h3
  | none =>
    by_cases h3 : ordS mu k = 2
    · rw [redS_unknown hf h3] at h; cases h
    · by_cases h4 : ordS mu k = 0 ∨ ordS mu k = 1
      · rw [redS_good hf h4] at h; cases h; exact hu
      · rw [redS_swap hf h3 h4] at h; cases h
        exact hu.swp h1 h2
theorem rdgF_um {R f : Nat} {x : RS} {s : LL} (hx : Ok2 R R x.1) (h1 : 1 ≤ x.2) (hu : UmD R x.1.2) (h : rdgF R f x = some s) : UmD R s.2 := by
  induction f generalizing x with
  | zero =>
    rw [rdgF] at h
    split at h
    · cases h
    · cases h; exact hu
  | succ f ih =>
    by_cases h2 : x.2 < R
    · cases h3 : accF R x.1.1 R with
      | none => rw [rdgF_acc h2 h3] at h; cases h
      | some mu =>
        rw [rdgF_step h2 h3] at h
        obtain ⟨y, h4, h5⟩ := Option.bind_eq_some_iff.1 h
        obtain ⟨h6, h7, _⟩ := redS_ok hx h1 h2 h4
        exact ih h6 h7 (redS_um hu h1 h2 h4) h5
    · rw [rdgF_end h2] at h; cases h; exact hu
theorem rdgO_um {g : MX} {x : MX × MX} (h : rdgO g = some x) : ∃ (R : Nat) (u : List Int), g.r = R ∧ R ≤ 6 ∧ x.2 = ⟨R, R, u⟩ ∧ u.length = R * R ∧ allNum u = true ∧ UmD R u := by
  cases hd : isDef g.r g.c g.l
  · rw [rdgO_no hd] at h; cases h
  · obtain ⟨_, R, e1, e2, hR, hlen, hn⟩ := isSq_nat (isDef_sq hd)
    obtain ⟨r, c, l⟩ := g
    simp only at e1 e2 hlen hn hd
    subst e1 e2
    rw [rdgO_yes hd] at h
    obtain ⟨s, h1, rfl⟩ := Option.map_eq_some_iff.1 h
    have ok : Ok2 R R ((l, idL R) : LL) := ⟨hlen, idL_length R, (allNum_iff _).2 hn, idL_num R⟩
    have ok2 := rdgF_ok (x := ((l, idL R), 1)) ok (Nat.le_refl _) h1
    exact ⟨R, s.2, rfl, hR, rfl, ok2.l2, ok2.n2, rdgF_um (x := ((l, idL R), 1)) ok (Nat.le_refl _) (UmD.one R) h1⟩
end Go.Proofs.YtfilbjbogggaoaaGreat

/- Plain: a reduced form is the form in the basis of the matrix that comes with it. -/
namespace Go.Proofs.YtfilbjbogggaoaaGreat
set_option linter.unusedSimpArgs false
set_option linter.unusedVariables false
open Go.RowKit

/-- a form between two vectors -/
def bilF (R : Nat) (f : Nat → Nat → Int) (x y : Nat → Int) : Int := sumN R fun b => (sumN R fun a => x a * f a b) * y b
section
variable {R : Nat} {f : Nat → Nat → Int} {x y z x' y' : Nat → Int} {t : Int}
theorem bilF_congr (hx : ∀ a, a < R → x a = x' a) (hy : ∀ b, b < R → y b = y' b) : bilF R f x y = bilF R f x' y' := by
  unfold bilF
  exact sumN_congr fun b hb => by rw [sumN_congr fun a ha => by rw [hx a ha], hy b hb]
theorem bilF_addl : bilF R f (fun a => x a + z a * t) y = bilF R f x y + bilF R f z y * t := by
  unfold bilF
  rw [Int.mul_comm _ t, ← sumN_mul, ← sumN_add]
  refine sumN_congr fun b _ => ?_
  have e : (sumN R fun a => (x a + z a * t) * f a b) = (sumN R fun a => x a * f a b) + t * sumN R fun a => z a * f a b := by
    rw [← sumN_mul, ← sumN_add]
    exact sumN_congr fun a _ => by grind
  rw [e]; grind
theorem bilF_addr : bilF R f x (fun b => y b + z b * t) = bilF R f x y + bilF R f x z * t := by
  unfold bilF
  rw [Int.mul_comm _ t, ← sumN_mul, ← sumN_add]
  exact sumN_congr fun b _ => by grind
end
/-- row a of a square -/
def rowU (R : Nat) (u : List Int) (a : Nat) : Nat → Int := fun c => nth u (a * R + c)
/-- the first is the form in the basis of the second -/
def CbI (R : Nat) (f : Nat → Nat → Int) (s : LL) : Prop := ∀ i j, i < R → j < R → nth s.1 (i * R + j) = bilF R f (rowU R s.2 i) (rowU R s.2 j)
theorem CbI.one {R : Nat} {l : List Int} : CbI R (fnOf R l) (l, idL R) := fun i j hi hj => by
  have e : ∀ k, k < R → ∀ c, c < R → rowU R (idL R) k c = if c = k then 1 else 0 := fun k hk c hc => by
    have := idL_cell hk hc
    unfold rowU
    unfold mt at this
    rw [this]
    by_cases h : k = c
    · rw [if_pos h, if_pos h.symm]
    · rw [if_neg h, if_neg (Ne.symm h)]
  unfold bilF
  have e2 : ∀ b, b < R → (sumN R fun a => rowU R (idL R) i a * fnOf R l a b) = fnOf R l i b := fun b hb => by
    rw [sumN_congr fun a ha => by rw [e i hi a ha]]
    exact sumN_one hi _
  have e3 : (sumN R fun b => (sumN R fun a => rowU R (idL R) i a * fnOf R l a b) * rowU R (idL R) j b) = sumN R fun b => (if b = j then 1 else 0) * fnOf R l i b := sumN_congr fun b hb => by
    rw [e2 b hb, e j hj b hb, Int.mul_comm]
  show nth l (i * R + j) = _
  rw [e3, sumN_one hj]
  rfl
theorem bothA_cb {R k j : Nat} {t : Int} {f : Nat → Nat → Int} {s s' : LL} (h : CbI R f s) (hk : k < R) (hj : j < R) (hkj : k ≠ j) (hs : bothA R k j t s = some s') : CbI R f s' := by
  unfold bothA at hs
  obtain ⟨x, h1, h2⟩ := Option.bind_eq_some_iff.1 hs
  obtain ⟨rfl, h3, h4⟩ := two_some (show two (addT R R k j t s.1) (addT R R k j t s.2) = some x from h1)
  obtain ⟨rfl, h5, _⟩ := two_some h2
  have cu : ∀ a, a < R → ∀ c, c < R → rowU R (addT R R k j t s.2) a c = if a = k then rowU R s.2 k c + rowU R s.2 j c * t else rowU R s.2 a c := fun a ha c hc => by
    have := addT_cells (R := R) (C := R) hk h4 a c ha hc
    unfold mt at this
    unfold rowU
    rw [this]
    by_cases e : a = k
    · rw [if_pos e, if_pos e, e]
    · rw [if_neg e, if_neg e]
  have cl : ∀ a b, a < R → b < R → nth (addT R R k j t s.1) (a * R + b) = bilF R f (rowU R (addT R R k j t s.2) a) (rowU R s.2 b) := fun a b ha hb => by
    have h6 := addT_cells (R := R) (C := R) hk h3 a b ha hb
    unfold mt at h6
    rw [h6]
    by_cases e : a = k
    · subst e
      rw [if_pos rfl, h a b ha hb, h j b hj hb, ← bilF_addl]
      exact bilF_congr (fun c hc => by rw [cu a ha c hc, if_pos rfl]) fun _ _ => rfl
    · rw [if_neg e, h a b ha hb]
      exact bilF_congr (fun c hc => by rw [cu a ha c hc, if_neg e]) fun _ _ => rfl
  intro a b ha hb
  show nth (addCT R R k j t (addT R R k j t s.1)) (a * R + b) = _
  by_cases e : b = k
  · subst e
    rw [addCT_same hk ha h5, cl a b ha hb, cl a j ha hj, ← bilF_addr]
    exact bilF_congr (fun _ _ => rfl) fun c hc => (by rw [cu b hb c hc, if_pos rfl])
  · rw [addCT_other ha hb e, cl a b ha hb]
    exact bilF_congr (fun _ _ => rfl) fun c hc => (by rw [cu b hb c hc, if_neg e])
theorem bothW_cb {R k : Nat} {f : Nat → Nat → Int} {s : LL} (h : CbI R f s) (hk : k < R) : CbI R f (bothW R k (k - 1) s) := by
  intro a b ha hb
  have hk1 : k - 1 < R := by omega
  have cu : ∀ a, a < R → ∀ c, c < R → rowU R (swpT R R k (k - 1) s.2) a c = rowU R s.2 (sw k (k - 1) a) c := fun a ha c hc => by
    have := swpT_cells (R := R) (C := R) (i := k) (j := k - 1) (l := s.2) a c ha hc
    unfold mt at this
    exact this
  have hsa := sw_lt hk hk1 ha
  have hsb := sw_lt hk hk1 hb
  show nth (swpCT R R k (k - 1) (swpT R R k (k - 1) s.1)) (a * R + b) = bilF R f (rowU R (swpT R R k (k - 1) s.2) a) (rowU R (swpT R R k (k - 1) s.2) b)
  rw [bilF_congr (cu a ha) (cu b hb), ← h _ _ hsa hsb]
  have c1 : ∀ b, b < R → nth (swpT R R k (k - 1) s.1) (a * R + b) = nth s.1 (sw k (k - 1) a * R + b) := fun b hb => by
    have := swpT_cells (R := R) (C := R) (i := k) (j := k - 1) (l := s.1) a b ha hb
    unfold mt at this
    exact this
  rw [swpCT_cell ha hb, ← c1 _ hsb]
  unfold sw
  split
  · rfl
  · split <;> rfl
theorem redS_cb {R : Nat} {mu : List (List Q2) × List Q2} {f : Nat → Nat → Int} {x y : RS} (hu : CbI R f x.1) (h2 : x.2 < R) (h : redS R mu x = some y) : CbI R f y.1 := by
  obtain ⟨s, k⟩ := x
  simp only at hu h2
  cases hf : fstJ (mu.1.getD k []) k with
  | some j =>
    have hjk := fstJ_lt hf
    cases ho : okQ (nthQ (mu.1.getD k []) j)
    · rw [redS_bad hf ho] at h; cases h
    · rw [redS_add hf ho] at h
      obtain ⟨s', h3, rfl⟩ := Option.map_eq_some_iff.1 h
      exact bothA_cb hu h2 (by omega) (by omega) h3
  | none =>
    by_cases h3 : ordS mu k = 2
    · rw [redS_unknown hf h3] at h; cases h
    · by_cases h4 : ordS mu k = 0 ∨ ordS mu k = 1
      · rw [redS_good hf h4] at h; cases h; exact hu
      · rw [redS_swap hf h3 h4] at h; cases h
        exact bothW_cb hu h2
theorem rdgF_cb {R n : Nat} {f : Nat → Nat → Int} {x : RS} {s : LL} (hx : Ok2 R R x.1) (h1 : 1 ≤ x.2) (hu : CbI R f x.1) (h : rdgF R n x = some s) : CbI R f s := by
  induction n generalizing x with
  | zero =>
    rw [rdgF] at h
    split at h
    · cases h
    · cases h; exact hu
  | succ n ih =>
    by_cases h2 : x.2 < R
    · cases h3 : accF R x.1.1 R with
      | none => rw [rdgF_acc h2 h3] at h; cases h
      | some mu =>
        rw [rdgF_step h2 h3] at h
        obtain ⟨y, h4, h5⟩ := Option.bind_eq_some_iff.1 h
        obtain ⟨h6, h7, _⟩ := redS_ok hx h1 h2 h4
        exact ih h6 h7 (redS_cb hu h2 h4) h5
    · rw [rdgF_end h2] at h; cases h; exact hu
/-- the reduced form is the form in the new basis -/
theorem rdg_change {g : MX} {x : MX × MX} {h : MX} (hr : rdgO g = some x) (hc : cbO g x.2 = some h) : h = x.1 := by
  cases hd : isDef g.r g.c g.l
  · rw [rdgO_no hd] at hr; cases hr
  · obtain ⟨_, R, e1, e2, hR, hlen, hn⟩ := isSq_nat (isDef_sq hd)
    obtain ⟨r, c, l⟩ := g
    simp only at e1 e2 hlen hn hd
    subst e1 e2
    rw [rdgO_yes hd] at hr
    obtain ⟨s, h1, rfl⟩ := Option.map_eq_some_iff.1 hr
    have ok : Ok2 R R ((l, idL R) : LL) := ⟨hlen, idL_length R, (allNum_iff _).2 hn, idL_num R⟩
    have ok2 := rdgF_ok (x := ((l, idL R), 1)) ok (Nat.le_refl _) h1
    have cb := rdgF_cb (x := ((l, idL R), 1)) ok (Nat.le_refl _) CbI.one h1
    obtain ⟨N, eu, eh, hul, hcell⟩ := cbO_cells hc
    have hN : (R : Int) = N := congrArg MX.r eu
    obtain rfl : N = R := by omega
    have hok := cbO_ok hc
    have hhl : h.l.length = N * N := by
      rw [eh] at hok
      obtain ⟨R1, C1, e3, e4, _, _, h5, _⟩ := isMat_nat hok
      have e3 : (N : Int) = R1 := e3
      have e4 : (N : Int) = C1 := e4
      obtain rfl : R1 = N := by omega
      obtain rfl : C1 = R1 := by omega
      exact h5
    rw [eh]
    have : h.l = s.1 := nth_ext (by rw [hhl, ok2.l1]) fun i hi => by
      rw [hhl] at hi
      obtain ⟨a1, a2, a3⟩ := idx_split hi
      have h6 := hcell _ _ a1 a2
      unfold fnOf at h6
      rw [a3, h6, cb _ _ a1 a2]
      rfl
    rw [this]
end Go.Proofs.YtfilbjbogggaoaaGreat

/- Plain: what the reduction ends with is reduced. -/
namespace Go.Proofs.YtfilbjbogggaoaaGreat
set_option linter.unusedSimpArgs false
set_option linter.unusedVariables false
open Go.RowKit

/-! ### the account of the first rows -/
theorem rowF_congr {C : Nat} {l l' : List Int} {mu : List (List Q2)} {sq : List Q2} {i : Nat} (h : ∀ j, j < i → nth l (i * C + j) = nth l' (i * C + j)) {j : Nat} (hj : j ≤ i) : rowF C l mu sq i j = rowF C l' mu sq i j := by
  induction j with
  | zero => rfl
  | succ j ih =>
    rw [rowF, rowF, ih (by omega)]
    have : ∀ row, cofX C l mu sq i row j = cofX C l' mu sq i row j := fun row => by unfold cofX; rw [h j (by omega)]
    simp only [this]
theorem accF_congr {C : Nat} {l l' : List Int} {k : Nat} (h : ∀ i j, i < k → j ≤ i → nth l (i * C + j) = nth l' (i * C + j)) : accF C l k = accF C l' k := by
  induction k with
  | zero => rfl
  | succ k ih =>
    rw [accF, accF, ih fun i j hi hj => h i j (by omega) hj]
    congr 1
    funext s
    unfold accS
    rw [rowF_congr (fun j hj => h k j (by omega) (by omega)) (Nat.le_refl k)]
    have : ∀ row, lastX C l s.2 k row = lastX C l' s.2 k row := fun row => by unfold lastX; rw [h k k (by omega) (Nat.le_refl _)]
    simp only [this]
theorem accF_pre {C : Nat} {l : List Int} {n k : Nat} {s : List (List Q2) × List Q2} (h : accF C l n = some s) (hk : k ≤ n) : ∃ t, accF C l k = some t ∧ (∀ j, j < k → s.1.getD j [] = t.1.getD j []) ∧ ∀ j, j < k → nthQ s.2 j = nthQ t.2 j := by
  induction n generalizing s with
  | zero => obtain rfl : k = 0 := by omega
            exact ⟨s, h, fun j hj => by omega, fun j hj => by omega⟩
  | succ n ih =>
    by_cases e : k = n + 1
    · subst e; exact ⟨s, h, fun _ _ => rfl, fun _ _ => rfl⟩
    · rw [accF] at h
      obtain ⟨u, h1, h2⟩ := Option.bind_eq_some_iff.1 h
      obtain ⟨t, t1, t2, t3⟩ := ih h1 (by omega)
      have I := accF_inv h1
      unfold accS at h2
      obtain ⟨row, _, h4⟩ := Option.bind_eq_some_iff.1 h2
      split at h4
      · cases h4
        refine ⟨t, t1, fun j hj => ?_, fun j hj => ?_⟩
        · rw [getD_app_left _ _ _ (by rw [I.l1]; omega)]; exact t2 j hj
        · rw [nthQ_append_left _ _ _ (by rw [I.l2]; omega)]; exact t3 j hj
      · cases h4
/-! ### the rows below k are reduced -/
def RowG (s : List (List Q2) × List Q2) (j : Nat) : Prop := halfR (s.1.getD j []) j = none ∧ (0 < j → ordS s j = 0 ∨ ordS s j = 1)
def Good (R : Nat) (l : List Int) (k : Nat) : Prop := ∀ s, accF R l R = some s → ∀ j, j < k → RowG s j
theorem RowG.congr {s t : List (List Q2) × List Q2} {j k : Nat} (hj : j < k) (h1 : ∀ j, j < k → s.1.getD j [] = t.1.getD j []) (h2 : ∀ j, j < k → nthQ s.2 j = nthQ t.2 j) (h : RowG t j) : RowG s j := by
  unfold RowG ordS at *
  rw [h1 j hj, h2 j hj, h2 (j - 1) (by omega)]
  exact h
/-- the leading rows and columns are as before -/
theorem Good.lead {R : Nat} {l l' : List Int} {k : Nat} {s0 : List (List Q2) × List Q2} (h : Good R l k) (h0 : accF R l R = some s0) (hk : k ≤ R) (hc : ∀ i j, i < k → j ≤ i → nth l' (i * R + j) = nth l (i * R + j)) : Good R l' k := fun s hs j hj => by
  obtain ⟨t, t1, t2, t3⟩ := accF_pre hs hk
  obtain ⟨u, u1, u2, u3⟩ := accF_pre h0 hk
  rw [accF_congr hc, u1] at t1
  cases t1
  refine RowG.congr hj t2 t3 ?_
  refine RowG.congr hj (fun j hj => (u2 j hj).symm) (fun j hj => (u3 j hj).symm) (h s0 h0 j hj)
theorem half_of_round {q : Q2} (h : okQ q = true) (h2 : roundQ q = 0) : ¬ q.2 < 2 * absI q.1 := by
  have hb := okQ_bd h
  unfold roundQ at h2
  rw [h, if_pos rfl] at h2
  have h3 : 0 ≤ 2 * q.1 + q.2 := by
    refine Classical.byContradiction fun hn => ?_
    have := Int.ediv_neg_of_neg_of_pos (a := 2 * q.1 + q.2) (b := 2 * q.2) (by omega) (by omega)
    omega
  have h4 : 2 * q.1 + q.2 < 2 * q.2 := by
    refine Classical.byContradiction fun hn => ?_
    have : 1 ≤ (2 * q.1 + q.2) / (2 * q.2) := (Int.le_ediv_iff_mul_le (by omega)).2 (by omega)
    omega
  unfold absI
  split <;> omega
theorem half_of_fst {row : List Q2} {j : Nat} (h : fstJ row j = none) : halfR row j = none := by
  induction j with
  | zero => rfl
  | succ j ih =>
    rw [fstJ] at h
    split at h
    · rename_i hh
      simp only [Bool.and_eq_true, decide_eq_true_eq] at hh
      exact halfR_ok (ih h) hh.1 (half_of_round hh.1 hh.2)
    · cases h
theorem bothA_lead {R k j : Nat} {t : Int} {s s' : LL} (hs : bothA R k j t s = some s') (hk : k < R) {a b : Nat} (ha : a < k) (hb : b < k) : nth s'.1 (a * R + b) = nth s.1 (a * R + b) := by
  unfold bothA at hs
  obtain ⟨x, h1, h2⟩ := Option.bind_eq_some_iff.1 hs
  obtain ⟨rfl, h3, h4⟩ := two_some (show two (addT R R k j t s.1) (addT R R k j t s.2) = some x from h1)
  obtain ⟨rfl, h5, _⟩ := two_some h2
  show nth (addCT R R k j t (addT R R k j t s.1)) (a * R + b) = _
  rw [addCT_other (by omega) (by omega) (by omega)]
  have h6 := addT_cells (R := R) (C := R) hk h3 a b (by omega) (by omega)
  unfold mt at h6
  rw [h6, if_neg (by omega)]
theorem bothW_lead {R k : Nat} {s : LL} (hk : k < R) {a b : Nat} (ha : a < k - 1) (hb : b < k - 1) : nth (bothW R k (k - 1) s).1 (a * R + b) = nth s.1 (a * R + b) := by
  show nth (swpCT R R k (k - 1) (swpT R R k (k - 1) s.1)) (a * R + b) = _
  rw [swpCT_cell (by omega) (by omega), if_neg (by omega), if_neg (by omega)]
  have := swpT_cells (R := R) (C := R) (i := k) (j := k - 1) (l := s.1) a b (by omega) (by omega)
  unfold mt at this
  rw [this]
  unfold sw
  rw [if_neg (by omega), if_neg (by omega)]
theorem redS_good2 {R : Nat} {mu : List (List Q2) × List Q2} {x y : RS} (ha : accF R x.1.1 R = some mu) (hg : Good R x.1.1 x.2) (h1 : 1 ≤ x.2) (h2 : x.2 < R) (h : redS R mu x = some y) : Good R y.1.1 y.2 := by
  obtain ⟨s, k⟩ := x
  simp only at hg h1 h2 ha
  cases hf : fstJ (mu.1.getD k []) k with
  | some j =>
    cases ho : okQ (nthQ (mu.1.getD k []) j)
    · rw [redS_bad hf ho] at h; cases h
    · rw [redS_add hf ho] at h
      obtain ⟨s', h3, rfl⟩ := Option.map_eq_some_iff.1 h
      exact hg.lead ha (by omega) fun a b ha hb => bothA_lead h3 h2 ha (by omega)
  | none =>
    by_cases h3 : ordS mu k = 2
    · rw [redS_unknown hf h3] at h; cases h
    · by_cases h4 : ordS mu k = 0 ∨ ordS mu k = 1
      · rw [redS_good hf h4] at h; cases h
        intro s2 hs2 j hj
        simp only at hs2 hj
        rw [ha] at hs2
        cases hs2
        by_cases e : j = k
        · subst e; exact ⟨half_of_fst hf, fun _ => h4⟩
        · exact hg mu ha j (by omega)
      · rw [redS_swap hf h3 h4] at h; cases h
        show Good R (bothW R k (k - 1) s).1 (max 1 (k - 1))
        by_cases e : k = 1
        · subst e
          intro s2 hs2 j hj
          obtain rfl : j = 0 := by omega
          exact ⟨rfl, fun h => by omega⟩
        · have e2 : max 1 (k - 1) = k - 1 := by omega
          rw [e2]
          have hg2 : Good R s.1 (k - 1) := fun s2 hs2 j hj => hg s2 hs2 j (by omega)
          exact hg2.lead ha (by omega) fun a b ha hb => bothW_lead h2 ha (by omega)
theorem rdgF_good {R n : Nat} {x : RS} {s : LL} (hx : Ok2 R R x.1) (h1 : 1 ≤ x.2) (hR : x.2 ≤ R ∨ R = 0) (hg : Good R x.1.1 x.2) (h : rdgF R n x = some s) : Good R s.1 R := by
  induction n generalizing x with
  | zero =>
    rw [rdgF] at h
    split at h
    · cases h
    · cases h
      intro s2 hs2 j hj
      exact hg s2 hs2 j (by omega)
  | succ n ih =>
    by_cases h2 : x.2 < R
    · cases h3 : accF R x.1.1 R with
      | none => rw [rdgF_acc h2 h3] at h; cases h
      | some mu =>
        rw [rdgF_step h2 h3] at h
        obtain ⟨y, h4, h5⟩ := Option.bind_eq_some_iff.1 h
        obtain ⟨h6, h7, h8⟩ := redS_ok hx h1 h2 h4
        exact ih h6 h7 (.inl h8) (redS_good2 h3 hg h1 h2 h4) h5
    · rw [rdgF_end h2] at h; cases h
      intro s2 hs2 j hj
      exact hg s2 hs2 j (by omega)
theorem rdcF_good {s : List (List Q2) × List Q2} {k : Nat} (h : ∀ j, j < k → RowG s j) : rdcF s k = none := by
  induction k with
  | zero => rfl
  | succ k ih =>
    have h0 := ih fun j hj => h j (by omega)
    obtain ⟨h1, h2⟩ := h k (by omega)
    by_cases e : k = 0
    · subst e; exact rdcF_zero
    · rw [rdcF_ord (by omega) h0 h1, if_pos (h2 (by omega))]
/-- what the reduction ends with -/
theorem rdg_good {g : MX} {x : MX × MX} (hr : rdgO g = some x) : ∃ (R : Nat) (l : List Int), g.r = R ∧ R ≤ 6 ∧ x.1 = ⟨R, R, l⟩ ∧ l.length = R * R ∧ allNum l = true ∧ Good R l R := by
  cases hd : isDef g.r g.c g.l
  · rw [rdgO_no hd] at hr; cases hr
  · obtain ⟨_, R, e1, e2, hR, hlen, hn⟩ := isSq_nat (isDef_sq hd)
    obtain ⟨r, c, l⟩ := g
    simp only at e1 e2 hlen hn hd
    subst e1 e2
    rw [rdgO_yes hd] at hr
    obtain ⟨s, h1, rfl⟩ := Option.map_eq_some_iff.1 hr
    have ok : Ok2 R R ((l, idL R) : LL) := ⟨hlen, idL_length R, (allNum_iff _).2 hn, idL_num R⟩
    have ok2 := rdgF_ok (x := ((l, idL R), 1)) ok (Nat.le_refl _) h1
    have hg0 : Good R l 1 := fun s2 _ j hj => by
      obtain rfl : j = 0 := by omega
      exact ⟨rfl, fun h => by omega⟩
    have hR1 : (1 : Nat) ≤ R ∨ R = 0 := by omega
    have hg := rdgF_good (x := ((l, idL R), 1)) ok (Nat.le_refl _) hR1 hg0 h1
    exact ⟨R, s.1, rfl, hR, rfl, ok2.l1, ok2.n1, hg⟩
theorem rdcO_good {R : Nat} {l : List Int} (hg : Good R l R) (h : (rdcO ⟨R, R, l⟩).2 = true) : (rdcO ⟨R, R, l⟩).1 = true := by
  have hd : isDef R R l = true := by
    refine Classical.byContradiction fun hn => ?_
    have hn2 : isDef R R l = false := by simpa using hn
    rw [rdcO_no (g := ⟨R, R, l⟩) hn2] at h
    cases h
  have e := rdcO_yes (R := R) (l := l) hd
  generalize rdcO ⟨R, R, l⟩ = z at *
  cases ha : accF R l R with
  | none => rw [ha] at e; subst e; cases h
  | some s =>
    rw [ha] at e
    simp only [rdcF_good (hg s ha)] at e
    rw [e]
/-- it is reduced, if that can be told -/
theorem rdg_reduced {g : MX} {x : MX × MX} (hr : rdgO g = some x) : (rdcO x.1).2 = true → (rdcO x.1).1 = true := by
  obtain ⟨R, l, _, _, e, _, _, hg⟩ := rdg_good hr
  rw [e]
  exact rdcO_good hg
end Go.Proofs.YtfilbjbogggaoaaGreat

/- Plain: the first vector of a reduced form is not much longer than the shortest one. -/
namespace Go.Proofs.YtfilbjbogggaoaaGreat
set_option linter.unusedSimpArgs false
set_option linter.unusedVariables false
open Go.RowKit

theorem div_le_div {a b c d : Rat} (hb : 0 < b) (hd : 0 < d) (h : a * d ≤ c * b) : a / b ≤ c / d := by
  have e1 : a / b = (a * d) * (b * d)⁻¹ := by grind
  have e2 : c / d = (c * b) * (b * d)⁻¹ := by grind
  rw [e1, e2]
  exact Rat.mul_le_mul_of_nonneg_right h (by have := Rat.inv_pos.2 (Rat.mul_pos hb hd); grind)
theorem cmpQ_ge {a b : Q2} (h : cmpQ a b = 0 ∨ cmpQ a b = 1) : okQ a = true ∧ okQ b = true ∧ rv b ≤ rv a := by
  unfold cmpQ at h
  split at h
  · rename_i hh
    simp only [Bool.and_eq_true] at hh
    have da := okQ_den hh.1
    have db := okQ_den hh.2
    refine ⟨hh.1, hh.2, ?_⟩
    have hle : b.1 * a.2 ≤ a.1 * b.2 := by
      split at h
      · omega
      · split at h <;> omega
    unfold rv
    refine div_le_div db da ?_
    rw [← Rat.intCast_mul, ← Rat.intCast_mul]
    exact Rat.intCast_le_intCast.2 hle
  · omega
theorem halfR_all {row : List Q2} {j : Nat} (h : halfR row j = none) : ∀ t, t < j → okQ (nthQ row t) = true ∧ 2 * absI (nthQ row t).1 ≤ (nthQ row t).2 := by
  induction j with
  | zero => intro t ht; omega
  | succ j ih =>
    rw [halfR] at h
    cases hj : halfR row j with
    | some k => rw [hj] at h; cases h
    | none =>
      rw [hj] at h
      simp only at h
      intro t ht
      by_cases e : t = j
      · subst e
        cases ho : okQ (nthQ row t)
        · rw [ho] at h; simp at h
        · rw [ho] at h
          refine ⟨rfl, ?_⟩
          refine Classical.byContradiction fun hn => ?_
          have hlt : (nthQ row t).2 < 2 * absI (nthQ row t).1 := by omega
          simp [hlt] at h
      · exact ih hj t (by omega)
theorem half_sq {q : Q2} (h : okQ q = true) (h2 : 2 * absI q.1 ≤ q.2) : rv q * rv q ≤ 1 / 4 := by
  have d := okQ_den h
  have h3 : -q.2 ≤ 2 * q.1 ∧ 2 * q.1 ≤ q.2 := by unfold absI at h2; split at h2 <;> omega
  have h4 : (2 * q.1) * (2 * q.1) ≤ q.2 * q.2 := by
    have := Int.mul_nonneg (show 0 ≤ q.2 - 2 * q.1 by omega) (show 0 ≤ q.2 + 2 * q.1 by omega)
    grind
  have h5 : ((2 * q.1 * (2 * q.1) : Int) : Rat) ≤ ((q.2 * q.2 : Int) : Rat) := Rat.intCast_le_intCast.2 h4
  rw [Rat.intCast_mul, Rat.intCast_mul, Rat.intCast_mul] at h5
  have h6 : ((2 : Int) : Rat) = 2 := rfl
  rw [h6] at h5
  have e : rv q * rv q = ((q.1 : Rat) * q.1) / ((q.2 : Rat) * q.2) := by unfold rv; grind
  rw [e]
  refine div_le_div (Rat.mul_pos d d) (by grind) ?_
  grind
/-- the squares of the orthogonal vectors of a reduced form fall by half at most -/
theorem RowG.fall {s : List (List Q2) × List Q2} {k : Nat} (hk : 0 < k) (h : RowG s k) (hp : okQ (nthQ s.2 (k - 1)) = true ∧ 0 < (nthQ s.2 (k - 1)).1) : sqV s (k - 1) ≤ 2 * sqV s k := by
  obtain ⟨h1, h2⟩ := h
  obtain ⟨_, h4, h5⟩ := cmpQ_ge (h2 hk)
  obtain ⟨m1, m2, m3⟩ := mulQ_val h4
  obtain ⟨_, a2, a3⟩ := addQ_val m1
  obtain ⟨n1, n2⟩ := negQ_val a2
  obtain ⟨_, _, m4⟩ := mulQ_val n1
  obtain ⟨o1, o2⟩ := halfR_all h1 (k - 1) (by omega)
  have hsq := half_sq o1 o2
  have hpos := rv_pos hp.1 hp.2
  rw [m3, a3, n2, m4] at h5
  have h34 : rv (3, 4) = 3 / 4 := by unfold rv; rfl
  rw [h34] at h5
  unfold sqV
  have h6 : 0 ≤ (1 / 4 - rv (nthQ (s.1.getD k []) (k - 1)) * rv (nthQ (s.1.getD k []) (k - 1))) * rv (nthQ s.2 (k - 1)) := Rat.mul_nonneg (by grind) (by grind)
  grind
theorem fall_all {s : List (List Q2) × List Q2} {R : Nat} (hg : ∀ j, j < R → RowG s j) (hp : ∀ i, i < R → okQ (nthQ s.2 i) = true ∧ 0 < (nthQ s.2 i).1) : ∀ k, k < R → sqV s 0 ≤ ((2 ^ k : Nat) : Rat) * sqV s k
  | 0, _ => by
    show sqV s 0 ≤ ((1 : Nat) : Rat) * sqV s 0
    have : ((1 : Nat) : Rat) = 1 := rfl
    rw [this]; grind
  | k + 1, hk => by
    have h1 := fall_all hg hp k (by omega)
    have h2 := (hg (k + 1) hk).fall (by omega) (hp k (by omega))
    simp only [Nat.add_sub_cancel] at h2
    have h3 : (0 : Rat) ≤ ((2 ^ k : Nat) : Rat) := Rat.natCast_nonneg
    have h4 := Rat.mul_le_mul_of_nonneg_left h2 h3
    have h5 : ((2 ^ (k + 1) : Nat) : Rat) = ((2 ^ k : Nat) : Rat) * 2 := by rw [Nat.pow_succ, Rat.natCast_mul]; rfl
    rw [h5]
    grind
theorem last_ne {R : Nat} {v : Nat → Int} (h : ∃ i, i < R ∧ v i ≠ 0) : ∃ k, k < R ∧ v k ≠ 0 ∧ ∀ j, k < j → j < R → v j = 0 := by
  induction R with
  | zero => obtain ⟨i, hi, _⟩ := h; omega
  | succ R ih =>
    by_cases e : v R = 0
    · obtain ⟨i, hi, hne⟩ := h
      have hiR : i ≠ R := fun h => hne (by rw [h]; exact e)
      obtain ⟨k, h1, h2, h3⟩ := ih ⟨i, by omega, hne⟩
      refine ⟨k, by omega, h2, fun j hj hj2 => ?_⟩
      by_cases e2 : j = R
      · rw [e2]; exact e
      · exact h3 j hj (by omega)
    · exact ⟨R, by omega, e, fun j h1 h2 => by omega⟩
theorem one_sq {x : Int} (h : x ≠ 0) : (1 : Rat) ≤ (x : Rat) * x := by
  rw [← Rat.intCast_mul]
  have : (1 : Int) ≤ x * x := by
    rcases Int.lt_or_gt_of_ne h with e | e
    · have := Int.mul_pos_of_neg_of_neg e e; omega
    · have := Int.mul_pos e e; omega
  exact Rat.intCast_le_intCast.2 this
/-- the first square is at most 2^(R-1) times a value -/
theorem lll_bound {R : Nat} {l : List Int} {s : List (List Q2) × List Q2} (ha : accF R l R = some s) (hg : Good R l R) (hs : ∀ i j, i < R → j < R → nth l (i * R + j) = nth l (j * R + i)) {v : Nat → Int} (hv : ∃ i, i < R ∧ v i ≠ 0) : nth l 0 ≤ qf R (fnOf R l) v * ((2 ^ (R - 1) : Nat) : Int) := by
  have V := accF_val ha
  obtain ⟨k, hk, hne, hz⟩ := last_ne hv
  have e0 : (nth l 0 : Rat) = sqV s 0 := by
    have := V.diag 0 (by omega)
    rw [Nat.zero_mul, sumR] at this
    rw [show (0 : Nat) + 0 = 0 from rfl] at this
    rw [this]; unfold sqV; grind
  have eo : ordV R s v k = v k := by
    rw [ordV_cell hk, sumR_zero fun t ht => by
      rw [hz (k + 1 + t) (by omega) (by omega)]
      have : ((0 : Int) : Rat) = 0 := rfl
      rw [this]; grind]
    grind
  have hsk := V.sq k hk
  have hpk := rv_pos hsk.1 hsk.2
  have h1 : sqV s k ≤ (qf R (fnOf R l) v : Rat) := by
    rw [V.squares hs v]
    have h2 := sumR_ge (n := R) (k := k) (f := fun k => sqV s k * (ordV R s v k * ordV R s v k)) (fun i hi => by
      have h3 := V.sq i hi
      have h4 := rv_pos h3.1 h3.2
      exact Rat.mul_nonneg (by unfold sqV; grind) (sq_nonneg _)) hk
    rw [eo] at h2
    have h5 := Rat.mul_le_mul_of_nonneg_left (one_sq hne) (show 0 ≤ sqV s k by unfold sqV; grind)
    grind
  have h2 := fall_all (hg s ha) V.sq k hk
  have h3 : ((2 ^ k : Nat) : Rat) ≤ ((2 ^ (R - 1) : Nat) : Rat) := Rat.natCast_le_natCast.2 (Nat.pow_le_pow_right (by omega) (by omega))
  have h4 := Rat.mul_le_mul_of_nonneg_left h1 (show (0 : Rat) ≤ ((2 ^ k : Nat) : Rat) from Rat.natCast_nonneg)
  have hq : 0 ≤ (qf R (fnOf R l) v : Rat) := by unfold sqV at h1; grind
  have h5 := Rat.mul_le_mul_of_nonneg_right h3 hq
  have h6 : (nth l 0 : Rat) ≤ ((qf R (fnOf R l) v * ((2 ^ (R - 1) : Nat) : Int) : Int) : Rat) := by
    rw [Rat.intCast_mul, e0]
    have : (((2 ^ (R - 1) : Nat) : Int) : Rat) = ((2 ^ (R - 1) : Nat) : Rat) := rfl
    rw [this]
    grind
  exact Rat.intCast_le_intCast.1 h6
end Go.Proofs.YtfilbjbogggaoaaGreat
