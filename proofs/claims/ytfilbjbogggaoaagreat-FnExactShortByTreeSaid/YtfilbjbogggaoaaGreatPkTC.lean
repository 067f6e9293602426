/- Contracts and lemmas, put together. -/
import Derived.Deep.RegionHeld3
import Derived.Test.YtfilbjbogggaoaaGreatPkB
import Derived.Test.YtfilbjbogggaoaaGreatPkCS
import Derived.Test.YtfilbjbogggaoaaGreatPkD
import Derived.Test.YtfilbjbogggaoaaGreatPkDrS
import Derived.Test.YtfilbjbogggaoaaGreatPkTB
import Derived.Test.YtfilbjbogggaoaaGreatPkTS
import Derived.Test.YtfilbjbogggaoaaGreatPkVS
import Derived.Test.YtfilbjbogggaoaaGreatPkXS
/- Plain: ratios as rational numbers; sums of rational numbers. -/
namespace Go.Proofs.YtfilbjbogggaoaaGreat
set_option linter.unusedSimpArgs false
set_option linter.unusedVariables false
open Go.RowKit

/-- a ratio's value -/
def rv (q : Q2) : Rat := (q.1 : Rat) / (q.2 : Rat)
theorem cast_pos {a : Int} (h : 0 < a) : (0 : Rat) < a := by
  have := Rat.intCast_lt_intCast.2 h
  simpa using this
theorem cast_ne {a : Int} (h : a ≠ 0) : (a : Rat) ≠ 0 := by
  rcases Int.lt_or_gt_of_ne h with e | e
  · have := cast_pos (a := -a) (by omega)
    rw [Rat.intCast_neg] at this
    grind
  · have := cast_pos e
    grind
theorem okQ_den {q : Q2} (h : okQ q = true) : (0 : Rat) < q.2 := cast_pos (by have := okQ_bd h; omega)
theorem okQ_no : okQ (0, 0) = false := isRat_zero
theorem keepQ_ok {a b : Int} (h : okQ (keepQ a b) = true) : keepQ a b = (a, b) := by
  unfold keepQ at *
  cases hr : isRat a b
  · rw [hr] at h; simp only [Bool.false_eq_true, if_false] at h; rw [okQ_no] at h; cases h
  · rfl
theorem div_same {n d g : Int} (hg : 0 < g) (hn : g ∣ n) (hd : g ∣ d) (h : d ≠ 0) : ((n.tdiv g : Int) : Rat) / ((d.tdiv g : Int) : Rat) = (n : Rat) / d := by
  obtain ⟨a, rfl⟩ := hn
  obtain ⟨b, rfl⟩ := hd
  rw [Int.mul_tdiv_cancel_left _ (by omega), Int.mul_tdiv_cancel_left _ (by omega)]
  have hb : b ≠ 0 := fun e => h (by rw [e]; simp)
  have h1 := cast_ne hb
  have h2 := cast_ne (a := g) (by omega)
  rw [Rat.intCast_mul, Rat.intCast_mul]
  grind
theorem gcdI_dvd (n d : Int) : gcdI n d ∣ n ∧ gcdI n d ∣ d := ⟨Int.gcd_dvd_left _ _, Int.gcd_dvd_right _ _⟩
theorem mkQ_val {n d : Int} (hd : d ≠ 0) (h : okQ (mkQ n d) = true) : rv (mkQ n d) = (n : Rat) / d := by
  have hg := gcdI_pos (a := n) hd
  obtain ⟨g1, g2⟩ := gcdI_dvd n d
  rcases Int.lt_or_gt_of_ne hd with e | e
  · rw [mkQ_neg e] at h ⊢
    rw [keepQ_ok h]
    show (((-n).tdiv (gcdI n d) : Int) : Rat) / _ = _
    rw [div_same hg (Int.dvd_neg.2 g1) (Int.dvd_neg.2 g2) (by omega), Rat.intCast_neg, Rat.intCast_neg]
    have := cast_ne hd
    grind
  · rw [mkQ_pos e] at h ⊢
    rw [keepQ_ok h]
    exact div_same hg g1 g2 (by omega)
theorem addQ_val {a b : Q2} (h : okQ (addQ a b) = true) : okQ a = true ∧ okQ b = true ∧ rv (addQ a b) = rv a + rv b := by
  unfold addQ at *
  split at h
  · rename_i hh
    simp only [Bool.and_eq_true] at hh
    have h1 := okQ_bd hh.1
    have h2 := okQ_bd hh.2
    have d1 := okQ_den hh.1
    have d2 := okQ_den hh.2
    refine ⟨hh.1, hh.2, ?_⟩
    rw [if_pos (by simp [hh.1, hh.2]), mkQ_val (Int.mul_ne_zero (by omega) (by omega)) h]
    unfold rv
    rw [Rat.intCast_add, Rat.intCast_mul, Rat.intCast_mul, Rat.intCast_mul]
    grind
  · rw [okQ_no] at h; cases h
theorem mulQ_val {a b : Q2} (h : okQ (mulQ a b) = true) : okQ a = true ∧ okQ b = true ∧ rv (mulQ a b) = rv a * rv b := by
  unfold mulQ at *
  split at h
  · rename_i hh
    simp only [Bool.and_eq_true] at hh
    have h1 := okQ_bd hh.1
    have h2 := okQ_bd hh.2
    have d1 := okQ_den hh.1
    have d2 := okQ_den hh.2
    refine ⟨hh.1, hh.2, ?_⟩
    rw [if_pos (by simp [hh.1, hh.2]), mkQ_val (Int.mul_ne_zero (by omega) (by omega)) h]
    unfold rv
    rw [Rat.intCast_mul, Rat.intCast_mul]
    grind
  · rw [okQ_no] at h; cases h
theorem negQ_val {a : Q2} (h : okQ (negQ a) = true) : okQ a = true ∧ rv (negQ a) = - rv a := by
  unfold negQ at *
  split at h
  · rename_i hh
    refine ⟨hh, ?_⟩
    have d1 := okQ_den hh
    rw [if_pos hh]
    unfold rv
    simp only [Rat.intCast_neg]
    grind
  · rw [okQ_no] at h; cases h
theorem negQ_ok {a : Q2} (h : okQ a = true) : okQ (negQ a) = true := by
  unfold negQ; rw [if_pos h]
  have h2 := h
  unfold okQ at *
  rw [isRat_iff] at *
  simp only
  refine ⟨h2.1, h2.2.1, by omega, by omega, ?_⟩
  have := h2.2.2.2.2
  unfold gcdI at *
  rwa [Int.neg_gcd]
theorem divQ_val {a b : Q2} (h : okQ (divQ a b) = true) : okQ a = true ∧ okQ b = true ∧ b.1 ≠ 0 ∧ rv (divQ a b) = rv a / rv b := by
  unfold divQ at *
  split at h
  · rename_i hh
    simp only [Bool.and_eq_true, bne_iff_ne] at hh
    obtain ⟨⟨o1, o2⟩, o3⟩ := hh
    have h1 := okQ_bd o1
    have h2 := okQ_bd o2
    have d1 := okQ_den o1
    have d2 := okQ_den o2
    have d3 := cast_ne o3
    refine ⟨o1, o2, o3, ?_⟩
    rw [if_pos (by simp [o1, o2, o3]), mkQ_val (Int.mul_ne_zero (by omega) o3) h]
    unfold rv
    rw [Rat.intCast_mul, Rat.intCast_mul]
    grind
  · rw [okQ_no] at h; cases h
theorem rv_pos {q : Q2} (h : okQ q = true) (hp : 0 < q.1) : 0 < rv q := by
  unfold rv
  rw [Rat.div_def]
  exact Rat.mul_pos (cast_pos hp) (Rat.inv_pos.2 (okQ_den h))
theorem rv_zero {q : Q2} (hp : q.1 = 0) : rv q = 0 := by
  unfold rv; rw [hp]; grind
theorem rv_neg {q : Q2} (h : okQ q = true) (hp : q.1 < 0) : rv q < 0 := by
  have := rv_pos (q := negQ q) (negQ_ok h) (by unfold negQ; rw [if_pos h]; simp only; omega)
  rw [(negQ_val (negQ_ok h)).2] at this
  grind
theorem rv_nonneg {q : Q2} (h : okQ q = true) (hp : 0 ≤ q.1) : 0 ≤ rv q := by
  rcases Int.lt_or_eq_of_le hp with e | e
  · have := rv_pos h e; grind
  · rw [rv_zero e.symm]; exact Rat.le_refl
theorem rv_sign {q : Q2} (h : okQ q = true) : (0 ≤ rv q ↔ 0 ≤ q.1) ∧ (0 < rv q ↔ 0 < q.1) := by
  rcases Int.lt_or_le q.1 0 with e | e
  · have := rv_neg h e
    exact ⟨⟨fun h => by grind, fun h => by omega⟩, ⟨fun h => by grind, fun h => by omega⟩⟩
  · have h2 := rv_nonneg h e
    refine ⟨⟨fun _ => e, fun _ => h2⟩, ⟨fun h3 => ?_, fun h3 => rv_pos h h3⟩⟩
    rcases Int.lt_or_eq_of_le e with e2 | e2
    · exact e2
    · rw [rv_zero e2.symm] at h3; grind
theorem rv_whole (n : Int) : rv (n, 1) = n := by unfold rv; simp only; grind

/-! ### sums -/
def sumR : Nat → (Nat → Rat) → Rat
  | 0, _ => 0
  | n + 1, f => sumR n f + f n
theorem sumR_congr {n : Nat} {f g : Nat → Rat} (h : ∀ i, i < n → f i = g i) : sumR n f = sumR n g := by
  induction n with
  | zero => rfl
  | succ n ih => rw [sumR, sumR, ih (fun i hi => h i (by omega)), h n (by omega)]
theorem sumR_zero {n : Nat} {f : Nat → Rat} (h : ∀ i, i < n → f i = 0) : sumR n f = 0 := by
  induction n with
  | zero => rfl
  | succ n ih => rw [sumR, ih (fun i hi => h i (by omega)), h n (by omega)]; grind
theorem sumR_add (n : Nat) (f g : Nat → Rat) : sumR n (fun i => f i + g i) = sumR n f + sumR n g := by
  induction n with
  | zero => simp only [sumR]; grind
  | succ n ih => simp only [sumR, ih]; grind
theorem sumR_mul (n : Nat) (c : Rat) (f : Nat → Rat) : sumR n (fun i => c * f i) = c * sumR n f := by
  induction n with
  | zero => simp only [sumR]; grind
  | succ n ih => simp only [sumR, ih]; grind
theorem sumR_mulr (n : Nat) (c : Rat) (f : Nat → Rat) : sumR n (fun i => f i * c) = sumR n f * c := by
  induction n with
  | zero => simp only [sumR]; grind
  | succ n ih => simp only [sumR, ih]; grind
theorem sumR_swap (n m : Nat) (f : Nat → Nat → Rat) : sumR n (fun i => sumR m fun j => f i j) = sumR m (fun j => sumR n fun i => f i j) := by
  induction n with
  | zero => simp only [sumR]; exact (sumR_zero fun _ _ => rfl).symm
  | succ n ih => simp only [sumR, ih]; rw [← sumR_add]
theorem sumR_cut {n k : Nat} {f : Nat → Rat} (hk : k ≤ n) (h : ∀ i, k ≤ i → i < n → f i = 0) : sumR n f = sumR k f := by
  induction n with
  | zero => obtain rfl : k = 0 := by omega
            rfl
  | succ n ih =>
    by_cases e : k = n + 1
    · rw [e]
    · rw [sumR, ih (by omega) (fun i h1 h2 => h i h1 (by omega)), h n (by omega) (by omega)]; grind
theorem sumR_split (n m : Nat) (f : Nat → Rat) : sumR (n + m) f = sumR n f + sumR m (fun i => f (n + i)) := by
  induction m with
  | zero => simp only [sumR, Nat.add_zero]; grind
  | succ m ih => rw [← Nat.add_assoc, sumR, ih, sumR]; grind
theorem sumR_nonneg {n : Nat} {f : Nat → Rat} (h : ∀ i, i < n → 0 ≤ f i) : 0 ≤ sumR n f := by
  induction n with
  | zero => exact Rat.le_refl
  | succ n ih =>
    have h1 := ih fun i hi => h i (by omega)
    have h2 := h n (by omega)
    rw [sumR]; grind
theorem sumR_ge {n k : Nat} {f : Nat → Rat} (h : ∀ i, i < n → 0 ≤ f i) (hk : k < n) : f k ≤ sumR n f := by
  induction n with
  | zero => omega
  | succ n ih =>
    have h1 := sumR_nonneg fun i hi => h i (by omega : i < n + 1)
    rw [sumR]
    by_cases e : k = n
    · subst e
      have := sumR_nonneg fun i (hi : i < k) => h i (by omega)
      grind
    · have := ih (fun i hi => h i (by omega)) (by omega)
      have := h n (by omega)
      grind
theorem sumR_cast (n : Nat) (f : Nat → Int) : ((sumN n f : Int) : Rat) = sumR n fun i => (f i : Rat) := by
  induction n with
  | zero => simp [sumN, sumR]
  | succ n ih => rw [sumN, sumR, Rat.intCast_add, ih]
theorem sq_nonneg (a : Rat) : 0 ≤ a * a := by
  rcases Rat.le_total (a := 0) (b := a) with h | h
  · exact Rat.mul_nonneg h h
  · have := Rat.mul_nonneg (show 0 ≤ -a by grind) (show 0 ≤ -a by grind); grind
end Go.Proofs.YtfilbjbogggaoaaGreat

/- Plain: the account of a symmetric form splits it into squares. -/
namespace Go.Proofs.YtfilbjbogggaoaaGreat
set_option linter.unusedSimpArgs false
set_option linter.unusedVariables false
open Go.RowKit

theorem muX_congr {x0 : Int} {sq row oth sq' row' oth' : List Q2} {k : Nat} (h : ∀ t, t < k → nthQ row t = nthQ row' t ∧ nthQ oth t = nthQ oth' t ∧ nthQ sq t = nthQ sq' t) : muX x0 sq row oth k = muX x0 sq' row' oth' k := by
  induction k with
  | zero => rfl
  | succ k ih =>
    obtain ⟨h1, h2, h3⟩ := h k (by omega)
    rw [muX, muX, ih fun t ht => h t (by omega), h1, h2, h3]
theorem muX_val {x0 : Int} {sq row oth : List Q2} {k : Nat} (h : okQ (muX x0 sq row oth k) = true) : (∀ t, t < k → okQ (nthQ row t) = true ∧ okQ (nthQ oth t) = true ∧ okQ (nthQ sq t) = true) ∧ (x0 : Rat) = rv (muX x0 sq row oth k) + sumR k fun t => rv (nthQ row t) * rv (nthQ oth t) * rv (nthQ sq t) := by
  induction k with
  | zero =>
    refine ⟨fun t ht => by omega, ?_⟩
    show (x0 : Rat) = rv (x0, 1) + 0
    rw [rv_whole]; grind
  | succ k ih =>
    rw [muX] at h ⊢
    obtain ⟨h1, h2, h3⟩ := addQ_val h
    obtain ⟨h4, h5⟩ := negQ_val h2
    obtain ⟨h6, h7, h8⟩ := mulQ_val h4
    obtain ⟨h9, h10, h11⟩ := mulQ_val h6
    obtain ⟨i1, i2⟩ := ih h1
    refine ⟨fun t ht => ?_, ?_⟩
    · by_cases e : t = k
      · subst e; exact ⟨h9, h10, h7⟩
      · exact i1 t (by omega)
    · rw [h3, h5, h8, h11, sumR]
      grind
theorem rowF_cells {C : Nat} {l : List Int} {mu : List (List Q2)} {sq : List Q2} {i j : Nat} {row : List Q2} (h : rowF C l mu sq i j = some row) : ∀ t, t < j → nthQ row t = divQ (cofX C l mu sq i row t) (nthQ sq t) ∧ okQ (cofX C l mu sq i row t) = true := by
  induction j generalizing row with
  | zero => intro t ht; omega
  | succ j ih =>
    rw [rowF] at h
    obtain ⟨r, h1, h2⟩ := Option.bind_eq_some_iff.1 h
    have hl := rowF_len h1
    split at h2
    · rename_i ho
      cases h2
      have hc : ∀ t, t ≤ j → cofX C l mu sq i (r ++ [divQ (cofX C l mu sq i r j) (nthQ sq j)]) t = cofX C l mu sq i r t := fun t ht => by
        unfold cofX
        exact muX_congr fun u hu => ⟨nthQ_append_left _ _ _ (by omega), rfl, rfl⟩
      intro t ht
      rw [hc t (by omega)]
      by_cases e : t = j
      · subst e
        refine ⟨?_, ho⟩
        have := nthQ_append_last r (divQ (cofX C l mu sq i r t) (nthQ sq t))
        rwa [hl] at this
      · rw [nthQ_append_left _ _ _ (by omega)]
        exact ih h1 t (by omega)
    · cases h2
/-- what the account says of a form's first n rows -/
structure AccV (C : Nat) (l : List Int) (n : Nat) (s : List (List Q2) × List Q2) : Prop where
  sq : ∀ i, i < n → okQ (nthQ s.2 i) = true ∧ 0 < (nthQ s.2 i).1
  row : ∀ i j, i < n → j < i → okQ (nthQ (s.1.getD i []) j) = true
  cell : ∀ i j, i < n → j < i → (nth l (i * C + j) : Rat) = rv (nthQ (s.1.getD i []) j) * rv (nthQ s.2 j) + sumR j fun t => rv (nthQ (s.1.getD i []) t) * rv (nthQ (s.1.getD j []) t) * rv (nthQ s.2 t)
  diag : ∀ i, i < n → (nth l (i * C + i) : Rat) = rv (nthQ s.2 i) + sumR i fun t => rv (nthQ (s.1.getD i []) t) * rv (nthQ (s.1.getD i []) t) * rv (nthQ s.2 t)
theorem getD_app_left {α : Type} (a b : List (List α)) (i : Nat) (h : i < a.length) : (a ++ b).getD i [] = a.getD i [] := by
  simp only [List.getD_eq_getElem?_getD]
  rw [List.getElem?_append_left h]
theorem getD_app_last {α : Type} (a : List (List α)) (x : List α) : (a ++ [x]).getD a.length [] = x := by
  simp [List.getD_eq_getElem?_getD]
theorem accF_val {C : Nat} {l : List Int} {n : Nat} {s : List (List Q2) × List Q2} (h : accF C l n = some s) : AccV C l n s := by
  induction n generalizing s with
  | zero => exact ⟨fun i hi => by omega, fun i j hi => by omega, fun i j hi => by omega, fun i hi => by omega⟩
  | succ n ih =>
    rw [accF] at h
    obtain ⟨⟨mu, sq⟩, h1, h2⟩ := Option.bind_eq_some_iff.1 h
    have V := ih h1
    have I := accF_inv h1
    unfold accS at h2
    obtain ⟨row, h3, h4⟩ := Option.bind_eq_some_iff.1 h2
    simp only at h3 h4
    split at h4
    rotate_left
    · cases h4
    rename_i hh
    simp only [Bool.and_eq_true, decide_eq_true_eq] at hh
    obtain ⟨hok, hpos⟩ := hh
    simp only [Option.some.injEq] at h4
    subst h4
    have l1 : mu.length = n := I.l1
    have l2 : sq.length = n := I.l2
    have hrl := rowF_len h3
    obtain ⟨last, hlast⟩ : ∃ q, q = lastX C l sq n row := ⟨_, rfl⟩
    rw [← hlast] at hok hpos ⊢
    have a1 : ∀ i, i < n → (mu ++ [row]).getD i [] = mu.getD i [] := fun i hi => getD_app_left _ _ _ (by omega)
    have a2 : (mu ++ [row]).getD n [] = row := by rw [← l1]; exact getD_app_last _ _
    have a3 : ∀ i, i < n → nthQ (sq ++ [last]) i = nthQ sq i := fun i hi => nthQ_append_left _ _ _ (by omega)
    have a4 : nthQ (sq ++ [last]) n = last := by rw [← l2]; exact nthQ_append_last _ _
    have hm := muX_val (x0 := nth l (n * C + n)) (sq := sq) (row := row) (oth := row) (k := n) (by rw [hlast] at hok; exact hok)
    have hc := rowF_cells h3
    refine ⟨fun i hi => ?_, fun i j hi hj => ?_, fun i j hi hj => ?_, fun i hi => ?_⟩
    · by_cases e : i < n
      · simp only [a3 i e]; exact V.sq i e
      · obtain rfl : i = n := by omega
        simp only [a4]; exact ⟨hok, hpos⟩
    · by_cases e : i < n
      · simp only [a1 i e]; exact V.row i j e hj
      · obtain rfl : i = n := by omega
        simp only [a2]; exact (hm.1 j hj).1
    · by_cases e : i < n
      · simp only [a1 i e, a1 j (by omega), a3 j (by omega)]
        rw [V.cell i j e hj]
        congr 1
        exact sumR_congr fun t ht => by simp only [a3 t (by omega)]
      · obtain rfl : i = n := by omega
        simp only [a2, a1 j hj, a3 j hj]
        obtain ⟨c1, c2⟩ := hc j hj
        have ho := (hm.1 j hj).1
        rw [c1] at ho
        obtain ⟨d1, d2, d3, d4⟩ := divQ_val ho
        have hv := (muX_val (x0 := nth l (i * C + j)) (sq := sq) (row := row) (oth := mu.getD j []) (k := j) c2).2
        have hcx : cofX C l mu sq i row j = muX (nth l (i * C + j)) sq row (mu.getD j []) j := rfl
        rw [hv, ← hcx, c1, d4]
        have hne : rv (nthQ sq j) ≠ 0 := by have := rv_pos d2 (V.sq j hj).2; grind
        have e5 : (sumR j fun t => rv (nthQ row t) * rv (nthQ (mu.getD j []) t) * rv (nthQ (sq ++ [last]) t)) = sumR j fun t => rv (nthQ row t) * rv (nthQ (mu.getD j []) t) * rv (nthQ sq t) := sumR_congr fun t ht => by simp only [a3 t (by omega)]
        rw [e5]
        grind
    · by_cases e : i < n
      · simp only [a1 i e, a3 i e]
        rw [V.diag i e]
        congr 1
        exact sumR_congr fun t ht => by simp only [a3 t (by omega)]
      · obtain rfl : i = n := by omega
        simp only [a2, a4]
        rw [hm.2]
        have : lastX C l sq i row = muX (nth l (i * C + i)) sq row row i := rfl
        rw [← this, ← hlast]
        congr 1
        exact sumR_congr fun t ht => by simp only [a3 t (by omega)]
/-- the coefficients as a matrix -/
def mM (s : List (List Q2) × List Q2) (i k : Nat) : Rat := if k < i then rv (nthQ (s.1.getD i []) k) else if i = k then 1 else 0
def sqV (s : List (List Q2) × List Q2) (k : Nat) : Rat := rv (nthQ s.2 k)
theorem AccV.low {R : Nat} {l : List Int} {s : List (List Q2) × List Q2} (V : AccV R l R s) {i j : Nat} (hi : i < R) (hj : j ≤ i) : (nth l (i * R + j) : Rat) = sumR R fun k => mM s i k * mM s j k * sqV s k := by
  rw [sumR_cut (k := j + 1) (by omega) fun k h1 h2 => by
    have : mM s j k = 0 := by unfold mM; rw [if_neg (by omega), if_neg (by omega)]
    rw [this]; grind]
  rw [sumR]
  have e1 : mM s j j = 1 := by unfold mM; rw [if_neg (by omega), if_pos rfl]
  have e2 : (sumR j fun k => mM s i k * mM s j k * sqV s k) = sumR j fun t => rv (nthQ (s.1.getD i []) t) * rv (nthQ (s.1.getD j []) t) * rv (nthQ s.2 t) := sumR_congr fun t ht => by
    unfold mM sqV; rw [if_pos (by omega), if_pos ht]
  rw [e1, e2]
  by_cases e : j < i
  · rw [V.cell i j hi e]
    have e3 : mM s i j = rv (nthQ (s.1.getD i []) j) := by unfold mM; rw [if_pos e]
    rw [e3]; unfold sqV; grind
  · obtain rfl : j = i := by omega
    rw [V.diag j hi, e1]; unfold sqV; grind
theorem AccV.all {R : Nat} {l : List Int} {s : List (List Q2) × List Q2} (V : AccV R l R s) (hs : ∀ i j, i < R → j < R → nth l (i * R + j) = nth l (j * R + i)) {i j : Nat} (hi : i < R) (hj : j < R) : (nth l (i * R + j) : Rat) = sumR R fun k => mM s i k * mM s j k * sqV s k := by
  by_cases e : j ≤ i
  · exact V.low hi e
  · rw [hs i j hi hj, V.low hj (by omega)]
    exact sumR_congr fun k _ => by grind
/-- the k-th of the orthogonal coordinates of a vector -/
def ordV (R : Nat) (s : List (List Q2) × List Q2) (v : Nat → Int) (k : Nat) : Rat := sumR R fun i => (v i : Rat) * mM s i k
/-- the form is a sum of squares -/
theorem AccV.squares {R : Nat} {l : List Int} {s : List (List Q2) × List Q2} (V : AccV R l R s) (hs : ∀ i j, i < R → j < R → nth l (i * R + j) = nth l (j * R + i)) (v : Nat → Int) : (qf R (fnOf R l) v : Rat) = sumR R fun k => sqV s k * (ordV R s v k * ordV R s v k) := by
  have e1 : (qf R (fnOf R l) v : Rat) = sumR R fun i => sumR R fun j => sumR R fun k => sqV s k * (((v i : Rat) * mM s i k) * ((v j : Rat) * mM s j k)) := by
    unfold qf
    rw [sumR_cast]
    refine sumR_congr fun i hi => ?_
    rw [sumR_cast]
    refine sumR_congr fun j hj => ?_
    rw [Rat.intCast_mul, Rat.intCast_mul]
    show (v i : Rat) * (nth l (i * R + j) : Rat) * (v j : Rat) = _
    rw [V.all hs hi hj, ← sumR_mul, ← sumR_mulr]
    exact sumR_congr fun k _ => by grind
  rw [e1]
  have e2 : ∀ i, (sumR R fun j => sumR R fun k => sqV s k * (((v i : Rat) * mM s i k) * ((v j : Rat) * mM s j k))) = sumR R fun k => sqV s k * ((v i : Rat) * mM s i k) * ordV R s v k := fun i => by
    rw [sumR_swap]
    refine sumR_congr fun k _ => ?_
    unfold ordV
    rw [← sumR_mul]
    exact sumR_congr fun j _ => by grind
  rw [sumR_congr fun i _ => e2 i, sumR_swap]
  refine sumR_congr fun k _ => ?_
  have e3 : (sumR R fun i => sqV s k * ((v i : Rat) * mM s i k) * ordV R s v k) = sumR R fun i => (sqV s k * ordV R s v k) * ((v i : Rat) * mM s i k) := sumR_congr fun i _ => by grind
  rw [e3, sumR_mul]
  show _ = sqV s k * (ordV R s v k * ordV R s v k)
  have : (sumR R fun i => (v i : Rat) * mM s i k) = ordV R s v k := rfl
  rw [this]; grind
/-- a coordinate is that cell and what the later ones add -/
theorem ordV_cell {R : Nat} {s : List (List Q2) × List Q2} {v : Nat → Int} {k : Nat} (hk : k < R) : ordV R s v k = (v k : Rat) + sumR (R - (k + 1)) fun t => (v (k + 1 + t) : Rat) * rv (nthQ (s.1.getD (k + 1 + t) []) k) := by
  unfold ordV
  have e : R = (k + 1) + (R - (k + 1)) := by omega
  have e2 : (sumR R fun i => (v i : Rat) * mM s i k) = sumR (k + 1 + (R - (k + 1))) fun i => (v i : Rat) * mM s i k := by rw [← e]
  rw [e2, sumR_split, sumR]
  have e3 : (sumR k fun i => (v i : Rat) * mM s i k) = 0 := sumR_zero fun i hi => by
    have : mM s i k = 0 := by unfold mM; rw [if_neg (by omega), if_neg (by omega)]
    rw [this]; grind
  have e4 : mM s k k = 1 := by unfold mM; rw [if_neg (by omega), if_pos rfl]
  have e5 : (sumR (R - (k + 1)) fun i => (v (k + 1 + i) : Rat) * mM s (k + 1 + i) k) = sumR (R - (k + 1)) fun t => (v (k + 1 + t) : Rat) * rv (nthQ (s.1.getD (k + 1 + t) []) k) := sumR_congr fun t ht => by
    have : mM s (k + 1 + t) k = rv (nthQ (s.1.getD (k + 1 + t) []) k) := by unfold mM; rw [if_pos (by omega)]
    rw [this]
  rw [e3, e4, e5]; grind
end Go.Proofs.YtfilbjbogggaoaaGreat

/- Plain: the search of short vectors cell by cell. -/
namespace Go.Proofs.YtfilbjbogggaoaaGreat
set_option linter.unusedSimpArgs false
set_option linter.unusedVariables false
open Go.RowKit

abbrev VS := List (List Int)
/-- what t of the later cells add to cell i -/
def cenQ (mu : List (List Q2)) (v : List Int) (i : Nat) : Nat → Q2
  | 0 => (0, 1)
  | t + 1 => addQ (cenQ mu v i t) (mulQ (wholeQ (nth v (i + 1 + t))) (nthQ (mu.getD (i + 1 + t) []) i))
/-- what is left of the bound when cell i is n -/
def restQ (left c s : Q2) (n : Int) : Q2 := addQ left (negQ (mulQ (mulQ (addQ (wholeQ n) c) (addQ (wholeQ n) c)) s))
theorem mulQ_comm (a b : Q2) : mulQ a b = mulQ b a := by
  unfold mulQ
  rw [Bool.and_comm (okQ a), Int.mul_comm a.1, Int.mul_comm a.2]
theorem okQ_whole {n : Int} (h : okQ (wholeQ n) = true) : -400000000 ≤ n ∧ n ≤ 400000000 := by
  have := okQ_bd h; unfold wholeQ at this; simp only at this; omega
theorem restQ_parts {left c s : Q2} {n : Int} (h : okQ (restQ left c s n) = true) : okQ left = true ∧ okQ c = true ∧ okQ s = true ∧ -400000000 ≤ n ∧ n ≤ 400000000 ∧ rv (restQ left c s n) = rv left - rv s * (((n : Rat) + rv c) * ((n : Rat) + rv c)) := by
  unfold restQ at *
  obtain ⟨h1, h2, h3⟩ := addQ_val h
  obtain ⟨h4, h5⟩ := negQ_val h2
  obtain ⟨h6, h7, h8⟩ := mulQ_val h4
  obtain ⟨h9, _, h10⟩ := mulQ_val h6
  obtain ⟨h11, h12, h13⟩ := addQ_val h9
  have hb := okQ_whole h11
  refine ⟨h1, h12, h7, hb.1, hb.2, ?_⟩
  have hw : rv (wholeQ n) = n := rv_whole n
  rw [h3, h5, h8, h10, h13, hw]
  grind
/-- one direction: from n on by st, what a cell's values add -/
inductive Swp (T : Int → Q2 → Option VS → Prop) (rest : Int → Q2) (st : Int) : Int → VS → Option VS → Prop
  | bad {n : Int} {out : VS} : okQ (rest n) = false ∨ 4000 < out.length → Swp T rest st n out none
  | stop {n : Int} {out : VS} : okQ (rest n) = true → out.length ≤ 4000 → (rest n).1 < 0 → Swp T rest st n out (some out)
  | fail {n : Int} {out : VS} : okQ (rest n) = true → out.length ≤ 4000 → 0 ≤ (rest n).1 → T n (rest n) none → Swp T rest st n out none
  | next {n : Int} {out more : VS} {r : Option VS} : okQ (rest n) = true → out.length ≤ 4000 → 0 ≤ (rest n).1 → T n (rest n) (some more) → Swp T rest st (n + st) (out ++ more) r → Swp T rest st n out r
theorem Swp.det {T : Int → Q2 → Option VS → Prop} {rest : Int → Q2} {st : Int} (hT : ∀ n q o o', T n q o → T n q o' → o = o') {n : Int} {out : VS} {r r' : Option VS} (h : Swp T rest st n out r) (h' : Swp T rest st n out r') : r = r' := by
  induction h with
  | bad hb =>
    cases h' with
    | bad => rfl
    | stop h1 h2 => rcases hb with hb | hb; (rw [h1] at hb; cases hb); omega
    | fail => rfl
    | next h1 h2 => rcases hb with hb | hb; (rw [h1] at hb; cases hb); omega
  | stop h1 h2 h3 =>
    cases h' with
    | bad hb => rcases hb with hb | hb; (rw [h1] at hb; cases hb); omega
    | stop => rfl
    | fail _ _ h4 => omega
    | next _ _ h4 => omega
  | fail h1 h2 h3 h4 =>
    cases h' with
    | bad => rfl
    | stop _ _ h5 => omega
    | fail => rfl
    | next _ _ _ h5 => have := hT _ _ _ _ h4 h5; cases this
  | next h1 h2 h3 h4 _ ih =>
    cases h' with
    | bad hb => rcases hb with hb | hb; (rw [h1] at hb; cases hb); omega
    | stop _ _ h5 => omega
    | fail _ _ _ h5 => have := hT _ _ _ _ h4 h5; cases this
    | next _ _ _ h5 h6 =>
      have := hT _ _ _ _ h4 h5
      cases this
      exact ih h6
/-- the vectors that go on with the cells of v from place k on -/
def TreeR (mu : List (List Q2)) (sq : List Q2) : Nat → List Int → Q2 → Option VS → Prop
  | 0, v, _, o => o = some [v]
  | i + 1, v, left, o => ∃ o1, Swp (fun n q o => TreeR mu sq i (v.set i n) q o) (restQ left (cenQ mu v i (v.length - (i + 1))) (nthQ sq i)) (-1) (roundQ (negQ (cenQ mu v i (v.length - (i + 1))))) [] o1 ∧
      (o1 = none → o = none) ∧ ∀ out, o1 = some out → Swp (fun n q o => TreeR mu sq i (v.set i n) q o) (restQ left (cenQ mu v i (v.length - (i + 1))) (nthQ sq i)) 1 (roundQ (negQ (cenQ mu v i (v.length - (i + 1)))) + 1) out o
theorem TreeR.det {mu : List (List Q2)} {sq : List Q2} : ∀ (k : Nat) (v : List Int) (left : Q2) (o o' : Option VS), TreeR mu sq k v left o → TreeR mu sq k v left o' → o = o'
  | 0, v, left, o, o', h, h' => by
    unfold TreeR at h h'
    rw [h, h']
  | i + 1, v, left, o, o', h, h' => by
    unfold TreeR at h h'
    obtain ⟨o1, a1, a2, a3⟩ := h
    obtain ⟨o2, b1, b2, b3⟩ := h'
    have hT : ∀ n q o o', TreeR mu sq i (v.set i n) q o → TreeR mu sq i (v.set i n) q o' → o = o' := fun n q o o' h h' => TreeR.det i _ _ _ _ h h'
    have e := Swp.det hT a1 b1
    subst e
    cases o1 with
    | none => rw [a2 rfl, b2 rfl]
    | some out => exact Swp.det hT (a3 out rfl) (b3 out rfl)
theorem roundQ_bd (q : Q2) : -400000000 ≤ roundQ q ∧ roundQ q ≤ 400000000 := by
  cases h : okQ q
  · unfold roundQ; rw [h]; simp
  · have hb := okQ_bd h
    unfold roundQ
    rw [h, if_pos rfl]
    constructor
    · exact (Int.le_ediv_iff_mul_le (by omega)).2 (by omega)
    · exact Int.lt_add_one_iff.1 (Int.ediv_lt_of_lt_mul (by omega) (by omega))
/-- no ratio at the center: nothing is found -/
theorem restQ_bad {left c s : Q2} (h : okQ c = false) (n : Int) : okQ (restQ left c s n) = false := by
  cases h2 : okQ (restQ left c s n)
  · rfl
  · rw [(restQ_parts h2).2.1] at h; cases h
/-! ### words for the walks -/
def P3 (T : Int → Q2 → Option VS → Prop) (rest : Int → Q2) (sg : Int) (F : Option VS → Prop) (n : Int) (L : VS) (bad : Bool) : Prop := (bad = false ∧ ∀ r, Swp T rest sg n L r → F r) ∨ (bad = true ∧ F none)
/-- what is known behind a direction -/
def PF (F : Option VS → Prop) (L : VS) (bad : Bool) : Prop := ∃ r, F r ∧ bad = r.isNone ∧ ∀ y, r = some y → y = L
section
variable {T : Int → Q2 → Option VS → Prop} {rest : Int → Q2} {sg n : Int} {F : Option VS → Prop} {L : VS}
theorem PF.none_ (h : F none) (L : VS) : PF F L true := ⟨none, h, rfl, fun y e => by cases e⟩
theorem P3.bad_ (h : P3 T rest sg F n L true) : PF F L true := by
  rcases h with ⟨h, _⟩ | ⟨_, h⟩
  · cases h
  · exact PF.none_ h L
theorem P3.good (h : P3 T rest sg F n L false) {r : Option VS} (hs : Swp T rest sg n L r) : F r := by
  rcases h with ⟨_, h⟩ | ⟨h, _⟩
  · exact h r hs
  · cases h
theorem P3.full (h : P3 T rest sg F n L false) (hb : okQ (rest n) = false ∨ 4000 < L.length) : PF F L true := PF.none_ (h.good (.bad hb)) L
theorem P3.stop (h : P3 T rest sg F n L false) (h1 : okQ (rest n) = true) (h2 : L.length ≤ 4000) (h3 : (rest n).1 < 0) : PF F L false := ⟨some L, h.good (.stop h1 h2 h3), rfl, fun y e => by cases e; rfl⟩
theorem P3.step (h : P3 T rest sg F n L false) (h1 : okQ (rest n) = true) (h2 : L.length ≤ 4000) (h3 : 0 ≤ (rest n).1) {M : VS} {bad : Bool} (hT : PF (T n (rest n)) M bad) : P3 T rest sg F (n + sg) (L ++ M) bad := by
  obtain ⟨o, ht, hb, hM⟩ := hT
  cases o with
  | none => subst hb; exact .inr ⟨rfl, h.good (.fail h1 h2 h3 ht)⟩
  | some y =>
    obtain rfl := hM y rfl
    subst hb
    exact .inl ⟨rfl, fun r hr => h.good (.next h1 h2 h3 ht hr)⟩
end
/-- ahead of direction d -/
def P2 (mu : List (List Q2)) (sq : List Q2) (i : Nat) (x : List Int) (left c : Q2) (d : Nat) (L : VS) (bad : Bool) : Prop :=
  (d = 0 ∧ L = [] ∧ bad = false) ∨ (d = 1 ∧ PF (Swp (fun n q o => TreeR mu sq i (x.set i n) q o) (restQ left c (nthQ sq i)) (-1) (roundQ (negQ c)) []) L bad) ∨ (d = 2 ∧ PF (TreeR mu sq (i + 1) x left) L bad)
/-- one direction out of what is known ahead of it -/
theorem P2.dir {mu : List (List Q2)} {sq : List Q2} {i : Nat} {x : List Int} {left c : Q2} {d : Nat} {L : VS} {bad : Bool} (h : P2 mu sq i x left c d L bad) (hd : d < 2) (hc : c = cenQ mu x i (x.length - (i + 1))) :
    ∃ (sg n : Int) (F : Option VS → Prop), sg = (if d = 0 then -1 else 1) ∧ n = roundQ (negQ c) + d ∧ P3 (fun n q o => TreeR mu sq i (x.set i n) q o) (restQ left c (nthQ sq i)) sg F n L bad ∧ ∀ L' bad', PF F L' bad' → P2 mu sq i x left c (d + 1) L' bad' := by
  rcases h with ⟨rfl, rfl, rfl⟩ | ⟨rfl, h⟩ | ⟨rfl, _⟩
  · exact ⟨-1, _, Swp (fun n q o => TreeR mu sq i (x.set i n) q o) (restQ left c (nthQ sq i)) (-1) (roundQ (negQ c)) [], rfl, by simp, .inl ⟨rfl, fun r hr => hr⟩, fun L' bad' h => .inr (.inl ⟨rfl, h⟩)⟩
  · refine ⟨1, roundQ (negQ c) + 1, TreeR mu sq (i + 1) x left, rfl, by simp, ?_, fun L' bad' h => .inr (.inr ⟨rfl, h⟩)⟩
    obtain ⟨o1, h1, hb, hL⟩ := h
    cases o1 with
    | none =>
      subst hb
      refine .inr ⟨rfl, ?_⟩
      unfold TreeR
      rw [← hc]
      exact ⟨none, h1, fun _ => rfl, fun out e => by cases e⟩
    | some y =>
      obtain rfl := hL y rfl
      subst hb
      refine .inl ⟨rfl, fun r hr => ?_⟩
      unfold TreeR
      rw [← hc]
      exact ⟨some y, h1, (fun e => by cases e), fun out e => by cases e; exact hr⟩
  · omega
theorem P2.done {mu : List (List Q2)} {sq : List Q2} {i : Nat} {x : List Int} {left c : Q2} {L : VS} {bad : Bool} (h : P2 mu sq i x left c 2 L bad) : PF (TreeR mu sq (i + 1) x left) L bad := by
  rcases h with ⟨h, _⟩ | ⟨h, _⟩ | ⟨_, h⟩
  · cases h
  · cases h
  · exact h
/-- no ratio at the center -/
theorem tree_bad {mu : List (List Q2)} {sq : List Q2} {i : Nat} {x : List Int} {left : Q2} (h : okQ (cenQ mu x i (x.length - (i + 1))) = false) (L : VS) : PF (TreeR mu sq (i + 1) x left) L true := by
  refine PF.none_ ?_ L
  unfold TreeR
  exact ⟨none, .bad (.inl (restQ_bad h _)), fun _ => rfl, fun out e => by cases e⟩
theorem tree_zero {mu : List (List Q2)} {sq : List Q2} {x : List Int} {left : Q2} : PF (TreeR mu sq 0 x left) [x] false := ⟨some [x], by unfold TreeR; rfl, rfl, fun y e => by cases e; rfl⟩
end Go.Proofs.YtfilbjbogggaoaaGreat

/- Words on memory for the search of short vectors cell by cell; append of owned rows. -/
namespace Go.Proofs.YtfilbjbogggaoaaGreat
set_option linter.unusedSimpArgs false
set_option linter.unusedVariables false
open Go.RowKit

section
variable {S : Nat → Prop} {w w' : World}
theorem Mv.cell (m : Mv S w w') {p : Addr} (hp : p.block < w.heap.size) (hS : ¬ S p.block) : w'.cell? p = w.cell? p := World.cell?_of_block (m.block _ hp hS)
theorem Mv.frozen (m : Mv S w w') {p : Addr} (hp : p.block < w.heap.size) (hS : ¬ S p.block) : w'.frozen? p = w.frozen? p := World.frozen?_of_block (m.block _ hp hS)
theorem QBox.mv {b : Nat} {q : Q2} (h : QBox w b q) (m : Mv S w w') (hb : ¬ S b) : QBox w' b q :=
  ⟨Nat.lt_of_lt_of_le h.lt m.size, (m.cell (p := ⟨b, 0, none⟩) h.lt hb).trans h.c0, (m.cell (p := ⟨b, 1, none⟩) h.lt hb).trans h.c1, fun o => (m.frozen (p := ⟨b, o, none⟩) h.lt hb).trans (h.fz o)⟩
theorem own_mv {t : TypeId} {n k B : Nat} {v : Value} {l : List Value} (h : w.ownsRow B t k v n l) (g : Mv S w w') (h1 : ∀ g, v.ownBlock = some g → ¬ S g) : w'.ownsRow B t k v n l := by
  refine ⟨h.1, ?_⟩
  rcases h.2 with hz | ⟨b, cap, cur, hv, hb, hg, k⟩
  · exact .inl hz
  · have hlt : b < w.heap.size := (Array.getElem?_eq_some_iff.1 hg).1
    exact .inr ⟨b, cap, cur, hv, hb, (g.block b hlt (h1 b (by rw [hv]; simp [Value.ownBlock]))).trans hg, k⟩
theorem RowsO.mv {B : Nat} {v : Value} {vs : List Value} {L : List (List Int)} (h : RowsO w B v vs L) (m : Mv S w w') (hS : ∀ g, S g → g < B) : RowsO w' B v vs L := by
  refine ⟨h.len, own_mv h.own m fun g hg hs => ?_, fun i u x h1 h2 => (h.row i u x h1 h2).mv m fun g hg hs => ?_, h.far, h.nod⟩
  · have := (World.ownsRow.lt h.own g hg).1; have := hS g hs; omega
  · have := (h.lt h1 hg).1; have := hS g hs; omega
end
/-- a variable of the search: account, number of cells, cells, whether it failed -/
structure TBox (w : World) (b : Nat) (u v : Value) (R : Nat) (x : Value) (bad : Bool) : Prop where
  lt : b < w.heap.size
  c0 : w.cell? ⟨b, 0, none⟩ = some u
  c1 : w.cell? ⟨b, 1, none⟩ = some v
  c2 : w.cell? ⟨b, 2, none⟩ = some (.int .i64 R)
  c3 : w.cell? ⟨b, 3, none⟩ = some x
  c4 : w.cell? ⟨b, 4, none⟩ = some (.bool bad)
  fz : ∀ o, w.frozen? ⟨b, o, none⟩ = false
section
variable {w w' : World} {b R : Nat} {u v x : Value} {bad : Bool}
theorem TBox.mv {S : Nat → Prop} (h : TBox w b u v R x bad) (m : Mv S w w') (hb : ¬ S b) : TBox w' b u v R x bad :=
  ⟨Nat.lt_of_lt_of_le h.lt m.size, (m.cell (p := ⟨b, 0, none⟩) h.lt hb).trans h.c0, (m.cell (p := ⟨b, 1, none⟩) h.lt hb).trans h.c1, (m.cell (p := ⟨b, 2, none⟩) h.lt hb).trans h.c2, (m.cell (p := ⟨b, 3, none⟩) h.lt hb).trans h.c3, (m.cell (p := ⟨b, 4, none⟩) h.lt hb).trans h.c4, fun o => (m.frozen (p := ⟨b, o, none⟩) h.lt hb).trans (h.fz o)⟩
theorem Mv.of_grows {S : Nat → Prop} (g : Grows w w') : Mv S w w' := (Mv.refl w).right g
theorem TBox.grows (h : TBox w b u v R x bad) (g : Grows w w') : TBox w' b u v R x bad := h.mv (S := fun _ => False) (.of_grows g) (fun h => h)
theorem TBox.far (h : TBox w b u v R x bad) {p : Addr} (hp : p.block ≠ b) (z : Value) : TBox (w.setCell p z) b u v R x bad :=
  h.mv (S := fun g => g = p.block) (Mv.put (S := fun g => g = p.block) (Mv.refl w) (p := p) (.inr rfl) z) (fun e => hp e.symm)
theorem TBox.put4 (h : TBox w b u v R x bad) (z : Bool) : TBox (w.setCell ⟨b, 4, none⟩ (.bool z)) b u v R x z := by
  have h0 := h.c0; have h1 := h.c1; have h2 := h.c2; have h3 := h.c3; have h4 := h.c4; have hf := h.fz; have hl := h.lt
  exact ⟨by simp; exact hl, by simp [go_sem, h0], by simp [go_sem, h1], by simp [go_sem, h2], by simp [go_sem, h3], by simp [go_sem, h4], fun o => by simp [go_sem, hf]⟩
end
theorem RowsO.appn {w w' : World} {B B2 : Nat} {v v2 v' : Value} {vs us : List Value} {L M : List (List Int)} (h : RowsO w B v vs L) (k : RowsO w B2 v2 us M) (hB : B ≤ B2)
    (hv : ∀ g, v.ownBlock = some g → g < B2) (hvs : ∀ (i : Nat) (u : Value), vs[i]? = some u → ∀ g, u.ownBlock = some g → g < B2)
    (h2 : OwnV 24 w' B v' (vs ++ us)) (h3 : w.grownBy w' v.ownBlock) (h4 : v'.ownBlock = v.ownBlock ∨ ∃ g, v'.ownBlock = some g ∧ w.heap.size ≤ g) : RowsO w' B v' (vs ++ us) (L ++ M) := by
  have hl := h.len
  have hl2 := k.len
  have key : ∀ (i : Nat) (u' : Value), (vs ++ us)[i]? = some u' → (vs[i]? = some u' ∧ i < vs.length) ∨ (us[i - vs.length]? = some u' ∧ vs.length ≤ i) := fun i u' hi => by
    by_cases e : i < vs.length
    · rw [List.getElem?_append_left e] at hi; exact .inl ⟨hi, e⟩
    · rw [List.getElem?_append_right (by omega)] at hi; exact .inr ⟨hi, by omega⟩
  have kept : ∀ {o : Value} {x : List Int}, Own w B o x → (∀ g, o.ownBlock = some g → v.ownBlock ≠ some g) → Own w' B o x := fun {o} {x} ho hne => by
    refine World.ownsRow.kept ho h3 ?_
    cases e : o.ownBlock with
    | none => exact .inl rfl
    | some g => exact .inr fun e2 => hne g e e2.symm
  have far2 : ∀ (i : Nat) (u : Value), us[i]? = some u → ∀ g, u.ownBlock = some g → v.ownBlock ≠ some g := fun i u hi g hg e => by
    have := (k.lt hi hg).1
    have := hv g e
    omega
  refine ⟨by simp [hl, hl2], h2, fun i u' x h5 h6 => ?_, fun i u' h5 g hg e => ?_, fun i j a b ha hb hne g hg => ?_⟩
  · rcases key i u' h5 with ⟨h7, h8⟩ | ⟨h7, h8⟩
    · rw [List.getElem?_append_left (by omega)] at h6
      exact kept (h.row i u' x h7 h6) fun g hg => h.far i u' h7 g hg
    · rw [List.getElem?_append_right (by omega), ← hl] at h6
      exact kept ((k.row _ u' x h7 h6).less hB) fun g hg => far2 _ u' h7 g hg
  · have hlt : g < w.heap.size := by
      rcases key i u' h5 with ⟨h7, _⟩ | ⟨h7, _⟩
      · exact (h.lt h7 hg).2
      · exact (k.lt h7 hg).2
    rcases h4 with h4 | ⟨g', h4, h5'⟩
    · rw [h4] at e
      rcases key i u' h5 with ⟨h7, _⟩ | ⟨h7, _⟩
      · exact h.far i u' h7 g hg e
      · exact far2 _ u' h7 g hg e
    · rw [h4] at e
      cases e
      omega
  · rcases key i a ha with ⟨h7, h8⟩ | ⟨h7, h8⟩ <;> rcases key j b hb with ⟨h9, h10⟩ | ⟨h9, h10⟩
    · exact h.nod i j a b h7 h9 hne g hg
    · intro e
      have := hvs i a h7 g hg
      have := (k.lt h9 e).1
      omega
    · intro e
      have := hvs j b h9 g e
      have := (k.lt h7 hg).1
      omega
    · exact k.nod _ _ a b h7 h9 (by omega) g hg
/-- out = append(out, more...), more's rows made later than out's -/
theorem wpList_appOn {ops : Array Oper} {rest : List Oper} {o : Oper} {a : Act} {Q : Exit → Act → World → Prop} (hgd : o.guard = none) (s x : Operand)
    (ho : o.op = .call { callee := .builtin .append, args := #[s, x], argTypes := #[29, 29] }) (w : World)
    (B B2 : Nat) (v : Value) (vs us : List Value) (L M : List (List Int)) (A : Option Addr) (c : Nat) (hs : a.eval s = v) (hx : a.eval x = .slice A M.length c) (hown : RowsO w B v vs L) (k : RowsO w B2 (.slice A M.length c) us M) (hBB : B ≤ B2)
    (hv : ∀ g, v.ownBlock = some g → g < B2) (hvs : ∀ (i : Nat) (u : Value), vs[i]? = some u → ∀ g, u.ownBlock = some g → g < B2)
    (hl : L.length + M.length ≤ 1099511627776) (hB : B ≤ w.heap.size)
    (h : ∀ v' w', RowsO w' B v' (vs ++ us) (L ++ M) → w.grownBy w' v.ownBlock → (v'.ownBlock = v.ownBlock ∨ ∃ g, v'.ownBlock = some g ∧ w.heap.size ≤ g) → wpList Tryz.prog ops Q rest (a.put o.dst v') w') :
    wpList Tryz.prog ops Q (o :: rest) a w := by
  have hul := k.len
  have hur : RdV w A us := by have := OwnV.rd (n := M.length) (c := c) k.own; exact this
  have hu1 : ∀ u ∈ us, u.oneCell' = true := fun u hu => by
    obtain ⟨i, hi⟩ := List.mem_iff_getElem?.1 hu
    obtain ⟨x, _, hx⟩ := k.any hi
    obtain ⟨A, c, e, _, _⟩ := hx.val
    rw [e]; rfl
  obtain ⟨v', w', hrun, h2, h3, h4⟩ := run_appVn 24 29 und_ii info_is w o.type B v vs hown.own A us c hur hu1 (by rw [hown.len, hul]; omega) hB
  rw [hul] at hrun
  refine wpList_plain hgd fun _ hK => ?_
  unfold Oper.wp execOp
  simp only [ho, resolve, invoke, builtin, Sem.run_bind, Sem.run_pure, Result.andThen_ok, List.map_toArray, List.map_cons, List.map_nil, hs, hx, hrun]
  exact hK _ _ (h v' w' (hown.appn k hBB hv hvs h2 h3 h4) h3 h4)
end Go.Proofs.YtfilbjbogggaoaaGreat

/- Contracts: the search of short vectors cell by cell, the program's. -/
namespace Go.Proofs.YtfilbjbogggaoaaGreat
set_option linter.unusedSimpArgs false
set_option linter.unusedVariables false
open Go.RowKit
set_option linter.unusedVariables false

/-- the blocks that the search writes to: its variable and its cells -/
def TS (b : Nat) (v : Value) (g : Nat) : Prop := g = b ∨ v.ownBlock = some g
/-- what a search gives -/
def PRet (mu : List (List Q2)) (sq : List Q2) (wK : World) (b R : Nat) (u v xv : Value) (k : Nat) (x : List Int) (left : Q2) (w : World) (e : Ending) (w' : World) : Prop :=
  ∃ (L : VS) (A : Option Addr) (c : Nat) (vs : List Value) (bad : Bool), e = .returned (.slice A L.length c) ∧ PF (TreeR mu sq k x left) L bad ∧ RowsO w' w.heap.size (.slice A L.length c) vs L ∧ L.length ≤ 4000 * k + 1 ∧ TBox w' b u v R xv bad ∧ Own w' wK.heap.size xv x ∧ Mv (TS b xv) w w'
theorem RowsO.lit (w : World) {B : Nat} {u : Value} {z : List Int} (ho : Own w B u z) (hB : B ≤ w.heap.size) : RowsO (w.alloc (.cells #[u] 24)) B (.slice (some ⟨w.heap.size, 0, none⟩) 1 1) [u] [z] := by
  have key : ∀ (i : Nat) (u' : Value), [u][i]? = some u' → i = 0 ∧ u' = u := fun i u' h => by
    cases i with
    | zero => simp at h; exact ⟨rfl, h.symm⟩
    | succ i => simp at h
  refine ⟨rfl, ?_, fun i u' x h1 h2 => ?_, fun i u' h1 g hg => ?_, fun i j a a' h1 h2 hne => ?_⟩
  · have := World.ownsRow_lit (w := w) (base := B) (e := 24) (size := 1) #[u] 1 (by omega) (by simp [maxLen]) (by simp)
    simpa [OwnV] using this
  · obtain ⟨rfl, rfl⟩ := key i u' h1
    simp at h2
    subst h2
    exact ho.alloc _
  · obtain ⟨rfl, rfl⟩ := key i u' h1
    have := (World.ownsRow.lt ho g hg).2
    simp [Value.ownBlock]
    omega
  · obtain ⟨rfl, rfl⟩ := key i a h1
    obtain ⟨rfl, rfl⟩ := key j a' h2
    omega
section
set_option maxHeartbeats 8000000
set_option maxRecDepth 100000
theorem placeZ_c (mu : List (List Q2)) (sq : List Q2) (wK : World) (b R : Nat) (u v : Value) (Ax : Option Addr) (cx : Nat) (x : List Int) (left : Q2) (w : World) (hx : x.length = R) (hR : R ≤ 24) (hg : Grows wK w) (tb : TBox w b u v R (.slice Ax R cx) false) (ox : Own w wK.heap.size (.slice Ax R cx) x) :
    Calls Tryz.prog 63 #[.pointer (some ⟨b, 0, none⟩), .int .i64 (-1), .agg #[.int .i64 left.1, .int .i64 left.2]] w (PRet mu sq wK b R u v (.slice Ax R cx) 0 x left w) := by
  have hbl := tb.lt
  have c3 := tb.c3
  have HX := Lib.hid hx
  have rdx := ox.rd_
  clear hx
  go_enter Tryz.func63, Tryz.ntmps63
  go_wp2_with (at_builtin; refine wpList_app rfl (.tmp 18) (.tmp 22) rfl _ w.heap.size _ [] (by rfl) (Own.new_ _ (by simp) (by simp)) Ax x R cx (by rfl) HX.out (by exact (Rd.grows rdx (by exact bel0))) (by simp; have := HX.out; omega) (by simp; omega) ?_; intro v2 w2 ho2 hg2 hv2; rw [List.nil_append] at ho2; obtain ⟨A2, c2, rfl, _, _⟩ := ho2.val; have ho2 : Own w2 w.heap.size (.slice A2 x.length c2) x := ho2)
  have g2 : Grows w w2 := Below.trans (show Grows w (w.alloc (.cells #[.int .i64 left.1, .int .i64 left.2] 79)) by exact bel0) (Below.mono (Below.trans (show Below (w.heap.size + 1) _ ((w.alloc (.cells #[.int .i64 left.1, .int .i64 left.2] 79)).alloc (.cells #[] 3)) from (Below.refl _ _).alloc (by simp) _) ((Below.refl _ _).grown hg2 (by simp) (fun k hk => by have := World.ownsRow.lt (Own.new_ (B := w.heap.size + 1) (w.alloc (.cells #[.int .i64 left.1, .int .i64 left.2] 79)) (by simp) (by simp)) k hk; omega))) (by omega))
  go_ret
  refine ⟨[x], _, _, _, false, rfl, tree_zero, RowsO.lit w2 ho2 (Below.size g2), by simp, (tb.grows g2).grows (by exact bel0), (ox.grows g2).alloc _, .of_grows (by exact bel1 g2)⟩
/-- what a later level gives -/
def PIH (mu : List (List Q2)) (sq : List Q2) (wK : World) (b R : Nat) (u v xv : Value) (i : Nat) : Prop :=
  ∀ (x : List Int) (left : Q2) (w : World), x.length = R → (∀ t, t < i → nth x t = 0) → Grows wK w → TBox w b u v R xv false → Own w wK.heap.size xv x →
    Calls Tryz.prog 63 #[.pointer (some ⟨b, 0, none⟩), .int .i64 ((i : Int) - 1), .agg #[.int .i64 left.1, .int .i64 left.2]] w (PRet mu sq wK b R u v xv i x left w)
theorem cenQ_next (mu : List (List Q2)) (x : List Int) {i K : Nat} (h : i + 1 ≤ K) : cenQ mu x i (K + 1 - (i + 1)) = addQ (cenQ mu x i (K - (i + 1))) (mulQ (nthQ (mu.getD K []) i) (wholeQ (nth x K))) := by
  obtain ⟨t, rfl⟩ : ∃ t, K = i + 1 + t := ⟨K - (i + 1), by omega⟩
  rw [show i + 1 + t + 1 - (i + 1) = t + 1 from by omega, show i + 1 + t - (i + 1) = t from by omega, cenQ, mulQ_comm]
/-- what lies in memory within a level: the vectors found, the search's variable and cells, what is left, the center, the two steps -/
structure TI (wK w : World) (b R i gx cx : Nat) (u v : Value) (x : List Int) (left c : Q2) (cb gs : Nat) (L : VS) (A : Option Addr) (co : Nat) (vs : List Value) (bad : Bool) (y : Int) (wr : World) : Prop where
  rows : RowsO wr w.heap.size (.slice A L.length co) vs L
  box : TBox wr b u v R (.slice (some ⟨gx, 0, none⟩) R cx) bad
  own : Own wr wK.heap.size (.slice (some ⟨gx, 0, none⟩) R cx) (x.set i y)
  mv : Mv (TS b (.slice (some ⟨gx, 0, none⟩) R cx)) w wr
  lq : QBox wr w.heap.size left
  cq : QBox wr cb c
  lt : Rd wr (some ⟨gs, 0, none⟩) [-1, 1]
  hc : w.heap.size < cb
  hg : w.heap.size < gs
  far : ∀ g, (Value.slice A L.length co).ownBlock = some g → g ≠ w.heap.size ∧ g ≠ cb ∧ g ≠ gs
section
variable {wK w wr w' : World} {b R i gx cx cb gs co : Nat} {u v : Value} {x : List Int} {left c : Q2} {L : VS} {A : Option Addr} {vs : List Value} {bad : Bool} {y : Int}
theorem TI.grows (h : TI wK w b R i gx cx u v x left c cb gs L A co vs bad y wr) (g : Grows wr w') : TI wK w b R i gx cx u v x left c cb gs L A co vs bad y w' :=
  ⟨h.rows.grows g, h.box.grows g, h.own.grows g, h.mv.right g, h.lq.grows g, h.cq.grows g, h.lt.grows g, h.hc, h.hg, h.far⟩
theorem QBox.far (h : QBox wr cb c) {p : Addr} (hp : p.block ≠ cb) (z : Value) : QBox (wr.setCell p z) cb c :=
  h.mv (S := fun g => g = p.block) (Mv.put (S := fun g => g = p.block) (Mv.refl wr) (p := p) (.inr rfl) z) (fun e => hp e.symm)
theorem Rd.far1 {l : List Int} (h : Rd wr (some ⟨gs, 0, none⟩) l) {p : Addr} (hp : p.block ≠ gs) (z : Value) : Rd (wr.setCell p z) (some ⟨gs, 0, none⟩) l := fun k hk => by
  obtain ⟨b, o, e, h1, h2⟩ := h k hk
  cases e
  have hm : Mv (fun g => g = p.block) wr (wr.setCell p z) := Mv.put (S := fun g => g = p.block) (Mv.refl wr) (p := p) (.inr rfl) z
  exact ⟨gs, 0, rfl, Nat.lt_of_lt_of_le h1 hm.size, (hm.cell (p := ⟨gs, 0 + k, none⟩) h1 (fun e => hp e.symm)).trans h2⟩
theorem TI.step0 (h : TI wK w b R i gx cx u v x left c cb gs L A co vs bad y wr) : wr.cell? ⟨gs, 0, none⟩ = some (.int .i64 (-1)) ∧ wr.cell? ⟨gs, 1, none⟩ = some (.int .i64 1) ∧ gs < wr.heap.size := by
  obtain ⟨b0, o0, e0, h0, c0⟩ := h.lt 0 (by simp)
  obtain ⟨b1, o1, e1, h1, c1⟩ := h.lt 1 (by simp)
  cases e0
  cases e1
  exact ⟨c0, c1, h0⟩
theorem TI.fail (h : TI wK w b R i gx cx u v x left c cb gs L A co vs bad y wr) (hb : b < w.heap.size) (hn : gx ≠ b) : TI wK w b R i gx cx u v x left c cb gs L A co vs true y (wr.setCell ⟨b, 4, none⟩ (.bool true)) :=
  ⟨h.rows.low hb _, h.box.put4 true, h.own.far (fun g hg => by simp [Value.ownBlock] at hg; show g ≠ b; omega) _, h.mv.put (.inr (.inl rfl)) _, h.lq.far (show b ≠ w.heap.size by omega) _, h.cq.far (show b ≠ cb by have := h.hc; omega) _, h.lt.far1 (show b ≠ gs by have := h.hg; omega) _, h.hc, h.hg, h.far⟩
theorem Own.put1 {w : World} {B g n cap : Nat} {l : List Int} (h : Own w B (.slice (some ⟨g, 0, none⟩) n cap) l) (hn : l.length = n) (i : Nat) (x : Int) : Own (w.setCell ⟨g, i, none⟩ (.int .i64 x)) B (.slice (some ⟨g, 0, none⟩) n cap) (l.set i x) := by
  subst hn; exact h.set _ _
theorem TI.cell (h : TI wK w b R i gx cx u v x left c cb gs L A co vs bad y wr) (hx : x.length = R) (hi : i < R) (hn : gx ≠ b) (hgw : gx < w.heap.size) (n : Int) : TI wK w b R i gx cx u v x left c cb gs L A co vs bad n (wr.setCell ⟨gx, i, none⟩ (.int .i64 n)) := by
  refine ⟨h.rows.low hgw _, h.box.far hn _, ?_, h.mv.put (.inr (.inr (by simp [Value.ownBlock]))) _, h.lq.far (show gx ≠ w.heap.size by omega) _, h.cq.far (show gx ≠ cb by have := h.hc; omega) _, h.lt.far1 (show gx ≠ gs by have := h.hg; omega) _, h.hc, h.hg, h.far⟩
  have := Own.put1 h.own (by simp; omega) i n
  rwa [List.set_set] at this
end
theorem Mv.app {S : Nat → Prop} {w w1 w2 : World} (h : Mv S w w1) {r : Option Nat} (g : w1.grownBy w2 r) (hr : ∀ k, r = some k → w.heap.size ≤ k) : Mv S w w2 :=
  ⟨g.os.trans h.os, g.tape.trans h.tape, g.output.trans h.output, Nat.le_trans h.size g.size, fun i hi hn => (g.block i (Nat.lt_of_lt_of_le hi h.size) (fun e => by have := hr i e.symm; omega)).trans (h.block i hi hn)⟩
theorem Rd.mv1 {S : Nat → Prop} {w w1 : World} {gs : Nat} {l : List Int} (h : Rd w (some ⟨gs, 0, none⟩) l) (m : Mv S w w1) (hS : ¬ S gs) : Rd w1 (some ⟨gs, 0, none⟩) l := fun k hk => by
  obtain ⟨b, o, e, h1, h2⟩ := h k hk
  cases e
  exact ⟨gs, 0, rfl, Nat.lt_of_lt_of_le h1 m.size, (m.cell (p := ⟨gs, 0 + k, none⟩) h1 hS).trans h2⟩
/-- behind a later level and the append of what it gives -/
theorem TI.next {wK w W W2 W3 : World} {b R i gx cx cb gs co co3 : Nat} {u v : Value} {x : List Int} {left c : Q2} {L M : VS} {A A3 : Option Addr} {vs us : List Value} {bad bad2 : Bool} {n : Int}
    (h : TI wK w b R i gx cx u v x left c cb gs L A co vs bad n W) (hb : b < w.heap.size) (hgx : gx < w.heap.size) (box2 : TBox W2 b u v R (.slice (some ⟨gx, 0, none⟩) R cx) bad2) (own2 : Own W2 wK.heap.size (.slice (some ⟨gx, 0, none⟩) R cx) (x.set i n)) (mv2 : Mv (TS b (.slice (some ⟨gx, 0, none⟩) R cx)) W W2)
    (ho : RowsO W3 w.heap.size (.slice A3 (L ++ M).length co3) (vs ++ us) (L ++ M)) (hg : W2.grownBy W3 (Value.slice A L.length co).ownBlock) (hv : (Value.slice A3 (L ++ M).length co3).ownBlock = (Value.slice A L.length co).ownBlock ∨ ∃ g, (Value.slice A3 (L ++ M).length co3).ownBlock = some g ∧ W2.heap.size ≤ g) :
    TI wK w b R i gx cx u v x left c cb gs (L ++ M) A3 co3 (vs ++ us) bad2 n W3 := by
  have hlo : ∀ g, (Value.slice A L.length co).ownBlock = some g → w.heap.size ≤ g := fun g e => (h.rows.own.lt e).1
  have nts : ∀ g, w.heap.size ≤ g → ¬ TS b (.slice (some ⟨gx, 0, none⟩) R cx) g := fun g hg h2 => by
    rcases h2 with h2 | h2
    · omega
    · simp [Value.ownBlock] at h2; omega
  have mvg : Mv (fun g => (Value.slice A L.length co).ownBlock = some g) W2 W3 := Mv.by1 hg fun g e => e
  have hc := h.hc
  have hgs := h.hg
  have l1 := h.lq.lt
  have l2 := h.cq.lt
  have l3 := h.step0.2.2
  have s2 := mv2.size
  exact ⟨ho, box2.mv mvg (fun e => by have := hlo _ e; omega), own2.mv mvg (fun g hg e => by simp [Value.ownBlock] at hg; have := hlo _ e; omega), (h.mv.trans mv2).app hg hlo,
    (h.lq.mv mv2 (nts _ (Nat.le_refl _))).mv mvg (fun e => (h.far _ e).1 rfl), (h.cq.mv mv2 (nts _ (by omega))).mv mvg (fun e => (h.far _ e).2.1 rfl), (h.lt.mv1 mv2 (nts _ (by omega))).mv1 mvg (fun e => (h.far _ e).2.2 rfl), hc, hgs, fun g e => by
      rcases hv with hv | ⟨g', hv, hle⟩
      · rw [hv] at e; exact h.far g e
      · rw [hv] at e; cases e; omega⟩
theorem tree_keep {W : World} {bl gy b bs fs : Nat} {left yq z : Q2} {u v : Value} {R : Nat} {xv : Value} {bad : Bool} (h1 : QBox W bl left) (h2 : QBox W gy yq) (h3 : TBox W b u v R xv bad) (h4 : W.cell? ⟨bs, fs, none⟩ = some (.int .i64 z.1)) (h5 : W.cell? ⟨bs, fs + 1, none⟩ = some (.int .i64 z.2)) :
    W.cell? ⟨bl, 0, none⟩ = some (.int .i64 left.1) ∧ W.cell? ⟨bl, 1, none⟩ = some (.int .i64 left.2) ∧ W.cell? ⟨gy, 0, none⟩ = some (.int .i64 yq.1) ∧ W.cell? ⟨gy, 1, none⟩ = some (.int .i64 yq.2) ∧ W.cell? ⟨b, 1, none⟩ = some v ∧ W.cell? ⟨bs, fs, none⟩ = some (.int .i64 z.1) ∧ W.cell? ⟨bs, fs + 1, none⟩ = some (.int .i64 z.2) := ⟨h1.c0, h1.c1, h2.c0, h2.c1, h3.c1, h4, h5⟩
theorem placeS_c (mu : List (List Q2)) (sq : List Q2) (wK : World) (b R i : Nat) (Am As : Option Addr) (cm cs : Nat) (Ax : Option Addr) (cx : Nat) (hI : AccI R (mu, sq)) (hR : R ≤ 24) (hi : i < R) (hm : RdR RSQ wK Am mu) (hs : RdQ wK As sq) (hb : wK.heap.size ≤ b) (hxb : ∀ g, (Value.slice Ax R cx).ownBlock = some g → g ≠ b)
    (IH : PIH mu sq wK b R (.slice Am R cm) (.slice As R cs) (.slice Ax R cx) i)
    (x : List Int) (left : Q2) (w : World) (hx : x.length = R) (hz : ∀ t, t < i + 1 → nth x t = 0) (hg : Grows wK w) (tb : TBox w b (.slice Am R cm) (.slice As R cs) R (.slice Ax R cx) false) (ox : Own w wK.heap.size (.slice Ax R cx) x) :
    Calls Tryz.prog 63 #[.pointer (some ⟨b, 0, none⟩), .int .i64 i, .agg #[.int .i64 left.1, .int .i64 left.2]] w (PRet mu sq wK b R (.slice Am R cm) (.slice As R cs) (.slice Ax R cx) (i + 1) x left w) := by
  obtain ⟨w1, hw1⟩ : ∃ w1, w1 = w.alloc (.cells #[.int .i64 left.1, .int .i64 left.2] 79) := ⟨_, rfl⟩
  have qbl : QBox w1 w.heap.size left := by rw [hw1]; exact QBox.new_ _ _ _ rfl
  have g01 : Grows w w1 := by rw [hw1]; exact bel0
  have hs1 : w1.heap.size = w.heap.size + 1 := by rw [hw1]; simp
  have HW1 := Lib.hid hw1
  obtain ⟨gx, rfl⟩ : ∃ gx, Ax = some ⟨gx, 0, none⟩ := by
    obtain ⟨g, c', e, _, _⟩ := Own.form ox (by omega)
    injection e with e1 _ _
    exact ⟨g, e1⟩
  have hgb : gx ≠ b := hxb gx (by simp [Value.ownBlock])
  have hgl := ox.lt
  have hbl := tb.lt
  have HX := Lib.hid hx
  have HI := Lib.hid hI
  have HIH := Lib.hid IH
  have HZ := Lib.hid hz
  have C0 := Lib.hid fun W => whole_c 0 W
  have hi24 : (i : Int) < 24 := by omega
  clear hw1 hx hI IH hz
  go_enter Tryz.func63, Tryz.ntmps63
  go_wp2_with fail
  rw [← HW1.out]
  refine (C0.out _).mono ?_; rintro e w2 ⟨rfl, g2⟩
  have hs2 := Below.size g2
  have g02 : Grows w w2 := by exact bel2 g2 g01
  have gK2 : Grows wK w2 := by exact bel2 g02 hg
  have qbl2 := qbl.grows g2
  have tb2 := tb.grows g02
  have ox2 := ox.grows g02
  clear qbl tb ox
  go_wp2_with fail
  go_loopw [8] (fun k wr => ∃ (K : Nat), k = .int .i64 K ∧ i + 1 ≤ K ∧ K ≤ R ∧ QBox wr w2.heap.size (cenQ mu x i (K - (i + 1))) ∧ Grows w2 wr) (fun k _ => R - (intOf k).toNat)
  case atStart => exact ⟨i + 1, by first | rfl | (simp; done) | go_num, Nat.le_refl _, by omega, by rw [Nat.sub_self]; exact QBox.new_ w2 (0, 1) 79 rfl, by exact bel0⟩
  case round =>
    obtain ⟨K, rfl, hK1, hK, qb, hgr⟩ := hrel
    have gwr : Grows w wr := by exact bel2 hgr g02
    have gKr : Grows wK wr := by exact bel2 hgr gK2
    have hsr := Below.size hgr
    have tbr := tb2.grows hgr
    have oxr := ox2.grows hgr
    have d2 := tbr.c2
    by_cases hlt : K < R
    · have hlt' : (K : Int) < (R : Int) := by omega
      have hiK : (i : Int) < (K : Int) := by omega
      have HNX := Lib.hid (cenQ_next mu x hK1)
      have hml : K < mu.length := by have := HI.out.l1; simp only at this; omega
      have hrl : (mu.getD K []).length = K := HI.out.row K hlt
      obtain ⟨bm, fm, Aj, cj, rfl, hbm, m0, hrj, hcj⟩ := (hm.grows RSQ.good gKr).rowQ K hml
      rw [hrl] at m0 hcj
      obtain ⟨bj, fj, rfl, hbj, j0, j1⟩ := hrj.at_ i (by rw [hrl]; omega)
      have x0 := oxr.cell K (by rw [HX.out]; exact hlt)
      have hbx := oxr.lt.2
      generalize nthQ (mu.getD K []) i = z at *
      generalize nth x K = y at *
      generalize cenQ mu x i (K - (i + 1)) = cc at *
      generalize mu.getD K [] = row at *
      have CW := Lib.hid fun W => whole_c y W
      have CM := Lib.hid fun W => iMultiplyRatios_c z (wholeQ y) W
      have CA := Lib.hid fun W => iAddRatios_c cc (mulQ z (wholeQ y)) W
      generalize addQ cc (mulQ z (wholeQ y)) = nx at *
      generalize mulQ z (wholeQ y) = p at *
      generalize wholeQ y = yq at *
      have e0 := ext_is tbr.c0
      have e3 := ext_is tbr.c3
      have q0e := ext_is qb.c0
      have q1e := ext_is qb.c1
      have m0e := ext_is m0
      have j0e := ext_is j0
      have j1e := ext_is j1
      have x0e := ext_is x0
      go_wp2_with fail
      ((refine wp_region_tail 22 (by kernel_rfl) (by kernel_rfl) ?_; simp only [List.take_succ_cons, List.take_zero, List.drop_succ_cons, List.drop_zero]); (repeat (go_big_quiet_step ((first | (go_at_call 64; with_reducible exact extC (CW.out _)) | (go_at_call 128; with_reducible exact extC (CM.out _)) | (go_at_call 131; with_reducible exact extC (CA.out _)))))); refine wpQuiet_nil ?_; rintro wc ⟨wc0, hwc0⟩; have gc := grows_of_ext hwc0; clear hwc0 wc0)
      have qbc := qb.grows gc
      obtain ⟨q0, q1⟩ := qbc.cells
      have qf := qbc.fz
      have qlc := qbc.lt
      clear e0 e3 q0e q1e m0e j0e j1e x0e
      go_wp2_with fail
      go_round
      case rel => exact ⟨K + 1, by go_num, by omega, by omega, by rw [HNX.out]; exact qbc.put _, by exact bel2 gc hgr⟩
      case measure => simp [intOf]; omega
    · have hKR : R = K := by omega
      subst hKR
      obtain ⟨c, hc⟩ : ∃ c, c = cenQ mu x i (R - (i + 1)) := ⟨_, rfl⟩
      rw [← hc] at qb
      have hc' : c = cenQ mu x i (x.length - (i + 1)) := by rw [HX.out]; exact hc
      have HC := Lib.hid hc'
      have CI0 := fun W => iIsRatio_c c.1 c.2 W
      change ∀ W, Calls Tryz.prog 129 #[.agg #[.int .i64 c.1, .int .i64 c.2]] W (fun e w' => e = .returned (.bool (okQ c)) ∧ Grows W w') at CI0
      have qlr := qbl2.grows hgr
      clear hc hc' tb2 ox2 qbl2 hlt
      obtain ⟨w3, rfl⟩ : ∃ x : World, x = wr := ⟨_, rfl⟩
      obtain ⟨q0, q1⟩ := qb.cells
      have ql := qb.lt
      cases hok : okQ c
      · rw [hok] at CI0
        have CI := Lib.hid CI0
        have HBAD := Lib.hid (tree_bad (mu := mu) (sq := sq) (i := i) (x := x) (left := left) (by rw [← HC.out]; exact hok) [])
        clear CI0 hok
        go_wp2_with fail
        refine (CI.out _).mono ?_; rintro e w4 ⟨rfl, g4⟩
        have tb4 := tbr.grows g4
        have ox4 := oxr.grows g4
        have hs4 := Below.size g4
        have d4 := tb4.c4
        have df := tb4.fz 4
        have dl := tb4.lt
        have gw4 : Grows w w4 := by exact bel2 g4 gwr
        clear q0 q1 ql d2
        go_wp2_with fail
        go_ret
        exact ⟨[], none, 0, [], true, rfl, HBAD.out, RowsO.nil _ _, by simp, tb4.put4 true, ox4.far (fun g hg => by simp [Value.ownBlock] at hg; show g ≠ b; omega) _, (Mv.of_grows gw4).put (.inr (.inl rfl)) _⟩
      · rw [hok] at CI0
        have CI := Lib.hid CI0
        have CN := Lib.hid fun W => iNeg_c c W
        have CR := Lib.hid fun W => iRoundQ_c (negQ c) W
        have hrb := roundQ_bd (negQ c)
        have HN2 := Lib.hid fun d L bad (h : P2 mu sq i x left c d L bad) hd => P2.dir h hd HC.out
        have HP0 := Lib.hid (show P2 mu sq i x left c 0 [] false from .inl ⟨rfl, rfl, rfl⟩)
        clear CI0 hok
        go_wp2_with fail
        refine (CI.out _).mono ?_; rintro e w4 ⟨rfl, g4⟩
        have qb4 := qb.grows g4
        have hs4 := Below.size g4
        have g3 : Grows w3 w4 := g4
        clear q0 q1 ql d2
        obtain ⟨q0, q1⟩ := qb4.cells
        have ql := qb4.lt
        go_wp2_with fail
        refine (CN.out _).mono ?_; rintro e w5 ⟨rfl, g5⟩
        have hs5 := Below.size g5
        (try simp at hs5)
        clear q0 q1 ql
        go_wp2_with fail
        refine (CR.out _).mono ?_; rintro e w6 ⟨rfl, g6⟩
        have hs6 := Below.size g6
        go_wp2_with fail
        obtain ⟨rs, hrs⟩ : ∃ rs, rs = roundQ (negQ c) := ⟨_, rfl⟩
        rw [← hrs] at hrb ⊢
        have HRS := Lib.hid hrs
        clear hrs CI CN CR
        have g36 : Grows w3 w6 := by exact bel3 g6 g5 g4
        have hcb : w.heap.size < w2.heap.size := by omega
        have h36 := Below.size g36
        have ti0 : TI wK w b R i gx cx (.slice Am R cm) (.slice As R cs) x left c w2.heap.size w6.heap.size [] (some ⟨w4.heap.size, 0, none⟩) 0 [] false 0 (w6.alloc (.cells #[.int .i64 (-1), .int .i64 1] 3)) := by
          have hset : x.set i 0 = x := by
            refine nth_ext (by simp) fun j hj => ?_
            rw [nth_set _ _ _ _ (by rw [HX.out]; omega)]
            by_cases e : j = i
            · rw [if_pos e, e, HZ.out i (by omega)]
            · rw [if_neg e]
          refine ⟨(((RowsO.new_ w4 rfl (by omega)).grows (w' := w5) (by exact bel1 g5)).grows g6).alloc _, (tbr.grows g36).grows (by exact bel0), by rw [hset]; exact (oxr.grows g36).alloc _, .of_grows (by exact bel2 g36 gwr), (qlr.grows g36).grows (by exact bel0), (qb.grows g36).grows (by exact bel0), fun k hk => ?_, by omega, by omega, fun g hg => by simp [Value.ownBlock] at hg; have := qb.lt; omega⟩
          match k with
          | 0 => exact ⟨w6.heap.size, 0, rfl, by simp, by simp [go_sem, nth]⟩
          | 1 => exact ⟨w6.heap.size, 0, rfl, by simp, by simp [go_sem, nth]⟩
          | k + 2 => simp at hk; omega
        clear tbr oxr qb qb4 qlr hgr gwr gKr hsr g4 g5 g6 g3
        go_loopw [9, 70] (fun s9 s70 wr => ∃ (d : Nat) (L : VS) (A : Option Addr) (co : Nat) (vs : List Value) (bad : Bool) (y : Int), s9 = .slice A L.length co ∧ s70 = .int .i64 d ∧ d ≤ 2 ∧ L.length ≤ 4000 * (i + 1) + 1 ∧ P2 mu sq i x left c d L bad ∧ TI wK w b R i gx cx (.slice Am R cm) (.slice As R cs) x left c w2.heap.size w6.heap.size L A co vs bad y wr) (fun _ j _ => 2 - (intOf j).toNat)
        case atStart => exact ⟨0, [], _, _, _, _, _, by first | rfl | (simp; done), rfl, by omega, by simp, HP0.out, ti0⟩
        case round =>
        clear ti0
        obtain ⟨d, L, A, co, vs, bad, y, rfl, rfl, hd, hL, hP, ti⟩ := hrel
        by_cases hd2 : d = 2
        · subst hd2
          have HDONE := Lib.hid hP.done
          have c3 := ti.box.c3
          have bl := ti.box.lt
          have xc := ti.own.cell i (by simp; have := HX.out; omega)
          have xf := ti.own.free i
          have xl := ti.own.lt.2
          have hiR : (i : Int) < (R : Int) := by omega
          have tz := ti.cell HX.out hi hgb hgl.2 0
          have hset : x.set i 0 = x := by
            refine nth_ext (by simp) fun j hj => ?_
            rw [nth_set _ _ _ _ (by rw [HX.out]; omega)]
            by_cases e : j = i
            · rw [if_pos e, e, HZ.out i (by omega)]
            · rw [if_neg e]
          have HSET := Lib.hid hset
          clear hset ti hP
          go_wp2_with fail
          go_ret
          exact ⟨L, A, co, vs, bad, rfl, HDONE.out, tz.rows, hL, tz.box, by have := tz.own; rwa [HSET.out] at this, tz.mv⟩
        obtain ⟨sg, n, F, hsg, hn, h3, hnx⟩ := HN2.out d L bad hP (by omega)
        rw [← HRS.out] at hn
        have hil : i < sq.length := by have := HI.out.l2; simp only at this; omega
        have hiR : (i : Int) < (R : Int) := by omega
        rcases (show d = 0 ∨ d = 1 by omega) with rfl | rfl
        --LOOPS
        · subst hsg
          have hn0 : n = rs := by rw [hn]; simp
          clear hn
          subst hn0
          obtain ⟨s0, s1, sl⟩ := ti.step0
          go_wp2_with fail
          obtain ⟨w7, rfl⟩ : ∃ x : World, x = wr := ⟨_, rfl⟩
          go_loopw [9, 13] (fun s9 s13 wr => ∃ (n : Int) (L : VS) (A : Option Addr) (co : Nat) (vs : List Value) (bad : Bool) (y : Int), s9 = .slice A L.length co ∧ s13 = .int .i64 n ∧ -400000001 ≤ n ∧ n ≤ 400000001 ∧ L.length ≤ 4000 * (i + 1) + 1 ∧ P3 (fun n q o => TreeR mu sq i (x.set i n) q o) (restQ left c (nthQ sq i)) (-1) F n L bad ∧ TI wK w b R i gx cx (.slice Am R cm) (.slice As R cs) x left c w2.heap.size w6.heap.size L A co vs bad y wr) (fun _ j _ => (400000003 - (-1) * intOf j).toNat)
          case atStart => exact ⟨_, L, A, co, vs, bad, y, rfl, rfl, by omega, by omega, hL, h3, ti⟩
          case round =>
            clear h3 ti s0 s1 sl
            obtain ⟨n, L, A, co, vs, bad, y, rfl, rfl, hn1, hn2, hL, h3, ti⟩ := hrel
            obtain ⟨w8, rfl⟩ : ∃ x : World, x = wr := ⟨_, rfl⟩
            have b4 := ti.box.c4
            have bl := ti.box.lt
            have bf := ti.box.fz 4
            cases bad
            rotate_left
            · have HF := Lib.hid (hnx _ _ h3.bad_)
              go_wp2_with fail
              go_round
              case rel => exact ⟨0 + 1, L, A, co, vs, true, y, rfl, by first | rfl | go_num, by omega, hL, HF.out, ti⟩
              case measure => simp [intOf]
            · by_cases hlen : 4000 < L.length
              · have hlen' : (4000 : Int) < (L.length : Int) := by omega
                have tf := ti.fail hbl hgb
                have HF := Lib.hid (hnx L _ (h3.full (.inr hlen)))
                go_wp2_with fail
                go_round
                case rel => exact ⟨0 + 1, L, A, co, vs, true, y, rfl, by first | rfl | go_num, by omega, hL, HF.out, tf⟩
                case measure => simp [intOf]
              · have hlen' : ¬ (4000 : Int) < (L.length : Int) := by omega
                have CW := Lib.hid fun W => whole_c n W
                have CA0 := fun W => iAddRatios_c (wholeQ n) c W
                obtain ⟨yq, hyq⟩ : ∃ q, q = addQ (wholeQ n) c := ⟨_, rfl⟩
                rw [← hyq] at CA0
                have CA := Lib.hid CA0
                have HYQ := Lib.hid hyq
                clear CA0 hyq
                go_upto_region 23 with fail
                go_cut [14] from 79 to 133 (fun s14 wx => ∃ gy : Nat, s14 = .pointer (some ⟨gy, 0, none⟩) ∧ QBox wx gy yq ∧ Grows w8 wx)
                case first =>
                  go_region_held3 (fun W => W.cell? ⟨w2.heap.size, 0, none⟩ = some (.int .i64 c.1) ∧ W.cell? ⟨w2.heap.size, 1, none⟩ = some (.int .i64 c.2)) ((refine QBox.cells (ti.cq.grows ?_); first | exact bel2 g11 g10 | exact bel1 g10 | exact bel0))
                    (first
                     | (go_at_call 64; refine (CW.out _).mono ?_; rintro e w10 ⟨rfl, g10⟩; have z10 := Below.size g10; (try simp at z10); (try (have q := (QBox.new_ w8 (0, 0) 79 rfl).grows (w' := w10) (Grows.trans (show Grows _ _ from (Below.refl _ _).drew) g10))))
                     | (go_at_call 131; refine (CA.out _).mono ?_; rintro e w11 ⟨rfl, g11⟩; have z11 := Below.size g11; (try simp at z11); (first | (replace q := q.grows g11) | (have q := QBox.grows (QBox.new_ w10 (0, 0) 79 rfl) g11) | skip); (try (obtain ⟨q0, q1⟩ := q.cells; have qf := q.fz; have ql := q.lt))))
                  all_goals
                    go_wp2_with fail
                    go_meet
                    exact ⟨_, rfl, by first | exact q.put _ | exact QBox.new_ _ _ _ rfl | exact (QBox.new_ _ (0, 0) _ rfl).put _, by exact bel2 g11 g10⟩
                case rest =>
                  obtain ⟨gy, rfl, qy, hg9⟩ := hcut
                  obtain ⟨w9, rfl⟩ : ∃ x : World, x = wc := ⟨_, rfl⟩
                  have ti9 := ti.grows hg9
                  have gK9 : Grows wK w9 := by
                    refine Mv.below (S := TS b (.slice (some ⟨gx, 0, none⟩) R cx)) ((Mv.of_grows hg).trans ti9.mv) (Nat.le_refl _) fun g h => ?_
                    rcases h with h | h
                    · omega
                    · simp [Value.ownBlock] at h; omega
                  obtain ⟨bs, fs, rfl, hbs, z0, z1⟩ := (hs.grows gK9).at_ i hil
                  obtain ⟨z, hz⟩ : ∃ z, z = nthQ sq i := ⟨_, rfl⟩
                  rw [← hz] at z0 z1
                  have HZS := Lib.hid hz
                  have CM1 := fun W => iMultiplyRatios_c yq yq W
                  have CM2 := fun W => iMultiplyRatios_c (mulQ yq yq) z W
                  have CS0 := fun W => sub_c left (mulQ (mulQ yq yq) z) W
                  obtain ⟨rq, hrq⟩ : ∃ q, q = subQ left (mulQ (mulQ yq yq) z) := ⟨_, rfl⟩
                  have HRQ := Lib.hid (show rq = restQ left c (nthQ sq i) n by rw [hrq, ← HZS.out, HYQ.out]; rfl)
                  rw [← hrq] at CS0
                  generalize mulQ (mulQ yq yq) z = y3 at *
                  generalize mulQ yq yq = y2 at *
                  have CM1' := Lib.hid CM1
                  have CM2' := Lib.hid CM2
                  have CS' := Lib.hid CS0
                  have HK := Lib.hid fun W (g : Grows w9 W) => tree_keep (ti9.lq.grows g) (qy.grows g) (ti9.box.grows g) ((g.cell (p := ⟨bs, fs + i * 2, none⟩) hbs).trans z0) ((g.cell (p := ⟨bs, fs + i * 2 + 1, none⟩) hbs).trans z1)
                  clear CM1 CM2 CS0 hrq hz CW CA b4 bl bf z0 z1
                  go_upto_region 24 with fail
                  go_cut [15] from 79 to 133 (fun s15 wx => ∃ gr : Nat, s15 = .pointer (some ⟨gr, 0, none⟩) ∧ QBox wx gr rq ∧ w9.heap.size ≤ gr ∧ Grows w9 wx)
                  case first =>
                    go_region_held3 (fun W => W.cell? ⟨w.heap.size, 0, none⟩ = some (.int .i64 left.1) ∧ W.cell? ⟨w.heap.size, 1, none⟩ = some (.int .i64 left.2) ∧ W.cell? ⟨gy, 0, none⟩ = some (.int .i64 yq.1) ∧ W.cell? ⟨gy, 1, none⟩ = some (.int .i64 yq.2) ∧ W.cell? ⟨b, 1, none⟩ = some (.slice (some ⟨bs, fs, none⟩) R cs) ∧ W.cell? ⟨bs, fs + i * 2, none⟩ = some (.int .i64 z.1) ∧ W.cell? ⟨bs, fs + i * 2 + 1, none⟩ = some (.int .i64 z.2)) (exact HK.out _ (by first | exact bel3 g12 g11 g10 | exact bel2 g11 g10 | exact bel1 g10 | exact bel0))
                      (first
                       | (go_at_call 128; (with_reducible refine (CM1'.out _).mono ?_); rintro e w10 ⟨rfl, g10⟩; have z10 := Below.size g10; (try simp at z10); (try (have q := (QBox.new_ w9 (0, 0) 79 rfl).grows (w' := w10) (Grows.trans (show Grows _ _ from (Below.refl _ _).drew) g10))))
                       | (go_at_call 128; (with_reducible refine (CM2'.out _).mono ?_); rintro e w11 ⟨rfl, g11⟩; have z11 := Below.size g11; (try simp at z11); (first | (replace q := q.grows g11) | (have q := QBox.grows (QBox.new_ w10 (0, 0) 79 rfl) g11) | skip))
                       | (go_at_call 127; (with_reducible refine (CS'.out _).mono ?_); rintro e w12 ⟨rfl, g12⟩; have z12 := Below.size g12; (try simp at z12); (first | (replace q := q.grows g12) | (have q := QBox.grows (QBox.new_ w11 (0, 0) 79 rfl) g12) | skip); (try (obtain ⟨q0, q1⟩ := q.cells; have qf := q.fz; have ql := q.lt))))
                    all_goals
                      go_wp2_with fail
                      go_meet
                      exact ⟨_, rfl, by first | exact q.put _ | exact QBox.new_ _ _ _ rfl | exact (QBox.new_ _ (0, 0) _ rfl).put _, by first | omega | (simp; done) | (simp; omega), by exact bel3 g12 g11 g10⟩
                  case rest =>
                    obtain ⟨gr, rfl, qr, hgr9, hg10⟩ := hcut
                    obtain ⟨w10, rfl⟩ : ∃ x : World, x = wc := ⟨_, rfl⟩
                    have ti10 := ti9.grows hg10
                    have CI0 := fun W => iIsRatio_c rq.1 rq.2 W
                    change ∀ W, Calls Tryz.prog 129 #[.agg #[.int .i64 rq.1, .int .i64 rq.2]] W (fun e w' => e = .returned (.bool (okQ rq)) ∧ Grows W w') at CI0
                    have z9 := Below.size hg9
                    have zw8 := ti.mv.size
                    have hTS : ∀ g, TS b (.slice (some ⟨gx, 0, none⟩) R cx) g → wK.heap.size ≤ g ∧ g < w.heap.size := fun g h => by
                      rcases h with h | h
                      · omega
                      · simp [Value.ownBlock] at h; omega
                    clear ti ti9 HK CM1' CM2' CS' HYQ HZS qy hg9 hg10 gK9 hbs
                    obtain ⟨r0, r1⟩ := qr.cells
                    have rl := qr.lt
                    cases hok : okQ rq
                    · rw [hok] at CI0
                      have CI := Lib.hid CI0
                      have HF := Lib.hid (hnx L _ (h3.full (.inl (by rw [← HRQ.out]; exact hok))))
                      clear CI0 hok
                      go_wp2_with fail
                      refine (CI.out _).mono ?_; rintro e w11 ⟨rfl, g11⟩
                      have ti11 := ti10.grows g11
                      have tf := ti11.fail hbl hgb
                      have b4 := ti11.box.c4
                      have bl := ti11.box.lt
                      have bf := ti11.box.fz 4
                      clear r0 r1 rl
                      go_wp2_with fail
                      go_round
                      case rel => exact ⟨0 + 1, L, A, co, vs, true, y, rfl, by first | rfl | go_num, by omega, hL, HF.out, tf⟩
                      case measure => simp [intOf]
                    · rw [hok] at CI0
                      have CI := Lib.hid CI0
                      have HOK := Lib.hid (show okQ (restQ left c (nthQ sq i) n) = true by rw [← HRQ.out]; exact hok)
                      clear CI0 hok
                      go_wp2_with fail
                      refine (CI.out _).mono ?_; rintro e w11 ⟨rfl, g11⟩
                      have ti11 := ti10.grows g11
                      have qr11 := qr.grows g11
                      clear r0 r1 rl
                      obtain ⟨r0, r1⟩ := qr11.cells
                      have rl := qr11.lt
                      by_cases hneg : rq.1 < 0
                      · have HF := Lib.hid (hnx L _ (h3.stop HOK.out (by omega) (by rw [← HRQ.out]; exact hneg)))
                        go_wp2_with fail
                        go_round
                        case rel => exact ⟨0 + 1, L, A, co, vs, false, y, rfl, by first | rfl | go_num, by omega, hL, HF.out, ti11⟩
                        case measure => simp [intOf]
                      · have b3 := ti11.box.c3
                        have bl := ti11.box.lt
                        have xc := ti11.own.cell i (by simp; have := HX.out; omega)
                        have xf := ti11.own.free i
                        have xl := ti11.own.lt.2
                        obtain ⟨w12, hw12⟩ : ∃ W, W = w11.setCell ⟨gx, i, none⟩ (.int .i64 n) := ⟨_, rfl⟩
                        have ti12 : TI wK w b R i gx cx (.slice Am R cm) (.slice (some ⟨bs, fs, none⟩) R cs) x left c w2.heap.size w6.heap.size L A co vs false n w12 := by rw [hw12]; exact ti11.cell HX.out hi hgb hgl.2 n
                        have qr12 : QBox w12 gr rq := by rw [hw12]; exact qr11.far (show gx ≠ gr by omega) _
                        have HW12 := Lib.hid hw12
                        have gK12 : Grows wK w12 := Mv.below ((Mv.of_grows hg).trans ti12.mv) (Nat.le_refl _) fun g h => (hTS g h).1
                        have CP := Lib.hid (HIH.out (x.set i n) rq w12 (by simp; exact HX.out) (fun t ht => by rw [nth_set _ _ _ _ (by rw [HX.out]; omega), if_neg (by omega)]; exact HZ.out t (by omega)) gK12 ti12.box ti12.own)
                        obtain ⟨_, _, _, hnlo, hnhi, _⟩ := restQ_parts HOK.out
                        have hwn : IntKind.i64.wrap (n + (-1)) = n + (-1) := IntWalk.i64_in _ (by omega)
                        have hwi : IntKind.i64.wrap ((i : Int) - 1) = (i : Int) - 1 := IntWalk.i64_in _ (by omega)
                        have HST := Lib.hid fun M bad2 h => h3.step (M := M) (bad := bad2) HOK.out (by omega) (by rw [← HRQ.out]; omega) h
                        have hTS1 : ∀ g, TS b (.slice (some ⟨gx, 0, none⟩) R cx) g → g < w.heap.size := fun g h => (hTS g h).2
                        have zw12 := ti12.mv.size
                        clear hw12 hTS gK12 h3 ti10 ti11
                        go_upto_region 29 with fail
                        rw [← HW12.out]
                        clear r0 r1 rl b3 bl xc xf xl
                        obtain ⟨r0, r1⟩ := qr12.cells
                        have rl := qr12.lt
                        go_wp2_with fail
                        refine CP.out.mono ?_; rintro e w13 ⟨M, A2, c2, us, bad2, rfl, hPF, rows2, hM, box2, own2, mv2⟩
                        have hs13 := mv2.size
                        have hro := ti12.rows.mv mv2 hTS1
                        have hro1 : ∀ g, (Value.slice A L.length co).ownBlock = some g → g < w12.heap.size := fun g e => (ti12.rows.own.lt e).2
                        have hro2 : ∀ (k : Nat) (u : Value), vs[k]? = some u → ∀ g, u.ownBlock = some g → g < w12.heap.size := fun k u hk g e => (ti12.rows.lt hk e).2
                        have hLM : L.length + M.length ≤ 4000 * (i + 1) + 1 := by omega
                        rw [HRQ.out] at hPF
                        have HP4 := Lib.hid (HST.out M bad2 hPF)
                        have HNX4 := Lib.hid fun (W : World) (A3 : Option Addr) (co3 : Nat) ho hg hv => ti12.next (M := M) (us := us) (W3 := W) (A3 := A3) (co3 := co3) hbl hgl.2 box2 own2 mv2 ho hg hv
                        clear hPF r0 r1 rl
                        go_wp2_with (at_builtin; refine wpList_appOn rfl (.tmp 127) (.tmp 132) rfl _ w.heap.size w12.heap.size _ vs us L M A2 c2 (by rfl) (by rfl) hro rows2 (by omega) hro1 hro2 (by omega) (by omega) ?_; intro v14 w14 ho14 hg14 hv14; obtain ⟨A4, c4, rfl, _, _⟩ := ho14.val; have ti14 := HNX4.out _ _ _ ho14 hg14 hv14)
                        go_round
                        case rel => exact ⟨n + (-1), L ++ M, A4, c4, vs ++ us, bad2, n, by first | rfl | rw [List.length_append], by first | rfl | go_num, by omega, by omega, by rw [List.length_append]; exact hLM, HP4.out, ti14⟩
                        case measure => first | (simp [intOf]; omega) | (simp [intOf]; done)
        · subst hsg
          have hn1 : IntKind.i64.wrap (rs + 1) = rs + 1 := IntWalk.i64_in _ (by omega)
          have hn0 : n = rs + 1 := by rw [hn]; simp
          rw [show ((1 : Nat) : Int) = 1 from rfl]
          clear hn
          subst hn0
          obtain ⟨s0, s1, sl⟩ := ti.step0
          go_wp2_with fail
          obtain ⟨w7, rfl⟩ : ∃ x : World, x = wr := ⟨_, rfl⟩
          go_loopw [9, 13] (fun s9 s13 wr => ∃ (n : Int) (L : VS) (A : Option Addr) (co : Nat) (vs : List Value) (bad : Bool) (y : Int), s9 = .slice A L.length co ∧ s13 = .int .i64 n ∧ -400000001 ≤ n ∧ n ≤ 400000001 ∧ L.length ≤ 4000 * (i + 1) + 1 ∧ P3 (fun n q o => TreeR mu sq i (x.set i n) q o) (restQ left c (nthQ sq i)) 1 F n L bad ∧ TI wK w b R i gx cx (.slice Am R cm) (.slice As R cs) x left c w2.heap.size w6.heap.size L A co vs bad y wr) (fun _ j _ => (400000003 - 1 * intOf j).toNat)
          case atStart => exact ⟨_, L, A, co, vs, bad, y, rfl, rfl, by omega, by omega, hL, h3, ti⟩
          case round =>
            clear h3 ti s0 s1 sl
            obtain ⟨n, L, A, co, vs, bad, y, rfl, rfl, hn1, hn2, hL, h3, ti⟩ := hrel
            obtain ⟨w8, rfl⟩ : ∃ x : World, x = wr := ⟨_, rfl⟩
            have b4 := ti.box.c4
            have bl := ti.box.lt
            have bf := ti.box.fz 4
            cases bad
            rotate_left
            · have HF := Lib.hid (hnx _ _ h3.bad_)
              go_wp2_with fail
              go_round
              case rel => exact ⟨1 + 1, L, A, co, vs, true, y, rfl, by first | rfl | go_num, by omega, hL, HF.out, ti⟩
              case measure => simp [intOf]
            · by_cases hlen : 4000 < L.length
              · have hlen' : (4000 : Int) < (L.length : Int) := by omega
                have tf := ti.fail hbl hgb
                have HF := Lib.hid (hnx L _ (h3.full (.inr hlen)))
                go_wp2_with fail
                go_round
                case rel => exact ⟨1 + 1, L, A, co, vs, true, y, rfl, by first | rfl | go_num, by omega, hL, HF.out, tf⟩
                case measure => simp [intOf]
              · have hlen' : ¬ (4000 : Int) < (L.length : Int) := by omega
                have CW := Lib.hid fun W => whole_c n W
                have CA0 := fun W => iAddRatios_c (wholeQ n) c W
                obtain ⟨yq, hyq⟩ : ∃ q, q = addQ (wholeQ n) c := ⟨_, rfl⟩
                rw [← hyq] at CA0
                have CA := Lib.hid CA0
                have HYQ := Lib.hid hyq
                clear CA0 hyq
                go_upto_region 23 with fail
                go_cut [14] from 79 to 133 (fun s14 wx => ∃ gy : Nat, s14 = .pointer (some ⟨gy, 0, none⟩) ∧ QBox wx gy yq ∧ Grows w8 wx)
                case first =>
                  go_region_held3 (fun W => W.cell? ⟨w2.heap.size, 0, none⟩ = some (.int .i64 c.1) ∧ W.cell? ⟨w2.heap.size, 1, none⟩ = some (.int .i64 c.2)) ((refine QBox.cells (ti.cq.grows ?_); first | exact bel2 g11 g10 | exact bel1 g10 | exact bel0))
                    (first
                     | (go_at_call 64; refine (CW.out _).mono ?_; rintro e w10 ⟨rfl, g10⟩; have z10 := Below.size g10; (try simp at z10); (try (have q := (QBox.new_ w8 (0, 0) 79 rfl).grows (w' := w10) (Grows.trans (show Grows _ _ from (Below.refl _ _).drew) g10))))
                     | (go_at_call 131; refine (CA.out _).mono ?_; rintro e w11 ⟨rfl, g11⟩; have z11 := Below.size g11; (try simp at z11); (first | (replace q := q.grows g11) | (have q := QBox.grows (QBox.new_ w10 (0, 0) 79 rfl) g11) | skip); (try (obtain ⟨q0, q1⟩ := q.cells; have qf := q.fz; have ql := q.lt))))
                  all_goals
                    go_wp2_with fail
                    go_meet
                    exact ⟨_, rfl, by first | exact q.put _ | exact QBox.new_ _ _ _ rfl | exact (QBox.new_ _ (0, 0) _ rfl).put _, by exact bel2 g11 g10⟩
                case rest =>
                  obtain ⟨gy, rfl, qy, hg9⟩ := hcut
                  obtain ⟨w9, rfl⟩ : ∃ x : World, x = wc := ⟨_, rfl⟩
                  have ti9 := ti.grows hg9
                  have gK9 : Grows wK w9 := by
                    refine Mv.below (S := TS b (.slice (some ⟨gx, 0, none⟩) R cx)) ((Mv.of_grows hg).trans ti9.mv) (Nat.le_refl _) fun g h => ?_
                    rcases h with h | h
                    · omega
                    · simp [Value.ownBlock] at h; omega
                  obtain ⟨bs, fs, rfl, hbs, z0, z1⟩ := (hs.grows gK9).at_ i hil
                  obtain ⟨z, hz⟩ : ∃ z, z = nthQ sq i := ⟨_, rfl⟩
                  rw [← hz] at z0 z1
                  have HZS := Lib.hid hz
                  have CM1 := fun W => iMultiplyRatios_c yq yq W
                  have CM2 := fun W => iMultiplyRatios_c (mulQ yq yq) z W
                  have CS0 := fun W => sub_c left (mulQ (mulQ yq yq) z) W
                  obtain ⟨rq, hrq⟩ : ∃ q, q = subQ left (mulQ (mulQ yq yq) z) := ⟨_, rfl⟩
                  have HRQ := Lib.hid (show rq = restQ left c (nthQ sq i) n by rw [hrq, ← HZS.out, HYQ.out]; rfl)
                  rw [← hrq] at CS0
                  generalize mulQ (mulQ yq yq) z = y3 at *
                  generalize mulQ yq yq = y2 at *
                  have CM1' := Lib.hid CM1
                  have CM2' := Lib.hid CM2
                  have CS' := Lib.hid CS0
                  have HK := Lib.hid fun W (g : Grows w9 W) => tree_keep (ti9.lq.grows g) (qy.grows g) (ti9.box.grows g) ((g.cell (p := ⟨bs, fs + i * 2, none⟩) hbs).trans z0) ((g.cell (p := ⟨bs, fs + i * 2 + 1, none⟩) hbs).trans z1)
                  clear CM1 CM2 CS0 hrq hz CW CA b4 bl bf z0 z1
                  go_upto_region 24 with fail
                  go_cut [15] from 79 to 133 (fun s15 wx => ∃ gr : Nat, s15 = .pointer (some ⟨gr, 0, none⟩) ∧ QBox wx gr rq ∧ w9.heap.size ≤ gr ∧ Grows w9 wx)
                  case first =>
                    go_region_held3 (fun W => W.cell? ⟨w.heap.size, 0, none⟩ = some (.int .i64 left.1) ∧ W.cell? ⟨w.heap.size, 1, none⟩ = some (.int .i64 left.2) ∧ W.cell? ⟨gy, 0, none⟩ = some (.int .i64 yq.1) ∧ W.cell? ⟨gy, 1, none⟩ = some (.int .i64 yq.2) ∧ W.cell? ⟨b, 1, none⟩ = some (.slice (some ⟨bs, fs, none⟩) R cs) ∧ W.cell? ⟨bs, fs + i * 2, none⟩ = some (.int .i64 z.1) ∧ W.cell? ⟨bs, fs + i * 2 + 1, none⟩ = some (.int .i64 z.2)) (exact HK.out _ (by first | exact bel3 g12 g11 g10 | exact bel2 g11 g10 | exact bel1 g10 | exact bel0))
                      (first
                       | (go_at_call 128; (with_reducible refine (CM1'.out _).mono ?_); rintro e w10 ⟨rfl, g10⟩; have z10 := Below.size g10; (try simp at z10); (try (have q := (QBox.new_ w9 (0, 0) 79 rfl).grows (w' := w10) (Grows.trans (show Grows _ _ from (Below.refl _ _).drew) g10))))
                       | (go_at_call 128; (with_reducible refine (CM2'.out _).mono ?_); rintro e w11 ⟨rfl, g11⟩; have z11 := Below.size g11; (try simp at z11); (first | (replace q := q.grows g11) | (have q := QBox.grows (QBox.new_ w10 (0, 0) 79 rfl) g11) | skip))
                       | (go_at_call 127; (with_reducible refine (CS'.out _).mono ?_); rintro e w12 ⟨rfl, g12⟩; have z12 := Below.size g12; (try simp at z12); (first | (replace q := q.grows g12) | (have q := QBox.grows (QBox.new_ w11 (0, 0) 79 rfl) g12) | skip); (try (obtain ⟨q0, q1⟩ := q.cells; have qf := q.fz; have ql := q.lt))))
                    all_goals
                      go_wp2_with fail
                      go_meet
                      exact ⟨_, rfl, by first | exact q.put _ | exact QBox.new_ _ _ _ rfl | exact (QBox.new_ _ (0, 0) _ rfl).put _, by first | omega | (simp; done) | (simp; omega), by exact bel3 g12 g11 g10⟩
                  case rest =>
                    obtain ⟨gr, rfl, qr, hgr9, hg10⟩ := hcut
                    obtain ⟨w10, rfl⟩ : ∃ x : World, x = wc := ⟨_, rfl⟩
                    have ti10 := ti9.grows hg10
                    have CI0 := fun W => iIsRatio_c rq.1 rq.2 W
                    change ∀ W, Calls Tryz.prog 129 #[.agg #[.int .i64 rq.1, .int .i64 rq.2]] W (fun e w' => e = .returned (.bool (okQ rq)) ∧ Grows W w') at CI0
                    have z9 := Below.size hg9
                    have zw8 := ti.mv.size
                    have hTS : ∀ g, TS b (.slice (some ⟨gx, 0, none⟩) R cx) g → wK.heap.size ≤ g ∧ g < w.heap.size := fun g h => by
                      rcases h with h | h
                      · omega
                      · simp [Value.ownBlock] at h; omega
                    clear ti ti9 HK CM1' CM2' CS' HYQ HZS qy hg9 hg10 gK9 hbs
                    obtain ⟨r0, r1⟩ := qr.cells
                    have rl := qr.lt
                    cases hok : okQ rq
                    · rw [hok] at CI0
                      have CI := Lib.hid CI0
                      have HF := Lib.hid (hnx L _ (h3.full (.inl (by rw [← HRQ.out]; exact hok))))
                      clear CI0 hok
                      go_wp2_with fail
                      refine (CI.out _).mono ?_; rintro e w11 ⟨rfl, g11⟩
                      have ti11 := ti10.grows g11
                      have tf := ti11.fail hbl hgb
                      have b4 := ti11.box.c4
                      have bl := ti11.box.lt
                      have bf := ti11.box.fz 4
                      clear r0 r1 rl
                      go_wp2_with fail
                      go_round
                      case rel => exact ⟨1 + 1, L, A, co, vs, true, y, rfl, by first | rfl | go_num, by omega, hL, HF.out, tf⟩
                      case measure => simp [intOf]
                    · rw [hok] at CI0
                      have CI := Lib.hid CI0
                      have HOK := Lib.hid (show okQ (restQ left c (nthQ sq i) n) = true by rw [← HRQ.out]; exact hok)
                      clear CI0 hok
                      go_wp2_with fail
                      refine (CI.out _).mono ?_; rintro e w11 ⟨rfl, g11⟩
                      have ti11 := ti10.grows g11
                      have qr11 := qr.grows g11
                      clear r0 r1 rl
                      obtain ⟨r0, r1⟩ := qr11.cells
                      have rl := qr11.lt
                      by_cases hneg : rq.1 < 0
                      · have HF := Lib.hid (hnx L _ (h3.stop HOK.out (by omega) (by rw [← HRQ.out]; exact hneg)))
                        go_wp2_with fail
                        go_round
                        case rel => exact ⟨1 + 1, L, A, co, vs, false, y, rfl, by first | rfl | go_num, by omega, hL, HF.out, ti11⟩
                        case measure => simp [intOf]
                      · have b3 := ti11.box.c3
                        have bl := ti11.box.lt
                        have xc := ti11.own.cell i (by simp; have := HX.out; omega)
                        have xf := ti11.own.free i
                        have xl := ti11.own.lt.2
                        obtain ⟨w12, hw12⟩ : ∃ W, W = w11.setCell ⟨gx, i, none⟩ (.int .i64 n) := ⟨_, rfl⟩
                        have ti12 : TI wK w b R i gx cx (.slice Am R cm) (.slice (some ⟨bs, fs, none⟩) R cs) x left c w2.heap.size w6.heap.size L A co vs false n w12 := by rw [hw12]; exact ti11.cell HX.out hi hgb hgl.2 n
                        have qr12 : QBox w12 gr rq := by rw [hw12]; exact qr11.far (show gx ≠ gr by omega) _
                        have HW12 := Lib.hid hw12
                        have gK12 : Grows wK w12 := Mv.below ((Mv.of_grows hg).trans ti12.mv) (Nat.le_refl _) fun g h => (hTS g h).1
                        have CP := Lib.hid (HIH.out (x.set i n) rq w12 (by simp; exact HX.out) (fun t ht => by rw [nth_set _ _ _ _ (by rw [HX.out]; omega), if_neg (by omega)]; exact HZ.out t (by omega)) gK12 ti12.box ti12.own)
                        obtain ⟨_, _, _, hnlo, hnhi, _⟩ := restQ_parts HOK.out
                        have hwn : IntKind.i64.wrap (n + 1) = n + 1 := IntWalk.i64_in _ (by omega)
                        have hwi : IntKind.i64.wrap ((i : Int) - 1) = (i : Int) - 1 := IntWalk.i64_in _ (by omega)
                        have HST := Lib.hid fun M bad2 h => h3.step (M := M) (bad := bad2) HOK.out (by omega) (by rw [← HRQ.out]; omega) h
                        have hTS1 : ∀ g, TS b (.slice (some ⟨gx, 0, none⟩) R cx) g → g < w.heap.size := fun g h => (hTS g h).2
                        have zw12 := ti12.mv.size
                        clear hw12 hTS gK12 h3 ti10 ti11
                        go_upto_region 29 with fail
                        rw [← HW12.out]
                        clear r0 r1 rl b3 bl xc xf xl
                        obtain ⟨r0, r1⟩ := qr12.cells
                        have rl := qr12.lt
                        go_wp2_with fail
                        refine CP.out.mono ?_; rintro e w13 ⟨M, A2, c2, us, bad2, rfl, hPF, rows2, hM, box2, own2, mv2⟩
                        have hs13 := mv2.size
                        have hro := ti12.rows.mv mv2 hTS1
                        have hro1 : ∀ g, (Value.slice A L.length co).ownBlock = some g → g < w12.heap.size := fun g e => (ti12.rows.own.lt e).2
                        have hro2 : ∀ (k : Nat) (u : Value), vs[k]? = some u → ∀ g, u.ownBlock = some g → g < w12.heap.size := fun k u hk g e => (ti12.rows.lt hk e).2
                        have hLM : L.length + M.length ≤ 4000 * (i + 1) + 1 := by omega
                        rw [HRQ.out] at hPF
                        have HP4 := Lib.hid (HST.out M bad2 hPF)
                        have HNX4 := Lib.hid fun (W : World) (A3 : Option Addr) (co3 : Nat) ho hg hv => ti12.next (M := M) (us := us) (W3 := W) (A3 := A3) (co3 := co3) hbl hgl.2 box2 own2 mv2 ho hg hv
                        clear hPF r0 r1 rl
                        go_wp2_with (at_builtin; refine wpList_appOn rfl (.tmp 127) (.tmp 132) rfl _ w.heap.size w12.heap.size _ vs us L M A2 c2 (by rfl) (by rfl) hro rows2 (by omega) hro1 hro2 (by omega) (by omega) ?_; intro v14 w14 ho14 hg14 hv14; obtain ⟨A4, c4, rfl, _, _⟩ := ho14.val; have ti14 := HNX4.out _ _ _ ho14 hg14 hv14)
                        go_round
                        case rel => exact ⟨n + 1, L ++ M, A4, c4, vs ++ us, bad2, n, by first | rfl | rw [List.length_append], by first | rfl | go_num, by omega, by omega, by rw [List.length_append]; exact hLM, HP4.out, ti14⟩
                        case measure => first | (simp [intOf]; omega) | (simp [intOf]; done)
        --ENDLOOPS
end
end Go.Proofs.YtfilbjbogggaoaaGreat

/- Plain: what the search cell by cell finds has values up to the bound; its answer as a function. -/
namespace Go.Proofs.YtfilbjbogggaoaaGreat
set_option linter.unusedSimpArgs false
set_option linter.unusedVariables false
open Go.RowKit

theorem Swp.mem {T : Int → Q2 → Option VS → Prop} {rest : Int → Q2} {st n : Int} {out : VS} {o : Option VS} (h : Swp T rest st n out o) {r : VS} (ho : o = some r) {v : List Int} (hv : v ∈ r) : v ∈ out ∨ ∃ m more, okQ (rest m) = true ∧ 0 ≤ (rest m).1 ∧ T m (rest m) (some more) ∧ v ∈ more := by
  induction h with
  | bad => cases ho
  | stop => cases ho; exact .inl hv
  | fail => cases ho
  | next h1 h2 h3 h4 _ ih =>
    rcases ih ho with h | h
    · rcases List.mem_append.1 h with h | h
      · exact .inl h
      · exact .inr ⟨_, _, h1, h3, h4, h⟩
    · exact .inr h
/-- a vector found at a level comes from one of its cell's values -/
theorem TreeR.mem {mu : List (List Q2)} {sq : List Q2} {i : Nat} {x : List Int} {left : Q2} {L : VS} (h : TreeR mu sq (i + 1) x left (some L)) {v : List Int} (hv : v ∈ L) : ∃ m more, okQ (restQ left (cenQ mu x i (x.length - (i + 1))) (nthQ sq i) m) = true ∧ 0 ≤ (restQ left (cenQ mu x i (x.length - (i + 1))) (nthQ sq i) m).1 ∧ TreeR mu sq i (x.set i m) (restQ left (cenQ mu x i (x.length - (i + 1))) (nthQ sq i) m) (some more) ∧ v ∈ more := by
  unfold TreeR at h
  obtain ⟨o1, h1, h2, h3⟩ := h
  cases o1 with
  | none => cases h2 rfl
  | some out =>
    rcases (h3 out rfl).mem rfl hv with h | h
    · rcases h1.mem rfl h with h | h
      · cases h
      · exact h
    · exact h
theorem TreeR.cells {mu : List (List Q2)} {sq : List Q2} : ∀ {k : Nat} {x : List Int} {left : Q2} {L : VS}, TreeR mu sq k x left (some L) → ∀ {v : List Int}, v ∈ L → v.length = x.length ∧ ∀ j, k ≤ j → nth v j = nth x j
  | 0, x, left, L, h, v, hv => by
    unfold TreeR at h
    cases h
    rw [List.mem_singleton] at hv
    subst hv
    exact ⟨rfl, fun _ _ => rfl⟩
  | i + 1, x, left, L, h, v, hv => by
    obtain ⟨m, more, _, _, h3, h4⟩ := h.mem hv
    obtain ⟨h5, h6⟩ := TreeR.cells h3 h4
    refine ⟨by rw [h5, List.length_set], fun j hj => ?_⟩
    rw [h6 j (by omega)]
    by_cases e : i < x.length
    · rw [nth_set _ _ _ _ e, if_neg (by omega)]
    · rw [List.set_eq_of_length_le (by omega)]
theorem TreeR.cell_at {mu : List (List Q2)} {sq : List Q2} {i : Nat} {x : List Int} {left : Q2} {L : VS} {m : Int} (h : TreeR mu sq i (x.set i m) left (some L)) (hi : i < x.length) {v : List Int} (hv : v ∈ L) : nth v i = m := by
  rw [(h.cells hv).2 i (Nat.le_refl _), nth_set _ _ _ _ hi, if_pos rfl]
theorem cenQ_val {mu : List (List Q2)} {v : List Int} {i t : Nat} (h : okQ (cenQ mu v i t) = true) : rv (cenQ mu v i t) = sumR t fun u => (nth v (i + 1 + u) : Rat) * rv (nthQ (mu.getD (i + 1 + u) []) i) := by
  induction t with
  | zero => show rv (0, 1) = 0; rw [rv_whole]; rfl
  | succ t ih =>
    rw [cenQ] at h ⊢
    obtain ⟨h1, h2, h3⟩ := addQ_val h
    obtain ⟨_, _, h6⟩ := mulQ_val h2
    have hw : rv (wholeQ (nth v (i + 1 + t))) = nth v (i + 1 + t) := rv_whole _
    rw [h3, h6, hw, ih h1, sumR]
/-- what is left of the bound is never below 0 -/
theorem tree_le {R : Nat} {l : List Int} {s : List (List Q2) × List Q2} (V : AccV R l R s) : ∀ {k : Nat} {x : List Int} {left : Q2} {L : VS}, k ≤ R → x.length = R → okQ left = true → 0 ≤ left.1 → TreeR s.1 s.2 k x left (some L) → ∀ {v : List Int}, v ∈ L → (sumR k fun j => sqV s j * (ordV R s (nth v) j * ordV R s (nth v) j)) ≤ rv left
  | 0, x, left, L, _, _, hok, hp, h, v, hv => by
    have := rv_nonneg hok hp
    exact this
  | i + 1, x, left, L, hk, hx, hok, hp, h, v, hv => by
    obtain ⟨m, more, h1, h2, h3, h4⟩ := h.mem hv
    have ih := tree_le V (by omega) (by rw [List.length_set]; exact hx) h1 h2 h3 h4
    obtain ⟨_, hc, _, _, _, hr⟩ := restQ_parts h1
    have e1 : ordV R s (nth v) i = (m : Rat) + rv (cenQ s.1 x i (x.length - (i + 1))) := by
      rw [ordV_cell (by omega), cenQ_val hc, h3.cell_at (by omega) h4, hx]
      congr 1
      refine sumR_congr fun t ht => ?_
      rw [(h.cells hv).2 _ (by omega)]
    have e2 : rv (nthQ s.2 i) = sqV s i := rfl
    rw [hr, e2, ← e1] at ih
    rw [sumR]
    grind
theorem def_sym {R : Nat} {l : List Int} (hd : isDef R R l = true) : ∀ i j, i < R → j < R → nth l (i * R + j) = nth l (j * R + i) := by
  obtain ⟨_, R', e1, _, _, hl, _⟩ := isSq_nat (isDef_sq hd)
  obtain rfl : R' = R := by omega
  have hg : isGram R' R' l = true := by
    unfold isDef at hd
    simp only [Bool.and_eq_true] at hd
    exact hd.2
  have hs := (symB_iff hl).1 (by unfold isGram at hg; simp only [Bool.and_eq_true, Int.toNat_natCast] at hg; exact hg.2)
  intro i j hi hj
  by_cases e : j < i
  · exact hs i j hi e
  · by_cases e2 : i = j
    · rw [e2]
    · exact (hs j i hj (by omega)).symm
/-- the values of what the search finds are up to the bound -/
theorem tree_bound {R : Nat} {l : List Int} {s : List (List Q2) × List Q2} {b : Int} {x : List Int} {L : VS} (hd : isDef R R l = true) (ha : accF R l R = some s) (hb : 0 ≤ b) (hb2 : b ≤ 10000) (hx : x.length = R) (h : TreeR s.1 s.2 R x (b, 1) (some L)) {v : List Int} (hv : v ∈ L) (ho : vOk R R l v = true) : vVal R R l v ≤ b := by
  have V := accF_val ha
  have hok : okQ (b, 1) = true := by
    unfold okQ
    rw [isRat_iff]
    refine ⟨by simp only; omega, by simp only; omega, by simp only; omega, by simp only; omega, ?_⟩
    show gcdI b 1 = 1
    unfold gcdI; simp
  have h1 := tree_le V (Nat.le_refl R) hx hok hb h hv
  rw [← V.squares (def_sym hd) (nth v), rv_whole] at h1
  rw [vVal_qf ho]
  exact Rat.intCast_le_intCast.1 h1
open Classical in
/-- the answer of the search, as a function -/
noncomputable def treeO (mu : List (List Q2)) (sq : List Q2) (k : Nat) (v : List Int) (left : Q2) : Option VS := if h : ∃ o, TreeR mu sq k v left o then h.choose else none
theorem treeO_eq {mu : List (List Q2)} {sq : List Q2} {k : Nat} {v : List Int} {left : Q2} {o : Option VS} (h : TreeR mu sq k v left o) : treeO mu sq k v left = o := by
  unfold treeO
  have h2 : ∃ o, TreeR mu sq k v left o := ⟨o, h⟩
  rw [dif_pos h2]
  exact TreeR.det _ _ _ _ _ h2.choose_spec h
theorem PF.tree {mu : List (List Q2)} {sq : List Q2} {k : Nat} {v : List Int} {left : Q2} {L : VS} {bad : Bool} (h : PF (TreeR mu sq k v left) L bad) : treeO mu sq k v left = if bad then none else some L := by
  obtain ⟨o, h1, h2, h3⟩ := h
  rw [treeO_eq h1]
  cases o with
  | none => subst h2; rfl
  | some y => obtain rfl := h3 y rfl; subst h2; rfl
/-- the short vectors by the search -/
noncomputable def sbtO (g : MX) (b : Int) : Option (List KV) :=
  if isDef g.r g.c g.l && inB b 0 10000 then (accF g.r.toNat g.l g.r.toNat).bind fun s => (treeO s.1 s.2 g.r.toNat (List.replicate g.r.toNat 0) (b, 1)).map fun rows => putsK [] (shL g b rows) else none
theorem sbtO_no1 {g : MX} {b : Int} (h : isDef g.r g.c g.l = false) : sbtO g b = none := by unfold sbtO; rw [h]; rfl
theorem sbtO_no2 {g : MX} {b : Int} (h : inB b 0 10000 = false) : sbtO g b = none := by unfold sbtO; rw [h]; simp
theorem sbtO_yes {R : Nat} {l : List Int} {b : Int} (h : isDef R R l = true) (hb : inB b 0 10000 = true) : sbtO ⟨R, R, l⟩ b = (accF R l R).bind fun s => (treeO s.1 s.2 R (List.replicate R 0) (b, 1)).map fun rows => putsK [] (shL ⟨R, R, l⟩ b rows) := by
  unfold sbtO; simp only [h, hb, Bool.and_self, if_true, Int.toNat_natCast]
theorem sbtO_rows {g : MX} {b : Int} {s : List KV} (h : sbtO g b = some s) : ∃ (R : Nat) (L : VS), R ≤ 6 ∧ s = putsK [] (shL g b L) ∧ L.length ≤ L.length ∧ ∀ v ∈ L, v.length = R := by
  unfold sbtO at h
  split at h
  · rename_i hh
    simp only [Bool.and_eq_true] at hh
    obtain ⟨_, R, e1, _, hR, _⟩ := isSq_nat (isDef_sq hh.1)
    obtain ⟨a, _, h2⟩ := Option.bind_eq_some_iff.1 h
    obtain ⟨L, h3, rfl⟩ := Option.map_eq_some_iff.1 h2
    have ht : TreeR a.1 a.2 g.r.toNat (List.replicate g.r.toNat 0) (b, 1) (some L) := by
      unfold treeO at h3
      split at h3
      · rename_i hx
        have := hx.choose_spec
        rwa [h3] at this
      · cases h3
    refine ⟨R, L, hR, rfl, Nat.le_refl _, fun v hv => ?_⟩
    have := (ht.cells hv).1
    rw [List.length_replicate] at this
    omega
  · cases h
end Go.Proofs.YtfilbjbogggaoaaGreat
