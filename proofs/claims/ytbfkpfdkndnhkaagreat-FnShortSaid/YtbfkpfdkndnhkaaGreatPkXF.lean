/- Contracts and lemmas, put together. -/
import Derived.BigQuiet
import Derived.Deep.QuietTactic
import Derived.Test.YtbfkpfdkndnhkaaGreatPkA
import Derived.Test.YtbfkpfdkndnhkaaGreatPkCS
import Derived.Test.YtbfkpfdkndnhkaaGreatPkES
import Derived.Test.YtbfkpfdkndnhkaaGreatPkVS
/- Plain: the expansion of a determinant by any row, Cramer's rule, and the inequality of Cauchy and Schwarz. -/
namespace Go.Proofs.YtbfkpfdkndnhkaaGreat
set_option linter.unusedSimpArgs false
set_option linter.unusedVariables false

/-! ### any row -/
theorem sgn_next (k : Nat) : sgn (k + 1) = - sgn k := by unfold sgn; split <;> split <;> omega
theorem dets_exp (n : Nat) (i : Nat) : ∀ (f : Nat → Nat → Int), i < n + 1 → dets (n + 1) f = sumN (n + 1) fun k => sgn (i + k) * f i k * dets n fun a b => f (skip i a) (skip k b) := by
  induction i with
  | zero =>
    intro f _
    simp only [dets]
    refine sumN_congr fun k _ => ?_
    rw [Nat.zero_add]
    rfl
  | succ i ih =>
    intro f hi
    have e : f = setR (setR f i (f i)) (i + 1) (f (i + 1)) := by rw [setR_self, setR_self]
    have h := dets_swap (n + 1) f i (by omega) (f i) (f (i + 1))
    rw [← e] at h
    rw [h, ih _ (by omega), ← sumN_neg]
    refine sumN_congr fun k _ => ?_
    have e1 : setR (setR f i (f (i + 1))) (i + 1) (f i) i k = f (i + 1) k := by simp [setR]
    have e2 : (fun a b => setR (setR f i (f (i + 1))) (i + 1) (f i) (skip i a) (skip k b)) = fun a b => f (skip (i + 1) a) (skip k b) := by
      funext a b
      by_cases h1 : a < i
      · have s1 : skip i a = a := by unfold skip; rw [if_pos h1]
        have s2 : skip (i + 1) a = a := by unfold skip; rw [if_pos (by omega)]
        rw [s1, s2]; unfold setR; rw [if_neg (by omega), if_neg (by omega)]
      · have s1 : skip i a = a + 1 := by unfold skip; rw [if_neg h1]
        by_cases h2 : a = i
        · subst h2
          have s2 : skip (a + 1) a = a := by unfold skip; rw [if_pos (by omega)]
          rw [s1, s2]; unfold setR; rw [if_pos rfl]
        · have s2 : skip (i + 1) a = a + 1 := by unfold skip; rw [if_neg (by omega)]
          rw [s1, s2]; unfold setR; rw [if_neg (by omega), if_neg (by omega)]
    rw [e1, e2, show i + 1 + k = i + k + 1 by omega, sgn_next, Int.neg_mul, Int.neg_mul]
def cof (n : Nat) (f : Nat → Nat → Int) (i k : Nat) : Int := sgn (i + k) * dets n fun a b => f (skip i a) (skip k b)
theorem skip_ne (i a : Nat) : skip i a ≠ i := by unfold skip; split <;> omega
theorem cramer (n : Nat) (f : Nat → Nat → Int) {i r : Nat} (hi : i < n + 1) (hr : r < n + 1) : (sumN (n + 1) fun k => f r k * cof n f i k) = if r = i then dets (n + 1) f else 0 := by
  have key : (sumN (n + 1) fun k => f r k * cof n f i k) = dets (n + 1) (setR f i (f r)) := by
    rw [dets_exp n i _ hi]
    refine sumN_congr fun k _ => ?_
    have e1 : setR f i (f r) i k = f r k := by simp [setR]
    have e2 : (fun a b => setR f i (f r) (skip i a) (skip k b)) = fun a b => f (skip i a) (skip k b) := by
      funext a b; unfold setR; rw [if_neg (skip_ne i a)]
    rw [e1, e2]
    unfold cof
    ac_rfl
  rw [key]
  by_cases e : r = i
  · rw [if_pos e, e, setR_self]
  · rw [if_neg e]
    exact dets_equal (n + 1) _ i r hi hr (Ne.symm e) fun b => by simp [setR, e]

/-! ### the form's products -/
def bil (n : Nat) (f : Nat → Nat → Int) (v w : Nat → Int) : Int := sumN n fun i => v i * sumN n fun j => f i j * w j
theorem bil_self (n : Nat) (f : Nat → Nat → Int) (v : Nat → Int) : bil n f v v = qf n f v := by
  unfold bil qf
  refine sumN_congr fun i _ => ?_
  rw [← sumN_mul]
  exact sumN_congr fun j _ => by rw [Int.mul_assoc]
theorem bil_left (n : Nat) (f : Nat → Nat → Int) (u v w : Nat → Int) (c d : Int) : bil n f (fun i => c * u i + d * v i) w = c * bil n f u w + d * bil n f v w := by
  unfold bil
  rw [← sumN_mul, ← sumN_mul, ← sumN_add]
  exact sumN_congr fun i _ => by rw [Int.add_mul, Int.mul_assoc, Int.mul_assoc]
theorem bil_comm {n : Nat} {f : Nat → Nat → Int} (hs : ∀ i j, i < n → j < n → f i j = f j i) (v w : Nat → Int) : bil n f v w = bil n f w v := by
  unfold bil
  have e : ∀ v w : Nat → Int, (sumN n fun i => v i * sumN n fun j => f i j * w j) = sumN n fun i => sumN n fun j => v i * (f i j * w j) := fun v w => sumN_congr fun i _ => by rw [← sumN_mul]
  rw [e, e, sumN_swap]
  refine sumN_congr fun i hi => sumN_congr fun j hj => ?_
  rw [hs j i hj hi]; ac_rfl
/-- a definite form is not less than 0 -/
structure PosF (n : Nat) (f : Nat → Nat → Int) : Prop where
  sym : ∀ i j, i < n → j < n → f i j = f j i
  pos : ∀ v : Nat → Int, (∃ i, i < n ∧ v i ≠ 0) → 0 < qf n f v
theorem qf_zero {n : Nat} {f : Nat → Nat → Int} {v : Nat → Int} (h : ∀ i, i < n → v i = 0) : qf n f v = 0 := by
  unfold qf
  exact sumN_zero fun i hi => sumN_zero fun j _ => by rw [h i hi]; simp
theorem PosF.nonneg {n : Nat} {f : Nat → Nat → Int} (h : PosF n f) (v : Nat → Int) : 0 ≤ qf n f v := by
  by_cases hz : ∃ i, i < n ∧ v i ≠ 0
  · exact Int.le_of_lt (h.pos v hz)
  · rw [qf_zero fun i hi => Classical.byContradiction fun hne => hz ⟨i, hi, hne⟩]; exact Int.le_refl 0
theorem bil_zero {n : Nat} {f : Nat → Nat → Int} {v w : Nat → Int} (h : ∀ i, i < n → w i = 0) : bil n f v w = 0 := by
  unfold bil
  exact sumN_zero fun i _ => by rw [sumN_zero fun j hj => by rw [h j hj, Int.mul_zero], Int.mul_zero]
theorem cauchy {n : Nat} {f : Nat → Nat → Int} (h : PosF n f) (v w : Nat → Int) : bil n f v w * bil n f v w ≤ qf n f v * qf n f w := by
  by_cases hz : ∃ i, i < n ∧ w i ≠ 0
  · have hQ := h.pos w hz
    have hn := h.nonneg fun i => qf n f w * v i + (- bil n f v w) * w i
    generalize hQd : qf n f w = Q at *
    generalize hB : bil n f v w = B at *
    have hB' : bil n f w v = B := by rw [bil_comm h.sym, hB]
    rw [← bil_self, bil_left, bil_comm h.sym v, bil_comm h.sym w, bil_left, bil_left, hB, hB', bil_self, bil_self, hQd] at hn
    have e : Q * (Q * qf n f v + -B * B) + -B * (Q * B + -B * Q) = Q * (qf n f v * Q - B * B) := by grind
    rw [e] at hn
    rcases Int.lt_or_le (qf n f v * Q) (B * B) with hlt | hle
    · have := Int.mul_neg_of_pos_of_neg hQ (show qf n f v * Q - B * B < 0 by omega)
      omega
    · exact hle
  · have hw : ∀ i, i < n → w i = 0 := fun i hi => Classical.byContradiction fun hne => hz ⟨i, hi, hne⟩
    rw [bil_zero hw, qf_zero hw]; simp
/-- a cell of a short vector -/
theorem box_cell {n : Nat} {f : Nat → Nat → Int} (h : PosF (n + 1) f) (hd : 0 < dets (n + 1) f) (v : Nat → Int) {i : Nat} (hi : i < n + 1) : v i * v i * dets (n + 1) f ≤ qf (n + 1) f v * cof n f i i := by
  have hc := cauchy h v (cof n f i)
  have e1 : bil (n + 1) f v (cof n f i) = v i * dets (n + 1) f := by
    unfold bil
    rw [sumN_congr fun r hr => by rw [cramer n f hi hr]]
    rw [sumN_only (k := i) hi fun r _ hne => by rw [if_neg hne, Int.mul_zero]]
    rw [if_pos rfl]
  have e2 : qf (n + 1) f (cof n f i) = cof n f i i * dets (n + 1) f := by
    rw [← bil_self]
    unfold bil
    rw [sumN_congr fun r hr => by rw [cramer n f hi hr]]
    rw [sumN_only (k := i) hi fun r _ hne => by rw [if_neg hne, Int.mul_zero]]
    rw [if_pos rfl]
  rw [e1, e2] at hc
  generalize dets (n + 1) f = D at *
  generalize qf (n + 1) f v = q at *
  generalize cof n f i i = c at *
  generalize v i = x at *
  have e3 : x * D * (x * D) = D * (x * x * D) := by ac_rfl
  have e4 : q * (c * D) = D * (q * c) := by ac_rfl
  rw [e3, e4] at hc
  exact Int.le_of_mul_le_mul_left hc hd
/-- a cell of a short vector's row -/
theorem row_cell {n : Nat} {f : Nat → Nat → Int} (h : PosF n f) (v : Nat → Int) {j : Nat} (hj : j < n) : (sumN n fun r => v r * f r j) * (sumN n fun r => v r * f r j) ≤ qf n f v * f j j := by
  have hc := cauchy h v fun i => if i = j then 1 else 0
  have e0 : ∀ r, (sumN n fun k => f r k * (if k = j then 1 else 0)) = f r j := fun r => by
    rw [sumN_congr fun k _ => Int.mul_comm (f r k) (if k = j then (1 : Int) else 0)]
    exact sumN_one hj _
  have e1 : bil n f v (fun i => if i = j then 1 else 0) = sumN n fun r => v r * f r j := by
    unfold bil
    exact sumN_congr fun r _ => by rw [e0 r]
  have e2 : qf n f (fun i => if i = j then 1 else 0) = f j j := by
    rw [← bil_self]
    unfold bil
    rw [sumN_congr fun r _ => by rw [e0 r]]
    exact sumN_one hj _
  rw [e1, e2] at hc
  exact hc
end Go.Proofs.YtbfkpfdkndnhkaaGreat

/- Plain: vectors with a value, ordered by the value and then lexicographically; insertion; one sorted list; the box of all vectors. -/
namespace Go.Proofs.YtbfkpfdkndnhkaaGreat
set_option linter.unusedSimpArgs false
set_option linter.unusedVariables false
open Go.RowKit

/-- a is less than b: the first cells that differ decide -/
def lexB : List Int → List Int → Bool
  | [], [] => false
  | [], _ :: _ => true
  | _ :: _, [] => false
  | a :: x, b :: y => decide (a < b) || (decide (a = b) && lexB x y)
theorem lexB_irrefl (x : List Int) : lexB x x = false := by
  induction x with
  | nil => rfl
  | cons a x ih => simp [lexB, ih]
theorem lexB_trans {x y z : List Int} (h1 : lexB x y = true) (h2 : lexB y z = true) : lexB x z = true := by
  induction x generalizing y z with
  | nil =>
    cases y with
    | nil => cases h1
    | cons b y => cases z with
      | nil => cases h2
      | cons c z => rfl
  | cons a x ih =>
    cases y with
    | nil => cases h1
    | cons b y =>
      cases z with
      | nil => cases h2
      | cons c z =>
        simp only [lexB, Bool.or_eq_true, Bool.and_eq_true, decide_eq_true_eq] at *
        rcases h1 with h1 | ⟨e1, h1⟩ <;> rcases h2 with h2 | ⟨e2, h2⟩
        · left; omega
        · left; omega
        · left; omega
        · right; exact ⟨by omega, ih h1 h2⟩
theorem lexB_total {x y : List Int} (h1 : lexB x y = false) (h2 : lexB y x = false) : x = y := by
  induction x generalizing y with
  | nil => cases y with
    | nil => rfl
    | cons b y => cases h1
  | cons a x ih =>
    cases y with
    | nil => cases h2
    | cons b y =>
      simp only [lexB, Bool.or_eq_false_iff, Bool.and_eq_false_iff, decide_eq_false_iff_not] at *
      obtain ⟨h3, h4⟩ := h1
      obtain ⟨h5, h6⟩ := h2
      obtain rfl : a = b := by omega
      rw [ih (y := y)]
      · rcases h4 with h | h
        · exact absurd rfl h
        · exact h
      · rcases h6 with h | h
        · exact absurd rfl h
        · exact h
/-- alike so far, and then not -/
theorem lexB_at {x y : List Int} {i : Nat} (hx : i < x.length) (hy : i < y.length) (h : ∀ t, t < i → nth x t = nth y t) (hne : nth x i ≠ nth y i) : lexB x y = decide (nth x i < nth y i) := by
  induction i generalizing x y with
  | zero =>
    cases x with
    | nil => simp at hx
    | cons a x => cases y with
      | nil => simp at hy
      | cons b y =>
        have hne' : ¬ a = b := hne
        show (decide (a < b) || (decide (a = b) && lexB x y)) = decide (a < b)
        simp [hne']
  | succ i ih =>
    cases x with
    | nil => simp at hx
    | cons a x => cases y with
      | nil => simp at hy
      | cons b y =>
        have h0 : a = b := h 0 (by omega)
        have := ih (x := x) (y := y) (by simpa using hx) (by simpa using hy) (fun t ht => h (t + 1) (by omega)) hne
        show (decide (a < b) || (decide (a = b) && lexB x y)) = decide (nth x i < nth y i)
        rw [this]
        simp [h0]
theorem lexB_alike {x y : List Int} (hl : x.length = y.length) (h : ∀ t, t < x.length → nth x t = nth y t) : lexB x y = false := by
  have : x = y := List.ext_getElem hl fun i h1 h2 => by
    have := h i h1
    simpa [nth, h1, h2] using this
  rw [this, lexB_irrefl]

abbrev KV := Int × List Int
def ltK (a b : KV) : Bool := decide (a.1 < b.1) || (decide (a.1 = b.1) && lexB a.2 b.2)
theorem ltK_irrefl (a : KV) : ltK a a = false := by simp [ltK, lexB_irrefl]
theorem ltK_trans {a b c : KV} (h1 : ltK a b = true) (h2 : ltK b c = true) : ltK a c = true := by
  simp only [ltK, Bool.or_eq_true, Bool.and_eq_true, decide_eq_true_eq] at *
  rcases h1 with h1 | ⟨e1, h1⟩ <;> rcases h2 with h2 | ⟨e2, h2⟩
  · left; omega
  · left; omega
  · left; omega
  · right; exact ⟨by omega, lexB_trans h1 h2⟩
theorem ltK_total {a b : KV} (h1 : ltK a b = false) (h2 : ltK b a = false) : a = b := by
  simp only [ltK, Bool.or_eq_false_iff, Bool.and_eq_false_iff, decide_eq_false_iff_not] at *
  obtain ⟨h3, h4⟩ := h1
  obtain ⟨h5, h6⟩ := h2
  have e : a.1 = b.1 := by omega
  refine Prod.ext e (lexB_total ?_ ?_)
  · rcases h4 with h | h
    · exact absurd e h
    · exact h
  · rcases h6 with h | h
    · exact absurd e.symm h
    · exact h
theorem ltK_asymm {a b : KV} (h : ltK a b = true) : ltK b a = false := by
  cases e : ltK b a
  · rfl
  · have := ltK_trans h e; rw [ltK_irrefl] at this; cases this
theorem ltK_ntrans {a b c : KV} (h1 : ltK a b = false) (h2 : ltK b c = false) : ltK a c = false := by
  cases e : ltK a c
  · rfl
  · cases e2 : ltK c b
    · have := ltK_total h2 e2; subst this; rw [h1] at e; cases e
    · have := ltK_trans e e2; rw [h1] at this; cases this

/-- where a vector is put: behind the last one that it is not less than -/
def posK (l : List KV) (v : KV) : Nat → Nat
  | 0 => 0
  | n + 1 => if ltK v (l.getD n (0, [])) then posK l v n else n + 1
theorem posK_le (l : List KV) (v : KV) (n : Nat) : posK l v n ≤ n := by
  induction n with
  | zero => exact Nat.le_refl _
  | succ n ih => rw [posK]; split <;> omega
theorem posK_after {l : List KV} {v : KV} {n i : Nat} (h : posK l v n ≤ i) (hi : i < n) : ltK v (l.getD i (0, [])) = true := by
  induction n with
  | zero => omega
  | succ n ih =>
    rw [posK] at h
    split at h
    · rename_i hc
      by_cases e : i = n
      · rw [e]; exact hc
      · exact ih h (by omega)
    · omega
theorem posK_at {l : List KV} {v : KV} {n : Nat} (h : 0 < posK l v n) : ltK v (l.getD (posK l v n - 1) (0, [])) = false := by
  induction n with
  | zero => simp [posK] at h
  | succ n ih =>
    rw [posK] at h ⊢
    split
    · rename_i hc
      rw [if_pos hc] at h
      exact ih h
    · rename_i hc
      simpa using hc
def putK (l : List KV) (v : KV) : List KV := l.take (posK l v l.length) ++ v :: l.drop (posK l v l.length)
theorem putK_perm (l : List KV) (v : KV) : (putK l v).Perm (v :: l) := by
  unfold putK
  refine List.perm_middle.trans ?_
  rw [List.take_append_drop]
def SortK (l : List KV) : Prop := l.Pairwise fun a b => ltK b a = false
theorem putK_sort {l : List KV} {v : KV} (h : SortK l) : SortK (putK l v) := by
  unfold putK SortK
  have hle := posK_le l v l.length
  have hP := List.pairwise_iff_getElem.1 h
  rw [List.pairwise_append]
  refine ⟨List.Pairwise.sublist (List.take_sublist _ _) h, ?_, ?_⟩
  · rw [List.pairwise_cons]
    refine ⟨?_, List.Pairwise.sublist (List.drop_sublist _ _) h⟩
    intro b hb
    obtain ⟨i, hi, rfl⟩ := List.getElem_of_mem hb
    rw [List.getElem_drop]
    simp only [List.length_drop] at hi
    have := posK_after (l := l) (v := v) (n := l.length) (i := posK l v l.length + i) (by omega) (by omega)
    rw [List.getD_eq_getElem?_getD, List.getElem?_eq_getElem (by omega)] at this
    exact ltK_asymm this
  · intro a ha b hb
    obtain ⟨i, hi, rfl⟩ := List.getElem_of_mem ha
    simp only [List.length_take] at hi
    rw [List.getElem_take]
    have h1 : ltK v l[i] = false := by
      have hk : 0 < posK l v l.length := by omega
      have h2 := posK_at (l := l) (v := v) (n := l.length) hk
      rw [List.getD_eq_getElem?_getD, List.getElem?_eq_getElem (by omega)] at h2
      by_cases e : i = posK l v l.length - 1
      · subst e; exact h2
      · exact ltK_ntrans h2 (hP i (posK l v l.length - 1) (by omega) (by omega) (by omega))
    rw [List.mem_cons] at hb
    rcases hb with rfl | hb
    · exact h1
    · obtain ⟨j, hj, rfl⟩ := List.getElem_of_mem hb
      rw [List.getElem_drop]
      simp only [List.length_drop] at hj
      exact hP i (posK l v l.length + j) (by omega) (by omega) (by omega)
/-- all that are put, one behind another -/
def putsK (l : List KV) : List KV → List KV
  | [] => l
  | v :: r => putsK (putK l v) r
theorem putsK_sort {l r : List KV} (h : SortK l) : SortK (putsK l r) := by
  induction r generalizing l with
  | nil => exact h
  | cons v r ih => exact ih (putK_sort h)
theorem putsK_perm {l r : List KV} : (putsK l r).Perm (l ++ r) := by
  induction r generalizing l with
  | nil => rw [List.append_nil]; exact List.Perm.refl _
  | cons v r ih =>
    refine (ih (l := putK l v)).trans ?_
    refine ((putK_perm l v).append_right r).trans ?_
    exact List.perm_middle.symm
theorem sortK_unique {a b : List KV} (ha : SortK a) (hb : SortK b) (h : a.Perm b) : a = b :=
  List.Perm.eq_of_pairwise (le := fun x y => ltK y x = false) (fun x y _ _ h1 h2 => ltK_total h2 h1) ha hb h
theorem sorted_puts {a r : List KV} (ha : SortK a) (h : a.Perm r) : a = putsK [] r :=
  sortK_unique ha (putsK_sort List.Pairwise.nil) (h.trans (show r.Perm (putsK [] r) from (putsK_perm (l := []) (r := r)).symm))

/-- all vectors that go on with a cell from lo to hi -/
def width (lo hi : Int) : Nat := (hi - lo + 1).toNat
def grownBy (lo : Int) (n : Nat) (v : List Int) : List (List Int) := (List.range n).map fun (k : Nat) => v ++ [lo + (k : Int)]
def boxStep (lo hi : Int) (rows : List (List Int)) : List (List Int) := rows.flatMap (grownBy lo (width lo hi))
theorem grownBy_succ (lo : Int) (n : Nat) (v : List Int) : grownBy lo (n + 1) v = grownBy lo n v ++ [v ++ [lo + (n : Int)]] := by
  unfold grownBy
  rw [List.range_succ, List.map_append]
  rfl
theorem grownBy_length (lo : Int) (n : Nat) (v : List Int) : (grownBy lo n v).length = n := by unfold grownBy; simp
theorem boxStep_length (lo hi : Int) (rows : List (List Int)) : (boxStep lo hi rows).length = rows.length * width lo hi := by
  unfold boxStep
  induction rows with
  | nil => simp
  | cons v r ih => rw [List.flatMap_cons, List.length_append, ih, grownBy_length, List.length_cons, Nat.succ_mul, Nat.add_comm]
/-- the rows of the first r vectors -/
def boxUpto (lo hi : Int) (rows : List (List Int)) (r : Nat) : List (List Int) := boxStep lo hi (rows.take r)
theorem boxUpto_zero (lo hi : Int) (rows : List (List Int)) : boxUpto lo hi rows 0 = [] := rfl
theorem boxUpto_succ {lo hi : Int} {rows : List (List Int)} {r : Nat} (h : r < rows.length) : boxUpto lo hi rows (r + 1) = boxUpto lo hi rows r ++ grownBy lo (width lo hi) (rows.getD r []) := by
  unfold boxUpto boxStep
  rw [List.take_add_one, List.getElem?_eq_getElem h, List.flatMap_append]
  simp [List.getD, h]
theorem boxUpto_all (lo hi : Int) (rows : List (List Int)) : boxUpto lo hi rows rows.length = boxStep lo hi rows := by unfold boxUpto; rw [List.take_length]
def boxF (low high : List Int) : Nat → List (List Int)
  | 0 => [[]]
  | i + 1 => boxStep (nth low i) (nth high i) (boxF low high i)
/-- there are never more than 4000 beginnings -/
def boxB (low high : List Int) : Nat → Bool
  | 0 => true
  | i + 1 => boxB low high i && decide ((boxF low high (i + 1)).length ≤ 4000)
theorem boxB_le {low high : List Int} {i n : Nat} (h : boxB low high n = true) (hi : i ≤ n) : boxB low high i = true := by
  induction n with
  | zero => obtain rfl : i = 0 := by omega
            rfl
  | succ n ih =>
    by_cases e : i = n + 1
    · rw [e]; exact h
    · simp only [boxB, Bool.and_eq_true] at h
      exact ih h.1 (by omega)
theorem boxB_no {low high : List Int} {i n : Nat} (h : boxB low high i = false) (hi : i ≤ n) : boxB low high n = false := by
  cases e : boxB low high n
  · rfl
  · rw [boxB_le e hi] at h; cases h
theorem boxF_len {low high : List Int} {i : Nat} {v : List Int} (h : v ∈ boxF low high i) : v.length = i := by
  induction i generalizing v with
  | zero => simp [boxF] at h; rw [h]; rfl
  | succ i ih =>
    rw [boxF, boxStep, List.mem_flatMap] at h
    obtain ⟨u, hu, hv⟩ := h
    unfold grownBy at hv
    rw [List.mem_map] at hv
    obtain ⟨k, _, rfl⟩ := hv
    simp [ih hu]
end Go.Proofs.YtbfkpfdkndnhkaaGreat

/- Plain: the value of a vector is the form's. -/
namespace Go.Proofs.YtbfkpfdkndnhkaaGreat
set_option linter.unusedSimpArgs false
set_option linter.unusedVariables false
open Go.RowKit

theorem dotTo_sum (a b : List Int) (K C i j n : Nat) : dotTo a b K C i j n = sumN n fun t => nth a (i * K + t) * nth b (t * C + j) := by
  induction n with
  | zero => rfl
  | succ n ih => rw [dotTo, sumN, ih]
theorem vOk_parts {r c : Int} {g x : List Int} (h : vOk r c g x = true) : isGram r c g = true ∧ (x.length : Int) = r ∧ mulOk 1 x.length x r c g = true ∧ mulOk (vR r c g x) (vC r c g x) (vP r c g x) x.length 1 x = true := by
  unfold vOk at h
  simp only [Bool.and_eq_true, beq_iff_eq] at h
  exact ⟨h.1.1.1, h.1.1.2, h.1.2, h.2⟩
theorem vVal_qf {R : Nat} {g x : List Int} (h : vOk R R g x = true) : vVal R R g x = qf R (fnOf R g) (nth x) := by
  obtain ⟨_, hx, h1, h2⟩ := vOk_parts h
  have hx' : x.length = R := by omega
  have e1 : vR R R g x = 1 := by unfold vR mulR; rw [h1]; rfl
  have e2 : vC R R g x = R := by unfold vC mulC; rw [h1]; rfl
  have e3 : vP R R g x = mulL 1 R R x g := by unfold vP mulV; rw [h1, if_pos rfl, hx']; simp
  have e4 : vQ R R g x = mulL 1 R 1 (mulL 1 R R x g) x := by unfold vQ mulV; rw [h2, if_pos rfl, e1, e2, e3]; simp
  unfold vVal ifN
  rw [h, if_pos rfl, e4]
  have t1 : nth (mulL 1 R 1 (mulL 1 R R x g) x) 0 = dotTo (mulL 1 R R x g) x R 1 0 0 R := by
    have := tab_nth (R := 1) (C := 1) (i := 0) (j := 0) (fun i j => dotTo (mulL 1 R R x g) x R 1 i j R) (by omega) (by omega)
    simpa [mulL] using this
  rw [t1, dotTo_sum]
  unfold qf
  rw [sumN_swap]
  apply sumN_congr
  intro j hj
  have t2 : nth (mulL 1 R R x g) (0 * R + j) = dotTo x g R R 0 j R := tab_nth (fun i j => dotTo x g R R i j R) (by omega) hj
  rw [t2, dotTo_sum, Int.mul_comm, ← sumN_mul]
  apply sumN_congr
  intro i hi
  unfold fnOf
  rw [Nat.zero_mul, Nat.zero_add, Nat.mul_one, Nat.add_zero, Int.mul_comm]
end Go.Proofs.YtbfkpfdkndnhkaaGreat

/- Plain: the boxes of vectors that a form bounds. -/
namespace Go.Proofs.YtbfkpfdkndnhkaaGreat
set_option linter.unusedSimpArgs false
set_option linter.unusedVariables false
open Go.RowKit

theorem def_sym {R : Nat} {l : List Int} (h : isDef R R l = true) : ∀ i j, i < R → j < R → fnOf R l i j = fnOf R l j i := by
  obtain ⟨_, R', e, _, _, hlen, _⟩ := isSq_nat (isDef_sq h)
  obtain rfl : R = R' := by omega
  have hg : isGram R R l = true := by unfold isDef at h; simp only [Bool.and_eq_true] at h; exact h.2
  have hs : symB R l = true := by unfold isGram at hg; simp only [Bool.and_eq_true, Int.toNat_natCast] at hg; exact hg.2
  intro i j hi hj
  rcases Nat.lt_trichotomy i j with e | e | e
  · exact ((symB_iff hlen).1 hs j i hj e).symm
  · rw [e]
  · exact (symB_iff hlen).1 hs i j hi e
theorem def_posF {R : Nat} {l : List Int} (h : isDef R R l = true) : PosF R (fnOf R l) ∧ 0 < dets R (fnOf R l) := by
  obtain ⟨_, R', e, _, _, hlen, _⟩ := isSq_nat (isDef_sq h)
  obtain rfl : R = R' := by omega
  obtain ⟨s, hs, hp⟩ := isDef_minors h
  have hd : ∀ k, 1 ≤ k → k ≤ R → 0 < dets k (fnOf R l) := fun k h1 h2 => by rw [lmP_dets hs h1 h2]; exact hp _ (by omega)
  refine ⟨⟨def_sym h, fun v hv => pos_def R _ (def_sym h) hd v hv⟩, ?_⟩
  rcases Nat.eq_zero_or_pos R with e | e
  · subst e; exact Int.zero_lt_one
  · exact hd R e (Nat.le_refl _)
/-- a vector of a box -/
theorem boxF_mem {low high : List Int} {i : Nat} {v : List Int} (hv : v.length = i) (h : ∀ j, j < i → nth low j ≤ nth v j ∧ nth v j ≤ nth high j) : v ∈ boxF low high i := by
  induction i generalizing v with
  | zero => rw [List.length_eq_zero_iff.1 hv]; simp [boxF]
  | succ i ih =>
    have e : v = v.take i ++ [nth v i] := by
      have h1 : v.drop i = [nth v i] := by
        rw [List.drop_eq_getElem_cons (by omega), List.drop_eq_nil_of_le (by omega), nth_get _ _ (by omega)]
      rw [← h1, List.take_append_drop]
    have hu : (v.take i).length = i := by rw [List.length_take]; omega
    have hn : ∀ j, j < i → nth (v.take i) j = nth v j := fun j hj => by
      unfold nth; simp only [List.getD_eq_getElem?_getD, List.getElem?_take, if_pos hj]
    have m := ih hu fun j hj => by rw [hn j hj]; exact h j (by omega)
    obtain ⟨h1, h2⟩ := h i (by omega)
    rw [boxF, boxStep, List.mem_flatMap]
    refine ⟨_, m, ?_⟩
    unfold grownBy
    rw [List.mem_map]
    refine ⟨(nth v i - nth low i).toNat, ?_, ?_⟩
    · rw [List.mem_range]; unfold width; omega
    · rw [show nth low i + ((nth v i - nth low i).toNat : Int) = nth v i by omega, ← e]
theorem grownBy_nodup (lo : Int) (n : Nat) (v : List Int) : (grownBy lo n v).Nodup := by
  unfold grownBy
  unfold List.Nodup
  rw [List.pairwise_map]
  refine List.Pairwise.imp ?_ (List.nodup_range (n := n))
  intro a b hab he
  have := List.append_cancel_left he
  simp at this
  omega
theorem boxF_nodup (low high : List Int) (i : Nat) : (boxF low high i).Nodup := by
  induction i with
  | zero => simp [boxF]
  | succ i ih =>
    rw [boxF, boxStep]
    unfold List.Nodup
    rw [List.pairwise_flatMap]
    refine ⟨fun v _ => grownBy_nodup _ _ v, List.Pairwise.imp ?_ ih⟩
    intro u v huv x hx y hy hxy
    unfold grownBy at hx hy
    obtain ⟨a, _, rfl⟩ := List.mem_map.1 hx
    obtain ⟨b, _, e⟩ := List.mem_map.1 hy
    rw [← e] at hxy
    have := (List.append_inj' hxy (by simp)).1
    exact huv this
theorem bxP_nth {a s : List Int} {R : Nat} {d b : Int} {k : Nat} (h : bxP a R d b k = some s) {i : Nat} (hi : i < k) : nth s i = rootI ((b * nth a (i * R + i)).tdiv d) ∧ isNum (b * nth a (i * R + i)) = true := by
  induction k generalizing s with
  | zero => omega
  | succ k ih =>
    rw [bxP] at h
    obtain ⟨s', h1, h2⟩ := Option.bind_eq_some_iff.1 h
    have hl := bxP_length h1
    split at h2
    · rename_i hn
      cases h2
      by_cases e : i = k
      · subst e; rw [nth_append_right _ _ _ (by omega), hl, Nat.sub_self]; exact ⟨rfl, hn⟩
      · rw [nth_append_left _ _ _ (by omega)]; exact ih h1 (by omega)
    · cases h2
theorem rootI_ge {n : Int} {x : Int} (h0 : 0 ≤ n) (h : x * x ≤ n) : - rootI n ≤ x ∧ x ≤ rootI n := by
  have hs := rootN_spec n.toNat
  have hx : x.natAbs ≤ rootN n.toNat := by
    refine Classical.byContradiction fun hc => ?_
    have h1 : rootN n.toNat + 1 ≤ x.natAbs := by omega
    have h2 := Nat.mul_le_mul h1 h1
    have h3 : ((x.natAbs * x.natAbs : Nat) : Int) = x * x := by rw [← Int.natAbs_mul_self]
    omega
  unfold rootI
  omega
/-- a cell of the adjugate -/
theorem adj_cell {n : Nat} {l : List Int} {a : MX} (h : adjO ⟨((n + 1 : Nat) : Int), ((n + 1 : Nat) : Int), l⟩ = some a) {i : Nat} (hi : i < n + 1) : nth a.l (i * (n + 1) + i) = cof n (fnOf (n + 1) l) i i := by
  unfold adjO at h
  split at h
  · rename_i hh
    simp only [Bool.and_eq_true, Int.toNat_natCast] at hh
    cases h
    simp only [Int.toNat_natCast]
    have hn := (allNum_iff _).1 hh.2 (i * (n + 1) + i) (by rw [adjB_length]; exact idx_lt hi hi)
    unfold adjB at hn ⊢
    rw [tab_nth _ hi hi] at hn ⊢
    cases hd : adjc (n + 1) l i i with
    | none => rw [adjF_none hd, bad_not] at hn; cases hn
    | some d =>
      rw [adjF_some hd, if_neg (by omega)]
      unfold adjc at hd
      rw [Nat.add_sub_cancel] at hd
      rw [← detO_dets n _ _ hd]
      unfold cof
      have e : sgn (i + i) = 1 := by unfold sgn; rw [if_neg (by omega)]
      rw [e, Int.one_mul]
      exact dets_congr fun a b ha hb => by
        have := crs_nth (R := n + 1) (C := n + 1) (l := l) (ri := i) (ci := i) (a := a) (b := b) hi hi (by omega) (by omega)
        simp only [Nat.add_sub_cancel] at this
        unfold fnOf
        rw [this]
  · cases h
theorem boxO_parts {R : Nat} {l s : List Int} {b : Int} (h : boxO ⟨R, R, l⟩ b = some s) : isDef R R l = true ∧ 0 ≤ b ∧ b ≤ 10000 ∧ ∃ a d, adjO ⟨R, R, l⟩ = some a ∧ dtO ⟨R, R, l⟩ = some d ∧ 0 < d ∧ bxP a.l R d b R = some s := by
  have hd := boxO_def h
  have hb := boxO_bound h
  obtain ⟨d, h1, h2⟩ := isDef_det hd
  unfold boxO at h
  split at h
  · rename_i hh
    simp only [Bool.and_eq_true] at hh
    obtain ⟨a, ha⟩ := Option.isSome_iff_exists.1 hh.1
    simp only [Int.toNat_natCast] at h
    rw [ha] at h
    have h1' : dtO ⟨R, R, l⟩ = some d := h1
    rw [h1'] at h
    exact ⟨hd, hb.1, hb.2, a, d, ha, h1', h2, h⟩
  · cases h
/-- the cells of a short vector are in the box -/
theorem box_in {R : Nat} {l s : List Int} {b : Int} (h : boxO ⟨R, R, l⟩ b = some s) {v : Nat → Int} (hq : qf R (fnOf R l) v ≤ b) {i : Nat} (hi : i < R) : - nth s i ≤ v i ∧ v i ≤ nth s i := by
  obtain ⟨n, rfl⟩ : ∃ n, R = n + 1 := ⟨R - 1, by omega⟩
  obtain ⟨hd, hb, _, a, d, ha, hdt, hd0, hx⟩ := boxO_parts h
  obtain ⟨P, hD⟩ := def_posF hd
  obtain ⟨e1, e2⟩ := bxP_nth hx hi
  rw [adj_cell ha hi] at e1 e2
  have hdd : dets (n + 1) (fnOf (n + 1) l) = d := by
    rw [dtO_yes (isDef_sq hd)] at hdt
    exact detO_dets _ _ _ hdt
  have hc := box_cell P hD v hi
  rw [hdd] at hc
  have hcof : 0 ≤ cof n (fnOf (n + 1) l) i i := by
    have hk := box_cell P hD (fun j => if j = i then 1 else 0) hi
    rw [hdd, if_pos rfl] at hk
    have hp := P.pos (fun j => if j = i then 1 else 0) ⟨i, hi, by rw [if_pos rfl]; decide⟩
    refine Classical.byContradiction fun hneg => ?_
    have := Int.mul_neg_of_pos_of_neg hp (show cof n (fnOf (n + 1) l) i i < 0 by omega)
    omega
  generalize cof n (fnOf (n + 1) l) i i = c at *
  have h1 : v i * v i * d ≤ b * c := Int.le_trans hc (Int.mul_le_mul_of_nonneg_right hq hcof)
  have h2 : v i * v i ≤ (b * c).tdiv d := by
    rw [Int.tdiv_eq_ediv_of_nonneg (Int.mul_nonneg hb hcof)]
    exact (Int.le_ediv_iff_mul_le hd0).2 h1
  rw [e1]
  have h3 : 0 ≤ v i * v i := by rcases Int.le_total 0 (v i) with h | h; exact Int.mul_nonneg h h; exact Int.mul_nonneg_of_nonpos_of_nonpos h h
  exact rootI_ge (by omega) h2
end Go.Proofs.YtbfkpfdkndnhkaaGreat

/- Plain: the value of a vector is the form's; a definite form is positive; the short vectors, both ways. -/
namespace Go.Proofs.YtbfkpfdkndnhkaaGreat
set_option linter.unusedSimpArgs false
set_option linter.unusedVariables false
open Go.RowKit

theorem val_pos {r c : Int} {g x : List Int} (hd : isDef r c g = true) (h : vOk r c g x = true) (hx : ∃ i, i < x.length ∧ nth x i ≠ 0) : 1 ≤ vVal r c g x := by
  obtain ⟨_, R, rfl, rfl, hR, hlen, _⟩ := isSq_nat (isDef_sq hd)
  obtain ⟨hg, hxl, _, _⟩ := vOk_parts h
  obtain ⟨s, hs, hp⟩ := isDef_minors hd
  rw [vVal_qf h]
  have hsym : symB R g = true := by
    unfold isGram at hg
    simp only [Bool.and_eq_true, Int.toNat_natCast] at hg
    exact hg.2
  obtain ⟨i, hi, hv⟩ := hx
  have := sylvester hlen hsym hs hp (nth x) ⟨i, by omega, hv⟩
  omega

/-- the first cell that is not 0 is positive -/
def posV (v : List Int) : Bool := decide (fnz v < v.length) && decide (0 < nth v (fnz v))
theorem posV_at {v : List Int} {i : Nat} (h : ∀ t, t < i → nth v t = 0) (hi : i < v.length) (hne : nth v i ≠ 0) : posV v = decide (0 < nth v i) := by
  have := fnz_uniq h (fun _ => hne) (Nat.le_of_lt hi)
  unfold posV
  rw [← this]
  simp [hi]
theorem posV_zero {v : List Int} (h : ∀ t, t < v.length → nth v t = 0) : posV v = false := by
  have := fnz_uniq h (fun h => by omega) (Nat.le_refl _)
  unfold posV
  rw [← this]
  simp
theorem posV_fcI (v : List Int) : posV v = (decide (0 ≤ fcI v) && decide (0 < nth v (fcI v).toNat)) := by
  unfold posV fcI
  have := fnz_le v
  by_cases h : fnz v = v.length
  · rw [if_pos h]; simp [h]
  · rw [if_neg h, Int.toNat_natCast]
    have h1 : fnz v < v.length := by omega
    simp [h1]
theorem posV_some {v : List Int} (h : posV v = true) : ∃ i, i < v.length ∧ nth v i ≠ 0 := by
  unfold posV at h
  simp only [Bool.and_eq_true, decide_eq_true_eq] at h
  exact ⟨fnz v, h.1, by omega⟩
/-- what a vector is in the list: nothing, or itself with its value -/
def shK (g : MX) (b : Int) (v : List Int) : Option KV := if vOk g.r g.c g.l v && decide (vVal g.r g.c g.l v ≤ b) && posV v then some (vVal g.r g.c g.l v, v) else none
def shL (g : MX) (b : Int) (rows : List (List Int)) : List KV := rows.filterMap (shK g b)
def shU (g : MX) (b : Int) (rows : List (List Int)) (i : Nat) : List KV := putsK [] (shL g b (rows.take i))
theorem shL_zero (g : MX) (b : Int) (rows : List (List Int)) : shL g b (rows.take 0) = [] := rfl
theorem shL_succ {g : MX} {b : Int} {rows : List (List Int)} {i : Nat} (h : i < rows.length) : shL g b (rows.take (i + 1)) = shL g b (rows.take i) ++ (shK g b (rows.getD i [])).toList := by
  unfold shL
  rw [List.take_add_one, List.getElem?_eq_getElem h, List.filterMap_append]
  congr 1
  have : rows.getD i [] = rows[i] := by simp [List.getD, h]
  rw [this]
  cases e : shK g b rows[i] <;> simp [e]
theorem shL_all (g : MX) (b : Int) (rows : List (List Int)) : shL g b (rows.take rows.length) = shL g b rows := by rw [List.take_length]
theorem putsK_append (l r s : List KV) : putsK l (r ++ s) = putsK (putsK l r) s := by
  induction r generalizing l with
  | nil => rfl
  | cons v r ih => exact ih (putK l v)
theorem shU_zero (g : MX) (b : Int) (rows : List (List Int)) : shU g b rows 0 = [] := rfl
theorem shU_none {g : MX} {b : Int} {rows : List (List Int)} {i : Nat} (h : i < rows.length) (hk : shK g b (rows.getD i []) = none) : shU g b rows (i + 1) = shU g b rows i := by
  unfold shU
  rw [shL_succ h, hk]
  simp
theorem shU_some {g : MX} {b : Int} {rows : List (List Int)} {i : Nat} {k : KV} (h : i < rows.length) (hk : shK g b (rows.getD i []) = some k) : shU g b rows (i + 1) = putK (shU g b rows i) k := by
  unfold shU
  rw [shL_succ h, hk, putsK_append]
  rfl
/-- the program's test -/
theorem shK_pos {g : MX} {b : Int} {v : List Int} (hd : isDef g.r g.c g.l = true) : shK g b v = if posV v = true then (if (vOk g.r g.c g.l v && (decide (1 ≤ vVal g.r g.c g.l v) && decide (vVal g.r g.c g.l v ≤ b))) = true then some (vVal g.r g.c g.l v, v) else none) else none := by
  unfold shK
  cases hp : posV v
  · simp
  · cases ho : vOk g.r g.c g.l v
    · simp
    · have := val_pos hd ho (posV_some hp)
      simp [this]
def negL (l : List Int) : List Int := l.map fun x => -x
def shvO (g : MX) (b : Int) : Option (List KV) :=
  (boxO g b).bind fun s => if boxB (negL s) s s.length then some (putsK [] (shL g b (boxF (negL s) s s.length))) else none
end Go.Proofs.YtbfkpfdkndnhkaaGreat

/- Plain: the least value, the shortest vectors, how many there are, the counts. -/
namespace Go.Proofs.YtbfkpfdkndnhkaaGreat
set_option linter.unusedSimpArgs false
set_option linter.unusedVariables false
open Go.RowKit

theorem shK_some {g : MX} {b : Int} {v : List Int} {k : KV} (h : shK g b v = some k) : k = (vVal g.r g.c g.l v, v) ∧ vOk g.r g.c g.l v = true ∧ vVal g.r g.c g.l v ≤ b ∧ posV v = true := by
  unfold shK at h
  split at h
  · rename_i hh
    simp only [Bool.and_eq_true, decide_eq_true_eq] at hh
    cases h
    exact ⟨rfl, hh.1.1, hh.1.2, hh.2⟩
  · cases h
theorem shL_mem {g : MX} {b : Int} {rows : List (List Int)} {k : KV} (h : k ∈ shL g b rows) : k.2 ∈ rows ∧ k.1 = vVal g.r g.c g.l k.2 ∧ vOk g.r g.c g.l k.2 = true ∧ k.1 ≤ b ∧ posV k.2 = true := by
  unfold shL at h
  obtain ⟨v, hv, hk⟩ := List.mem_filterMap.1 h
  obtain ⟨rfl, h1, h2, h3⟩ := shK_some hk
  exact ⟨hv, rfl, h1, h2, h3⟩
theorem shvO_mem {g : MX} {b : Int} {s : List KV} (h : shvO g b = some s) {k : KV} (hk : k ∈ s) : k.1 = vVal g.r g.c g.l k.2 ∧ vOk g.r g.c g.l k.2 = true ∧ 1 ≤ k.1 ∧ k.1 ≤ b := by
  unfold shvO at h
  obtain ⟨x, h1, h2⟩ := Option.bind_eq_some_iff.1 h
  split at h2
  · cases h2
    have hm : k ∈ shL g b (boxF (negL x) x x.length) := by simpa using (putsK_perm (l := []) (r := shL g b (boxF (negL x) x x.length))).mem_iff.1 hk
    obtain ⟨_, h3, h4, h5, h6⟩ := shL_mem hm
    refine ⟨h3, h4, ?_, h5⟩
    rw [h3]
    exact val_pos (boxO_def h1) h4 (posV_some h6)
  · cases h2
def rowsK (s : List KV) : List (List Int) := s.map fun k => k.2
def oRows (o : Option (List KV)) : List (List Int) := rowsK (o.getD [])
/-- the least cell of the diagonal -/
def mnD (R : Nat) (l : List Int) : Nat → Int
  | 0 => nth l 0
  | i + 1 => min (mnD R l i) (nth l (i * R + i))
theorem mnD_one (R : Nat) (l : List Int) : mnD R l 1 = nth l 0 := by
  rw [mnD, mnD, Nat.zero_mul, Nat.zero_add]; omega
def minL (g : MX) (s : List KV) : Option Int := match s with
  | [] => none
  | k :: _ => some (vVal g.r g.c g.l k.2)
def minO (g : MX) : Option Int := if isDef g.r g.c g.l && (g.r != 0) then (shvO g (mnD g.r.toNat g.l g.r.toNat)).bind (minL g) else none
def shtO (g : MX) : Option (List KV) := (minO g).bind (shvO g)
def kisO (g : MX) : Option Int := (shtO g).map fun s => 2 * (s.length : Int)
/-- the counts: of 0 one, two for each vector -/
def thF (n : Nat) (s : List KV) : Nat → List Int
  | 0 => (List.replicate (n + 1) 0).set 0 1
  | i + 1 => let k := ((s.getD i (0, [])).1).toNat; (thF n s i).set k (nth (thF n s i) k + 2)
theorem thF_length (n : Nat) (s : List KV) (i : Nat) : (thF n s i).length = n + 1 := by
  induction i with
  | zero => simp [thF]
  | succ i ih => simp [thF, ih]
def thO (g : MX) (b : Int) : Option (List Int) := (shvO g b).map fun s => thF b.toNat s s.length
end Go.Proofs.YtbfkpfdkndnhkaaGreat

/- Plain: the list of short vectors holds all short vectors, each once. -/
namespace Go.Proofs.YtbfkpfdkndnhkaaGreat
set_option linter.unusedSimpArgs false
set_option linter.unusedVariables false
open Go.RowKit

theorem sq_num {x n : Int} (h : x * x ≤ n) (hn : n ≤ 4000000000000) : -2000000 ≤ x ∧ x ≤ 2000000 := by
  refine ⟨?_, ?_⟩
  · refine Classical.byContradiction fun hc => ?_
    have h1 : 2000001 ≤ -x := by omega
    have := Int.mul_le_mul h1 h1 (by decide) (by omega)
    rw [Int.neg_mul_neg] at this
    omega
  · refine Classical.byContradiction fun hc => ?_
    have h1 : 2000001 ≤ x := by omega
    have := Int.mul_le_mul h1 h1 (by decide) (by omega)
    omega
/-- the value of a short vector is found -/
theorem short_ok {R : Nat} {l v : List Int} {b : Int} (hd : isDef R R l = true) (hb : b ≤ 10000) (hv : v.length = R) (hn : allNum v = true) (hq : qf R (fnOf R l) (nth v) ≤ b) : vOk R R l v = true := by
  obtain ⟨hm, R', e, _, hR6, hlen, hln⟩ := isSq_nat (isDef_sq hd)
  obtain rfl : R = R' := by omega
  obtain ⟨P, _⟩ := def_posF hd
  have hg : isGram R R l = true := by unfold isDef at hd; simp only [Bool.and_eq_true] at hd; exact hd.2
  have hq0 := P.nonneg (nth v)
  have cell : ∀ j, j < R → nth (mulL 1 R R v l) (0 * R + j) = sumN R fun r => nth v r * fnOf R l r j := fun j hj => by
    have t2 : nth (mulL 1 R R v l) (0 * R + j) = dotTo v l R R 0 j R := tab_nth (fun i j => dotTo v l R R i j R) (by omega) hj
    rw [t2, dotTo_sum]
    exact sumN_congr fun r _ => by rw [Nat.zero_mul, Nat.zero_add]; rfl
  have cnum : ∀ j, j < R → isNum (nth (mulL 1 R R v l) (0 * R + j)) = true := fun j hj => by
    rw [cell j hj, isNum_iff]
    have h1 := row_cell P (nth v) hj
    have h2 : fnOf R l j j ≤ 400000000 := ((isNum_iff _).1 (hln (j * R + j) (by rw [hlen]; exact idx_lt hj hj))).2
    have h3 : 0 ≤ fnOf R l j j := by
      have hk := row_cell P (fun i => if i = j then 1 else 0) hj
      have hp := P.pos (fun i => if i = j then 1 else 0) ⟨j, hj, by rw [if_pos rfl]; decide⟩
      refine Classical.byContradiction fun hneg => ?_
      have := Int.mul_neg_of_pos_of_neg hp (show fnOf R l j j < 0 by omega)
      have hs : 0 ≤ (sumN R fun r => (if r = j then (1 : Int) else 0) * fnOf R l r j) * (sumN R fun r => (if r = j then (1 : Int) else 0) * fnOf R l r j) := by
        generalize (sumN R fun r => (if r = j then (1 : Int) else 0) * fnOf R l r j) = x
        rcases Int.le_total 0 x with h | h; exact Int.mul_nonneg h h; exact Int.mul_nonneg_of_nonpos_of_nonpos h h
      omega
    have h4 : qf R (fnOf R l) (nth v) * fnOf R l j j ≤ 10000 * 400000000 := Int.mul_le_mul (by omega) h2 h3 (by decide)
    have := sq_num (Int.le_trans h1 h4) (by decide)
    omega
  have a1 : allNum (mulL 1 R R v l) = true := by
    rw [allNum_iff]
    intro k hk
    rw [mulL_length, Nat.one_mul] at hk
    have := cnum k hk
    rwa [Nat.zero_mul, Nat.zero_add] at this
  have m1 : isMat 1 R v = true := by
    have := isMat_made (R := 1) (C := R) (l := v) (by omega) (by omega) (by omega)
    rw [show ((1 : Nat) : Int) = 1 from rfl] at this
    rw [this]; exact hn
  have m1' : isMat R 1 v = true := by
    have := isMat_made (R := R) (C := 1) (l := v) (by omega) (by omega) (by omega)
    rw [show ((1 : Nat) : Int) = 1 from rfl] at this
    rw [this]; exact hn
  have m2 : isMat 1 R (mulL 1 R R v l) = true := by
    have := isMat_made (R := 1) (C := R) (l := mulL 1 R R v l) (by omega) (by omega) (by rw [mulL_length])
    rw [show ((1 : Nat) : Int) = 1 from rfl] at this
    rw [this]; exact a1
  have ok1 : mulOk 1 v.length v R R l = true := by
    unfold mulOk
    rw [hv, m1, hm, show ((1 : Int)).toNat = 1 from rfl, Int.toNat_natCast, a1]
    simp
  have e1 : vR R R l v = 1 := by unfold vR mulR; rw [ok1]; rfl
  have e2 : vC R R l v = R := by unfold vC mulC; rw [ok1]; rfl
  have e3 : vP R R l v = mulL 1 R R v l := by unfold vP mulV; rw [ok1, if_pos rfl, hv]; simp
  have t1 : nth (mulL 1 R 1 (mulL 1 R R v l) v) 0 = qf R (fnOf R l) (nth v) := by
    have t0 : nth (mulL 1 R 1 (mulL 1 R R v l) v) 0 = dotTo (mulL 1 R R v l) v R 1 0 0 R := by
      have := tab_nth (R := 1) (C := 1) (i := 0) (j := 0) (fun i j => dotTo (mulL 1 R R v l) v R 1 i j R) (by omega) (by omega)
      simpa [mulL] using this
    rw [t0, dotTo_sum]
    unfold qf
    rw [sumN_swap]
    refine sumN_congr fun j hj => ?_
    rw [cell j hj, Int.mul_comm, ← sumN_mul, Nat.mul_one, Nat.add_zero]
    exact sumN_congr fun i _ => by rw [Int.mul_comm]
  have ok2 : mulOk 1 R (mulL 1 R R v l) R 1 v = true := by
    unfold mulOk
    rw [m2, m1', show ((1 : Int)).toNat = 1 from rfl, Int.toNat_natCast]
    have a2 : allNum (mulL 1 R 1 (mulL 1 R R v l) v) = true := by
      rw [allNum_iff]
      intro k hk
      rw [mulL_length] at hk
      obtain rfl : k = 0 := by omega
      rw [t1, isNum_iff]
      omega
    rw [a2]
    simp
  unfold vOk
  rw [hg, ok1, e1, e2, e3, hv, ok2]
  simp
/-- all short vectors are in the list -/
theorem shvO_all {R : Nat} {l v : List Int} {b : Int} {s : List KV} (h : shvO ⟨R, R, l⟩ b = some s) (hv : v.length = R) (hp : posV v = true) (hq : qf R (fnOf R l) (nth v) ≤ b) : (qf R (fnOf R l) (nth v), v) ∈ s ∧ vOk R R l v = true := by
  unfold shvO at h
  obtain ⟨x, h1, h2⟩ := Option.bind_eq_some_iff.1 h
  split at h2
  · cases h2
    obtain ⟨hd, hb0, hb1, a, d, ha, hdt, hd0, hx⟩ := boxO_parts h1
    have hxl : x.length = R := bxP_length hx
    have hin : ∀ i, i < R → - nth x i ≤ nth v i ∧ nth v i ≤ nth x i := fun i hi => box_in h1 hq hi
    have hnl : ∀ i, nth (negL x) i = - nth x i := fun i => by
      unfold negL
      by_cases e : i < x.length
      · rw [nth_get _ _ (by rw [List.length_map]; exact e), nth_get _ _ e]; simp
      · rw [nth_out _ _ (by rw [List.length_map]; omega), nth_out _ _ (by omega)]; rfl
    have hm : v ∈ boxF (negL x) x x.length := boxF_mem (by omega) fun j hj => by rw [hnl]; exact hin j (by omega)
    have hn : allNum v = true := by
      rw [allNum_iff]
      intro i hi
      have h3 := hin i (by omega)
      obtain ⟨h4, h5⟩ := bxP_nth hx (i := i) (by omega)
      have h6 : nth x i ≤ 20000 := by
        rw [h4]
        have h7 := tdiv_bd h5 hd0
        have h8 := rootN_spec ((b * nth a.l (i * R + i)).tdiv d).toNat
        have h9 : rootN ((b * nth a.l (i * R + i)).tdiv d).toNat ≤ 20000 := sq_bd (by omega)
        unfold rootI; omega
      rw [isNum_iff]; omega
    have hok := short_ok hd hb1 hv hn hq
    have hval : vVal R R l v = qf R (fnOf R l) (nth v) := vVal_qf hok
    refine ⟨?_, hok⟩
    have hk : shK ⟨R, R, l⟩ b v = some (qf R (fnOf R l) (nth v), v) := by
      unfold shK
      simp only
      rw [hok, hval, hp, decide_eq_true hq]
      rfl
    have : (qf R (fnOf R l) (nth v), v) ∈ shL ⟨R, R, l⟩ b (boxF (negL x) x x.length) := List.mem_filterMap.2 ⟨v, hm, hk⟩
    simpa using (putsK_perm (l := []) (r := shL ⟨R, R, l⟩ b (boxF (negL x) x x.length))).mem_iff.2 (by simpa using this)
  · cases h2
/-- what is in the list -/
theorem shvO_in {R : Nat} {l : List Int} {b : Int} {s : List KV} (h : shvO ⟨R, R, l⟩ b = some s) {k : KV} (hk : k ∈ s) : k.2.length = R ∧ posV k.2 = true ∧ vOk R R l k.2 = true ∧ k.1 = qf R (fnOf R l) (nth k.2) ∧ 1 ≤ k.1 ∧ k.1 ≤ b := by
  obtain ⟨h1, h2, h3, h4⟩ := shvO_mem h hk
  have h5 : k.2.length = R := by obtain ⟨_, e, _⟩ := vOk_parts h2; simp only at e; omega
  refine ⟨h5, ?_, h2, by rw [h1]; exact vVal_qf h2, h3, h4⟩
  unfold shvO at h
  obtain ⟨x, e1, e2⟩ := Option.bind_eq_some_iff.1 h
  split at e2
  · cases e2
    have hm : k ∈ shL ⟨R, R, l⟩ b (boxF (negL x) x x.length) := by simpa using (putsK_perm (l := []) (r := shL ⟨R, R, l⟩ b (boxF (negL x) x x.length))).mem_iff.1 hk
    exact (shL_mem hm).2.2.2.2
  · cases e2
theorem shvO_sort {g : MX} {b : Int} {s : List KV} (h : shvO g b = some s) : SortK s := by
  unfold shvO at h
  obtain ⟨x, _, e2⟩ := Option.bind_eq_some_iff.1 h
  split at e2
  · cases e2; exact putsK_sort List.Pairwise.nil
  · cases e2
theorem shvO_nodup {g : MX} {b : Int} {s : List KV} (h : shvO g b = some s) : s.Nodup := by
  unfold shvO at h
  obtain ⟨x, _, e2⟩ := Option.bind_eq_some_iff.1 h
  split at e2
  · cases e2
    have hp := putsK_perm (l := []) (r := shL g b (boxF (negL x) x x.length))
    rw [hp.nodup_iff, List.nil_append]
    unfold shL List.Nodup
    rw [List.pairwise_filterMap]
    refine List.Pairwise.imp ?_ (boxF_nodup (negL x) x x.length)
    intro u v huv k hk k' hk' e
    obtain ⟨rfl, _⟩ := shK_some hk
    obtain ⟨rfl, _⟩ := shK_some hk'
    exact huv (congrArg Prod.snd e)
  · cases e2
end Go.Proofs.YtbfkpfdkndnhkaaGreat
