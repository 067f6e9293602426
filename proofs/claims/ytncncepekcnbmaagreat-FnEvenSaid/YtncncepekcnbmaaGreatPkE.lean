/- Contracts and lemmas, put together. -/
import Derived.Test.YtncncepekcnbmaaGreatPkAe
import Derived.Test.YtncncepekcnbmaaGreatPkB
import Derived.Test.YtncncepekcnbmaaGreatPkCe
/- Contracts: the first cell of a row that is not 0. -/
namespace Go.Proofs.YtncncepekcnbmaaGreat
set_option linter.unusedSimpArgs false
set_option linter.unusedVariables false
open Go.RowKit

/-! ### plain -/
/-- the place of the first number that is not 0: its length if there is none -/
def fnz : List Int → Nat
  | [] => 0
  | x :: l => if x = 0 then fnz l + 1 else 0
theorem fnz_le (l : List Int) : fnz l ≤ l.length := by
  induction l with
  | nil => simp [fnz]
  | cons x l ih => rw [fnz]; split <;> simp <;> omega
theorem nth_cons_zero (x : Int) (l : List Int) : nth (x :: l) 0 = x := rfl
theorem nth_cons_succ (x : Int) (l : List Int) (i : Nat) : nth (x :: l) (i + 1) = nth l i := by simp [nth]
theorem fnz_zero {l : List Int} {i : Nat} (h : i < fnz l) : nth l i = 0 := by
  induction l generalizing i with
  | nil => simp [fnz] at h
  | cons x l ih =>
    rw [fnz] at h
    split at h
    · cases i with
      | zero => rw [nth_cons_zero]; assumption
      | succ i => rw [nth_cons_succ]; exact ih (by omega)
    · omega
theorem fnz_ne {l : List Int} (h : fnz l < l.length) : nth l (fnz l) ≠ 0 := by
  induction l with
  | nil => simp at h
  | cons x l ih =>
    rw [fnz] at h ⊢
    split at h
    · rename_i hx
      rw [if_pos hx, nth_cons_succ]
      exact ih (by simp at h; omega)
    · rename_i hx
      rw [if_neg hx, nth_cons_zero]; exact hx
theorem fnz_uniq {l : List Int} {k : Nat} (h1 : ∀ i, i < k → nth l i = 0) (h2 : k < l.length → nth l k ≠ 0) (h3 : k ≤ l.length) : k = fnz l := by
  have := fnz_le l
  rcases Nat.lt_trichotomy k (fnz l) with h | h | h
  · exact absurd (fnz_zero h) (h2 (by omega))
  · exact h
  · exact absurd (h1 _ h) (fnz_ne (by omega))
/-- .. -1 if there is none -/
def fcI (l : List Int) : Int := if fnz l = l.length then -1 else (fnz l : Int)
theorem fcI_none {l : List Int} (h : ∀ i, i < l.length → nth l i = 0) : fcI l = -1 := by
  unfold fcI; rw [if_pos (fnz_uniq h (fun h => by omega) (Nat.le_refl _)).symm]
theorem fcI_some {l : List Int} {k : Nat} (h1 : ∀ i, i < k → nth l i = 0) (h2 : nth l k ≠ 0) (h3 : k < l.length) : fcI l = k := by
  have := fnz_uniq h1 (fun _ => h2) (Nat.le_of_lt h3)
  unfold fcI; rw [← this, if_neg (by omega)]
def zeroB (l : List Int) : Bool := fnz l == l.length
theorem zeroB_iff (l : List Int) : zeroB l = true ↔ ∀ i, i < l.length → nth l i = 0 := by
  unfold zeroB
  rw [beq_iff_eq]
  constructor
  · intro h i hi; exact fnz_zero (by omega)
  · intro h; exact (fnz_uniq h (fun h => by omega) (Nat.le_refl _)).symm

section
set_option maxHeartbeats 1000000
theorem ne0_c (x : Int) (W : World) : Calls Tryz.prog 138 #[.int .i64 x] W fun e w' => e = .returned (.bool (x != 0)) ∧ W = w' := by
  cases h : (x != 0)
  all_goals
    go_enter Tryz.func138, Tryz.ntmps138
    go_wp2_with fail
    go_ret
    exact ⟨rfl, rfl⟩
theorem indexFunc_c (A : Option Addr) (l : List Int) (n c : Nat) (w : World) (hn : l.length = n) (ha : Rd w A l) (hl : n ≤ 1099511627776) :
    Calls Tryz.prog 137 #[.slice A n c, .func (.func 138) #[] #[]] w fun e w' => e = .returned (.int .i64 (fcI l)) ∧ w = w' := by
  subst hn
  have HF := Lib.hid fun (x : Int) (W : World) => ne0_c x W
  go_enter Tryz.func137, Tryz.ntmps137
  go_wp2_with fail
  go_loop [8] (fun i => ∃ I : Nat, i = .int .i64 I ∧ I ≤ l.length ∧ ∀ t, t < I → nth l t = 0) (fun i => l.length - (intOf i).toNat)
  case atStart => exact ⟨0, rfl, Nat.zero_le _, fun t h => by omega⟩
  case round =>
    obtain ⟨I, rfl, hI, hz⟩ := hrel
    have HZ := Lib.hid hz
    clear hz
    by_cases hlt : I < l.length
    · obtain ⟨b, o, rfl, hbs, hc⟩ := ha.at_ I hlt
      have i1 : (I : Int) < (l.length : Int) := by omega
      have H1 := fun W => HF.out (nth l I) W
      by_cases hx : nth l I = 0
      · have HX := Lib.hid hx
        rw [show (nth l I != 0) = false by simpa using hx] at H1
        have H1' := Lib.hid H1
        clear hx H1
        go_wp2_with fail
        refine (H1'.out _).mono ?_; rintro e w' ⟨rfl, rfl⟩
        go_wp2_with fail
        go_round
        case rel => exact ⟨I + 1, by go_num, by omega, fun t ht => by (by_cases e : t = I); (· subst e; exact HX.out); (· exact HZ.out t (by omega))⟩
        case measure => simp [intOf]; omega
      · have HX := Lib.hid (fcI_some HZ.out hx hlt)
        rw [show (nth l I != 0) = true by simpa using hx] at H1
        have H1' := Lib.hid H1
        clear hx H1
        go_wp2_with fail
        refine (H1'.out _).mono ?_; rintro e w' ⟨rfl, rfl⟩
        go_wp2_with fail
        go_ret
        exact ⟨ret_int (by rw [HX.out]), rfl⟩
    · obtain rfl : I = l.length := by omega
      have HX := Lib.hid (fcI_none HZ.out)
      go_wp2_with fail
      go_ret
      exact ⟨ret_int (by rw [HX.out]), rfl⟩
theorem firstCell_c (A : Option Addr) (l : List Int) (n c : Nat) (w : World) (hn : l.length = n) (ha : Rd w A l) (hl : n ≤ 1099511627776) :
    Calls Tryz.prog 100 #[.slice A n c] w fun e w' => e = .returned (.int .i64 (fcI l)) ∧ w = w' := by
  have H := Lib.hid fun W h => indexFunc_c A l n c W hn h hl
  clear hn
  go_enter Tryz.func100, Tryz.ntmps100
  go_wp2_with fail
  refine (H.out _ ha).mono ?_; rintro e w' ⟨rfl, rfl⟩
  go_wp2_with fail
  go_ret
  exact ⟨rfl, rfl⟩
end
end Go.Proofs.YtncncepekcnbmaaGreat

/- Contracts: is a matrix in Hermite form? -/
namespace Go.Proofs.YtncncepekcnbmaaGreat
set_option linter.unusedSimpArgs false
set_option linter.unusedVariables false
open Go.RowKit

/-! ### plain -/
/-- the column of the first cell of row i that is not 0: C if there is none -/
def pv (C : Nat) (l : List Int) (i : Nat) : Nat := fnz (rowL C l i)
theorem pv_le {R C i : Nat} {l : List Int} (hl : l.length = R * C) (hi : i < R) : pv C l i ≤ C := by
  have := fnz_le (rowL C l i)
  rw [rowL_length (by rw [hl]; exact Nat.mul_le_mul_right C hi)] at this
  exact this
theorem pv_zero {C i j : Nat} {l : List Int} (hj : j < C) (h : j < pv C l i) : nth l (i * C + j) = 0 := by
  rw [← rowL_nth hj]; exact fnz_zero h
theorem pv_ne {R C i : Nat} {l : List Int} (hl : l.length = R * C) (hi : i < R) (h : pv C l i < C) : nth l (i * C + pv C l i) ≠ 0 := by
  rw [← rowL_nth h]
  exact fnz_ne (by rw [rowL_length (by rw [hl]; exact Nat.mul_le_mul_right C hi)]; exact h)
theorem fcI_pv {R C i : Nat} {l : List Int} (hl : l.length = R * C) (hi : i < R) : fcI (rowL C l i) = if pv C l i = C then -1 else (pv C l i : Int) := by
  unfold fcI
  rw [rowL_length (by rw [hl]; exact Nat.mul_le_mul_right C hi)]
  rfl
/-- a cell above the pivot p of row i that is not reduced -/
def upB (C : Nat) (l : List Int) (i p k : Nat) : Bool := (List.range k).any fun t => decide (nth l (t * C + p) < 0) || decide (nth l (i * C + p) ≤ nth l (t * C + p))
theorem upB_succ (C : Nat) (l : List Int) (i p k : Nat) : upB C l i p (k + 1) = (upB C l i p k || (decide (nth l (k * C + p) < 0) || decide (nth l (i * C + p) ≤ nth l (k * C + p)))) := by
  unfold upB; rw [List.range_succ, List.any_append]; simp
theorem upB_at {C : Nat} {l : List Int} {i p k : Nat} (hk : k < i) (h : nth l (k * C + p) < 0 ∨ nth l (i * C + p) ≤ nth l (k * C + p)) : upB C l i p i = true := by
  unfold upB
  rw [List.any_eq_true]
  exact ⟨k, by simpa using hk, by simpa using h⟩
/-- the rows before i are in Hermite form: the last pivot, or the number of columns behind a row of zeros -/
def herF (C : Nat) (l : List Int) : Nat → Option Int
  | 0 => some (-1)
  | i + 1 => (herF C l i).bind fun last => if pv C l i = C then some (C : Int) else if decide ((pv C l i : Int) ≤ last) || (decide (nth l (i * C + pv C l i) < 0) || upB C l i (pv C l i) i) then none else some (pv C l i : Int)
def herB (R C : Nat) (l : List Int) : Bool := (herF C l R).isSome
theorem herF_none {C : Nat} {l : List Int} {j k : Nat} (h : herF C l j = none) (hk : j ≤ k) : herF C l k = none := by
  induction k with
  | zero => rw [show j = 0 by omega] at h; exact h
  | succ k ih =>
    by_cases e : j = k + 1
    · rw [← e]; exact h
    · rw [herF, ih (by omega)]; rfl
theorem herF_zero {C : Nat} {l : List Int} {i : Nat} {last : Int} (h : herF C l i = some last) (hp : pv C l i = C) : herF C l (i + 1) = some (C : Int) := by
  rw [herF, h]; simp [hp]
theorem herF_bad {C : Nat} {l : List Int} {i : Nat} {last : Int} (h : herF C l i = some last) (hp : pv C l i ≠ C) (hb : (pv C l i : Int) ≤ last ∨ nth l (i * C + pv C l i) < 0 ∨ upB C l i (pv C l i) i = true) : herF C l (i + 1) = none := by
  rw [herF, h]
  simp only [Option.bind_some]
  rw [if_neg hp, if_pos]
  rcases hb with hb | hb | hb <;> simp [hb]
theorem herF_good {C : Nat} {l : List Int} {i : Nat} {last : Int} (h : herF C l i = some last) (hp : pv C l i ≠ C) (h1 : ¬ (pv C l i : Int) ≤ last) (h2 : ¬ nth l (i * C + pv C l i) < 0) (h3 : upB C l i (pv C l i) i = false) : herF C l (i + 1) = some (pv C l i : Int) := by
  rw [herF, h]
  simp only [Option.bind_some]
  rw [if_neg hp, if_neg]
  simp [h1, h2, h3]
theorem herF_bd {C : Nat} {l : List Int} {i : Nat} {last : Int} (hp : ∀ j, j < i → pv C l j ≤ C) (h : herF C l i = some last) : -1 ≤ last ∧ last ≤ C := by
  cases i with
  | zero => cases h; omega
  | succ i =>
    rw [herF] at h
    obtain ⟨q, _, h2⟩ := Option.bind_eq_some_iff.1 h
    have := hp i (by omega)
    split at h2
    · cases h2; omega
    · split at h2
      · cases h2
      · cases h2; omega
/-- the pivots go up -/
theorem herF_up {C : Nat} {l : List Int} {i k : Nat} {last last' : Int} (h : herF C l i = some last) (h' : herF C l k = some last') (hik : i < k) (hlt : last < (C : Int)) : pv C l i = C ∨ last < (pv C l i : Int) := by
  have : ∃ x, herF C l (i + 1) = some x := by
    cases e : herF C l (i + 1) with
    | some x => exact ⟨x, rfl⟩
    | none => rw [herF_none e (by omega)] at h'; cases h'
  obtain ⟨x, hx⟩ := this
  rw [herF, h] at hx
  simp only [Option.bind_some] at hx
  split at hx
  · exact .inl ‹_›
  · split at hx
    · cases hx
    · rename_i hh
      simp only [Bool.or_eq_true, decide_eq_true_eq, not_or] at hh
      exact .inr (by omega)
/-- where all rows are in Hermite form, the cells below a pivot are 0 -/
theorem her_below {R C : Nat} {l : List Int} (hl : l.length = R * C) {k : Nat} {last' : Int} (h' : herF C l k = some last') (hk : k ≤ R) {i : Nat} (hi : i < k) (hp : pv C l i < C) :
    ∀ j, i < j → j < k → pv C l i < pv C l j ∨ pv C l j = C := by
  have hle : ∀ j, j < k → pv C l j ≤ C := fun j hj => pv_le hl (by omega)
  -- from row i on 'last' is at least the pivot of i
  have key : ∀ d, i + 1 + d ≤ k → ∃ x, herF C l (i + 1 + d) = some x ∧ (pv C l i : Int) ≤ x := by
    intro d
    induction d with
    | zero =>
      intro hd
      cases e : herF C l (i + 1) with
      | none => rw [herF_none e hd] at h'; cases h'
      | some x =>
        refine ⟨x, rfl, ?_⟩
        rw [herF] at e
        obtain ⟨q, _, h2⟩ := Option.bind_eq_some_iff.1 e
        split at h2
        · omega
        · split at h2
          · cases h2
          · cases h2; exact Int.le_refl _
    | succ d ih =>
      intro hd
      obtain ⟨y, hy, hyl⟩ := ih (by omega)
      cases e : herF C l (i + 1 + (d + 1)) with
      | none => rw [herF_none e hd] at h'; cases h'
      | some x =>
        refine ⟨x, rfl, ?_⟩
        rw [show i + 1 + (d + 1) = (i + 1 + d) + 1 by omega, herF, hy] at e
        simp only [Option.bind_some] at e
        split at e
        · cases e; have := hle i hi; omega
        · split at e
          · cases e
          · rename_i hh
            cases e
            simp only [Bool.or_eq_true, decide_eq_true_eq, not_or] at hh
            omega
  intro j hij hjk
  obtain ⟨y, hy, hyl⟩ := key (j - i - 1) (by omega)
  rw [show i + 1 + (j - i - 1) = j by omega] at hy
  cases e : herF C l (j + 1) with
  | none => rw [herF_none e (by omega)] at h'; cases h'
  | some x =>
    rw [herF, hy] at e
    simp only [Option.bind_some] at e
    split at e
    · exact .inr ‹_›
    · split at e
      · cases e
      · rename_i hh
        simp only [Bool.or_eq_true, decide_eq_true_eq, not_or] at hh
        left; omega
theorem her_cell {R C : Nat} {l : List Int} (hl : l.length = R * C) (h : herB R C l = true) {i j : Nat} (hi : i < R) (hp : pv C l i < C) (hij : i < j) (hj : j < R) : nth l (j * C + pv C l i) = 0 := by
  obtain ⟨x, hx⟩ := Option.isSome_iff_exists.1 h
  refine pv_zero hp ?_
  rcases her_below hl hx (Nat.le_refl R) hi hp j hij hj with e | e <;> omega

section
set_option maxHeartbeats 1000000
end
end Go.Proofs.YtncncepekcnbmaaGreat

/- Contracts: the reference's IsHermite. -/
namespace Go.Proofs.YtncncepekcnbmaaGreat
set_option linter.unusedSimpArgs false
set_option linter.unusedVariables false
open Go.RowKit

section
set_option maxHeartbeats 2000000
set_option maxRecDepth 2000
theorem not_in {x X : Int} (h : x < 0 ∨ X ≤ x) : inB x 0 (X - 1) = false := by rw [inB_no]; omega
theorem is_in {x X : Int} (h1 : ¬ x < 0) (h2 : ¬ X ≤ x) : inB x 0 (X - 1) = true := by rw [inB_iff]; omega
end
end Go.Proofs.YtncncepekcnbmaaGreat

/- Contracts: the rows of zeros of a matrix; is it a lattice's basis? -/
namespace Go.Proofs.YtncncepekcnbmaaGreat
set_option linter.unusedSimpArgs false
set_option linter.unusedVariables false
open Go.RowKit

theorem Own.other {w w' : World} {B : Nat} {v o : Value} {m : List Int} (h : Own w B o m) (hg : w.grownBy w' v.ownBlock) (hne : ∀ g, v.ownBlock = some g → o.ownBlock ≠ some g) : Own w' B o m := by
  refine World.ownsRow.kept h hg ?_
  cases e : o.ownBlock with
  | none => exact .inl rfl
  | some g =>
    right
    intro h2
    exact hne g h2.symm e
/-- two rows apart from each other stay so behind an append to one. -/
theorem apart_app {w : World} {B : Nat} {v v' o : Value} {m : List Int} (ho : Own w B o m) (hne : ∀ g, v.ownBlock = some g → o.ownBlock ≠ some g) (h : v'.ownBlock = v.ownBlock ∨ ∃ g, v'.ownBlock = some g ∧ w.heap.size ≤ g) : ∀ g, v'.ownBlock = some g → o.ownBlock ≠ some g := by
  intro g hg hog
  rcases h with h | ⟨g', h1, h2⟩
  · exact hne g (by rw [← h]; exact hg) hog
  · rw [hg] at h1
    cases h1
    have := (World.ownsRow.lt ho g hog).2
    omega

/-! ### plain -/
/-- the rows before i that are not zeros, and those that are -/
def fullR (C : Nat) (l : List Int) : Nat → List Int
  | 0 => []
  | i + 1 => if pv C l i = C then fullR C l i else fullR C l i ++ [(i : Int)]
def zeroR (C : Nat) (l : List Int) : Nat → List Int
  | 0 => []
  | i + 1 => if pv C l i = C then zeroR C l i ++ [(i : Int)] else zeroR C l i
theorem fullR_length (C : Nat) (l : List Int) (i : Nat) : (fullR C l i).length ≤ i := by
  induction i with
  | zero => simp [fullR]
  | succ i ih => rw [fullR]; split <;> (try simp) <;> omega
theorem zeroR_length (C : Nat) (l : List Int) (i : Nat) : (zeroR C l i).length ≤ i := by
  induction i with
  | zero => simp [zeroR]
  | succ i ih => rw [zeroR]; split <;> (try simp) <;> omega
theorem zb_pv {R C i : Nat} {l : List Int} (hl : l.length = R * C) (hi : i < R) : zeroB (rowL C l i) = decide (pv C l i = C) := by
  unfold zeroB
  rw [rowL_length (by rw [hl]; exact Nat.mul_le_mul_right C hi)]
  by_cases h : pv C l i = C
  · rw [show (fnz (rowL C l i) == C) = true by rw [beq_iff_eq]; exact h]; simp [h]
  · rw [show (fnz (rowL C l i) == C) = false by rw [beq_eq_false_iff_ne]; exact h]; simp [h]
theorem zeroR_nil {C : Nat} {l : List Int} {n : Nat} : zeroR C l n = [] ↔ ∀ i, i < n → pv C l i ≠ C := by
  induction n with
  | zero => simp [zeroR]
  | succ n ih =>
    rw [zeroR]
    split
    · rename_i h
      simp only [List.append_eq_nil_iff, List.cons_ne_self, and_false, false_iff]
      intro h2; exact h2 n (by omega) h
    · rename_i h
      rw [ih]
      constructor
      · intro h2 i hi
        by_cases e : i = n
        · subst e; exact h
        · exact h2 i (by omega)
      · intro h2 i hi; exact h2 i (by omega)
/-- 1 + the last row before i that is not zeros -/
def nzN (C : Nat) (l : List Int) : Nat → Nat
  | 0 => 0
  | i + 1 => if pv C l i = C then nzN C l i else i + 1
theorem nzN_le (C : Nat) (l : List Int) (i : Nat) : nzN C l i ≤ i := by
  induction i with
  | zero => simp [nzN]
  | succ i ih => rw [nzN]; split <;> omega
/-- behind a row of zeros there are rows of zeros only -/
theorem her_zero {R C : Nat} {l : List Int} (hl : l.length = R * C) {k : Nat} {last' : Int} (h' : herF C l k = some last') (hk : k ≤ R) {i j : Nat} (hi : pv C l i = C) (hij : i < j) (hjk : j < k) : pv C l j = C := by
  have step : ∀ m, m < k → herF C l m = some (C : Int) → pv C l m = C ∧ herF C l (m + 1) = some (C : Int) := by
    intro m hm hf
    have hp : pv C l m = C := by
      cases e : herF C l (m + 1) with
      | none => rw [herF_none e (by omega)] at h'; cases h'
      | some x =>
        rw [herF, hf] at e
        simp only [Option.bind_some] at e
        split at e
        · assumption
        · split at e
          · cases e
          · rename_i hh
            have := pv_le (i := m) hl (by omega)
            simp only [Bool.or_eq_true, decide_eq_true_eq, not_or] at hh
            omega
    exact ⟨hp, herF_zero hf hp⟩
  have base : herF C l (i + 1) = some (C : Int) := by
    cases e : herF C l i with
    | none => rw [herF_none e (by omega)] at h'; cases h'
    | some x => exact herF_zero e hi
  have all : ∀ d, i + 1 + d ≤ k → herF C l (i + 1 + d) = some (C : Int) := by
    intro d
    induction d with
    | zero => intro _; exact base
    | succ d ih => intro hd; exact (step (i + 1 + d) (by omega) (ih (by omega))).2
  have := all (j - i - 1) (by omega)
  rw [show i + 1 + (j - i - 1) = j by omega] at this
  exact (step j hjk this).1
theorem nzN_zeroR {R C : Nat} {l : List Int} (hl : l.length = R * C) (h : herB R C l = true) : decide (nzN C l R = R) = decide ((zeroR C l R).length = 0) := by
  rw [decide_eq_decide, List.length_eq_zero_iff, zeroR_nil]
  obtain ⟨x, hx⟩ := Option.isSome_iff_exists.1 h
  constructor
  · intro hn i hi hp
    cases R with
    | zero => omega
    | succ R =>
      rw [nzN] at hn
      split at hn
      · have := nzN_le C l R; omega
      · rename_i hne
        by_cases e : i = R
        · exact hne (e ▸ hp)
        · exact hne (her_zero hl hx (Nat.le_refl _) hp (by omega) (by omega))
  · intro hall
    cases R with
    | zero => rfl
    | succ R => rw [nzN, if_neg (hall R (by omega))]
def latB (r c : Int) (l : List Int) : Bool := (isMat r c l && herB r.toNat c.toNat l) && decide ((zeroR c.toNat l r.toNat).length = 0)

section
set_option maxHeartbeats 1000000
theorem latB_parts {r c : Int} {l : List Int} (h : latB r c l = true) : isMat r c l = true ∧ herB r.toNat c.toNat l = true ∧ ∀ i, i < r.toNat → pv c.toNat l i ≠ c.toNat := by
  unfold latB at h
  simp only [Bool.and_eq_true, decide_eq_true_eq] at h
  exact ⟨h.1.1, h.1.2, zeroR_nil.1 (List.length_eq_zero_iff.1 h.2)⟩
end
end Go.Proofs.YtncncepekcnbmaaGreat

/- Contracts: a copy of a matrix; a matrix times a number. -/
namespace Go.Proofs.YtncncepekcnbmaaGreat
set_option linter.unusedSimpArgs false
set_option linter.unusedVariables false
open Go.RowKit

def scL (k : Int) (l : List Int) : List Int := l.map (· * k)
def scO (a : MX) (k : Int) : Option MX := if a.ok && isNum k && allNum (scL k a.l) then some ⟨a.r, a.c, scL k a.l⟩ else none
theorem scO_no {a : MX} {k : Int} (h : a.ok = false ∨ isNum k = false) : scO a k = none := by
  unfold scO; rw [if_neg]; rcases h with h | h <;> simp [h]
theorem scL_nth (k : Int) (l : List Int) (i : Nat) (h : i < l.length) : nth (scL k l) i = nth l i * k := by
  rw [nth_get _ _ (by simp [scL]; exact h), nth_get _ _ h]; simp [scL]
/-- the first i cells are done -/
def ScD (k : Int) (l : List Int) (i : Nat) (m : List Int) : Prop := m.length = l.length ∧ ∀ j, j < i → nth m j = nth l j * k
theorem ScD.set {k : Int} {l m : List Int} {i : Nat} (h : ScD k l i m) (hi : i < l.length) : ScD k l (i + 1) (m.set i (nth l i * k)) := by
  refine ⟨by rw [List.length_set]; exact h.1, fun j hj => ?_⟩
  rw [nth_set _ _ _ _ (by rw [h.1]; exact hi)]
  split
  · rename_i e; rw [e]
  · exact h.2 j (by omega)
theorem ScD.all {k : Int} {l m : List Int} (h : ScD k l l.length m) : m = scL k l :=
  nth_ext (by rw [h.1]; simp [scL]) fun i hi => by rw [h.2 i (by rw [← h.1]; exact hi), scL_nth _ _ _ (by rw [← h.1]; exact hi)]
theorem scO_yes {R C : Nat} {k : Int} {l : List Int} (h : isMat R C l = true) (hk : isNum k = true) : isMat R C (scL k l) = allNum (scL k l) ∧ scO ⟨R, C, l⟩ k = if allNum (scL k l) then some ⟨R, C, scL k l⟩ else none := by
  obtain ⟨R', C', e1, e2, hR, hC, hl, hn⟩ := isMat_nat h
  obtain rfl : R = R' := by omega
  obtain rfl : C = C' := by omega
  refine ⟨isMat_made hR hC (by simp [scL, hl]), ?_⟩
  unfold scO MX.ok
  simp only [h, hk, Bool.true_and]
theorem scO_ok {a m : MX} {k : Int} (h : scO a k = some m) : m.ok = true := by
  unfold scO at h
  split at h
  · rename_i hh
    cases h
    simp only [Bool.and_eq_true] at hh
    obtain ⟨R, C, e1, e2, hR, hC, hl, hn⟩ := isMat_ok hh.1.1
    have := hh.1.1
    unfold MX.ok at this ⊢
    simp only [e1, e2] at this ⊢
    rw [(scO_yes this hh.1.2).1]; exact hh.2
  · cases h

section
set_option maxHeartbeats 1000000
/-- a lattice times n -/
def slO (a : MX) (k : Int) : Option MX := if latB a.r a.c a.l && decide (1 ≤ k) then scO a k else none
theorem slO_ok {a m : MX} {k : Int} (h : slO a k = some m) : m.ok = true := by
  unfold slO at h
  split at h
  · exact scO_ok h
  · cases h
end
end Go.Proofs.YtncncepekcnbmaaGreat
