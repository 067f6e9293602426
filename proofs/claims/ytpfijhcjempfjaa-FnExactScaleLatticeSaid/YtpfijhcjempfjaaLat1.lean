/- Contracts: the first cell of a row that is not 0. -/
import Derived.Test.YtpfijhcjempfjaaRowC
namespace Go.Proofs.Ytpfijhcjempfjaa
open Go.RowKit

/-! ### plain -/
/-- the place of the first number that is not 0: its length if there is none -/
def fnz : List Int → Nat
  | [] => 0
  | x :: l => if x = 0 then fnz l + 1 else 0
theorem fnz_le (l : List Int) : fnz l ≤ l.length := by
  induction l with
  | nil => simp [fnz]
  | cons x l ih => rw [fnz]; split <;> simp <;> omega
theorem nth_cons_zero (x : Int) (l : List Int) : nth (x :: l) 0 = x := rfl
theorem nth_cons_succ (x : Int) (l : List Int) (i : Nat) : nth (x :: l) (i + 1) = nth l i := by simp [nth]
theorem fnz_zero {l : List Int} {i : Nat} (h : i < fnz l) : nth l i = 0 := by
  induction l generalizing i with
  | nil => simp [fnz] at h
  | cons x l ih =>
    rw [fnz] at h
    split at h
    · cases i with
      | zero => rw [nth_cons_zero]; assumption
      | succ i => rw [nth_cons_succ]; exact ih (by omega)
    · omega
theorem fnz_ne {l : List Int} (h : fnz l < l.length) : nth l (fnz l) ≠ 0 := by
  induction l with
  | nil => simp at h
  | cons x l ih =>
    rw [fnz] at h ⊢
    split at h
    · rename_i hx
      rw [if_pos hx, nth_cons_succ]
      exact ih (by simp at h; omega)
    · rename_i hx
      rw [if_neg hx, nth_cons_zero]; exact hx
theorem fnz_uniq {l : List Int} {k : Nat} (h1 : ∀ i, i < k → nth l i = 0) (h2 : k < l.length → nth l k ≠ 0) (h3 : k ≤ l.length) : k = fnz l := by
  have := fnz_le l
  rcases Nat.lt_trichotomy k (fnz l) with h | h | h
  · exact absurd (fnz_zero h) (h2 (by omega))
  · exact h
  · exact absurd (h1 _ h) (fnz_ne (by omega))
/-- .. -1 if there is none -/
def fcI (l : List Int) : Int := if fnz l = l.length then -1 else (fnz l : Int)
theorem fcI_none {l : List Int} (h : ∀ i, i < l.length → nth l i = 0) : fcI l = -1 := by
  unfold fcI; rw [if_pos (fnz_uniq h (fun h => by omega) (Nat.le_refl _)).symm]
theorem fcI_some {l : List Int} {k : Nat} (h1 : ∀ i, i < k → nth l i = 0) (h2 : nth l k ≠ 0) (h3 : k < l.length) : fcI l = k := by
  have := fnz_uniq h1 (fun _ => h2) (Nat.le_of_lt h3)
  unfold fcI; rw [← this, if_neg (by omega)]
def zeroB (l : List Int) : Bool := fnz l == l.length
theorem zeroB_iff (l : List Int) : zeroB l = true ↔ ∀ i, i < l.length → nth l i = 0 := by
  unfold zeroB
  rw [beq_iff_eq]
  constructor
  · intro h i hi; exact fnz_zero (by omega)
  · intro h; exact (fnz_uniq h (fun h => by omega) (Nat.le_refl _)).symm

section
set_option maxHeartbeats 1000000
theorem ne0_c (x : Int) (W : World) : Calls Try.prog 152 #[.int .i64 x] W fun e w' => e = .returned (.bool (x != 0)) ∧ W = w' := by
  cases h : (x != 0)
  all_goals
    go_enter Try.func152, Try.ntmps152
    go_wp2_with fail
    go_ret
    exact ⟨rfl, rfl⟩
theorem indexFunc_c (A : Option Addr) (l : List Int) (n c : Nat) (w : World) (hn : l.length = n) (ha : Rd w A l) (hl : n ≤ 1099511627776) :
    Calls Try.prog 151 #[.slice A n c, .func (.func 152) #[] #[]] w fun e w' => e = .returned (.int .i64 (fcI l)) ∧ w = w' := by
  subst hn
  have HF := Lib.hid fun (x : Int) (W : World) => ne0_c x W
  go_enter Try.func151, Try.ntmps151
  go_wp2_with fail
  go_loop [8] (fun i => ∃ I : Nat, i = .int .i64 I ∧ I ≤ l.length ∧ ∀ t, t < I → nth l t = 0) (fun i => l.length - (intOf i).toNat)
  case atStart => exact ⟨0, rfl, Nat.zero_le _, fun t h => by omega⟩
  case round =>
    obtain ⟨I, rfl, hI, hz⟩ := hrel
    have HZ := Lib.hid hz
    clear hz
    by_cases hlt : I < l.length
    · obtain ⟨b, o, rfl, hbs, hc⟩ := ha.at_ I hlt
      have i1 : (I : Int) < (l.length : Int) := by omega
      have H1 := fun W => HF.out (nth l I) W
      by_cases hx : nth l I = 0
      · have HX := Lib.hid hx
        rw [show (nth l I != 0) = false by simpa using hx] at H1
        have H1' := Lib.hid H1
        clear hx H1
        go_wp2_with fail
        refine (H1'.out _).mono ?_; rintro e w' ⟨rfl, rfl⟩
        go_wp2_with fail
        go_round
        case rel => exact ⟨I + 1, by go_num, by omega, fun t ht => by (by_cases e : t = I); (· subst e; exact HX.out); (· exact HZ.out t (by omega))⟩
        case measure => simp [intOf]; omega
      · have HX := Lib.hid (fcI_some HZ.out hx hlt)
        rw [show (nth l I != 0) = true by simpa using hx] at H1
        have H1' := Lib.hid H1
        clear hx H1
        go_wp2_with fail
        refine (H1'.out _).mono ?_; rintro e w' ⟨rfl, rfl⟩
        go_wp2_with fail
        go_ret
        exact ⟨ret_int (by rw [HX.out]), rfl⟩
    · obtain rfl : I = l.length := by omega
      have HX := Lib.hid (fcI_none HZ.out)
      go_wp2_with fail
      go_ret
      exact ⟨ret_int (by rw [HX.out]), rfl⟩
theorem firstCell_c (A : Option Addr) (l : List Int) (n c : Nat) (w : World) (hn : l.length = n) (ha : Rd w A l) (hl : n ≤ 1099511627776) :
    Calls Try.prog 126 #[.slice A n c] w fun e w' => e = .returned (.int .i64 (fcI l)) ∧ w = w' := by
  have H := Lib.hid fun W h => indexFunc_c A l n c W hn h hl
  clear hn
  go_enter Try.func126, Try.ntmps126
  go_wp2_with fail
  refine (H.out _ ha).mono ?_; rintro e w' ⟨rfl, rfl⟩
  go_wp2_with fail
  go_ret
  exact ⟨rfl, rfl⟩
theorem ne0_c' (x : Int) (W : World) : Calls Try.prog 154 #[.int .i64 x] W fun e w' => e = .returned (.bool (x != 0)) ∧ W = w' := by
  cases h : (x != 0)
  all_goals
    go_enter Try.func154, Try.ntmps154
    go_wp2_with fail
    go_ret
    exact ⟨rfl, rfl⟩
theorem indexFunc_c' (A : Option Addr) (l : List Int) (n c : Nat) (w : World) (hn : l.length = n) (ha : Rd w A l) (hl : n ≤ 1099511627776) :
    Calls Try.prog 151 #[.slice A n c, .func (.func 154) #[] #[]] w fun e w' => e = .returned (.int .i64 (fcI l)) ∧ w = w' := by
  subst hn
  have HF := Lib.hid fun (x : Int) (W : World) => ne0_c' x W
  go_enter Try.func151, Try.ntmps151
  go_wp2_with fail
  go_loop [8] (fun i => ∃ I : Nat, i = .int .i64 I ∧ I ≤ l.length ∧ ∀ t, t < I → nth l t = 0) (fun i => l.length - (intOf i).toNat)
  case atStart => exact ⟨0, rfl, Nat.zero_le _, fun t h => by omega⟩
  case round =>
    obtain ⟨I, rfl, hI, hz⟩ := hrel
    have HZ := Lib.hid hz
    clear hz
    by_cases hlt : I < l.length
    · obtain ⟨b, o, rfl, hbs, hc⟩ := ha.at_ I hlt
      have i1 : (I : Int) < (l.length : Int) := by omega
      have H1 := fun W => HF.out (nth l I) W
      by_cases hx : nth l I = 0
      · have HX := Lib.hid hx
        rw [show (nth l I != 0) = false by simpa using hx] at H1
        have H1' := Lib.hid H1
        clear hx H1
        go_wp2_with fail
        refine (H1'.out _).mono ?_; rintro e w' ⟨rfl, rfl⟩
        go_wp2_with fail
        go_round
        case rel => exact ⟨I + 1, by go_num, by omega, fun t ht => by (by_cases e : t = I); (· subst e; exact HX.out); (· exact HZ.out t (by omega))⟩
        case measure => simp [intOf]; omega
      · have HX := Lib.hid (fcI_some HZ.out hx hlt)
        rw [show (nth l I != 0) = true by simpa using hx] at H1
        have H1' := Lib.hid H1
        clear hx H1
        go_wp2_with fail
        refine (H1'.out _).mono ?_; rintro e w' ⟨rfl, rfl⟩
        go_wp2_with fail
        go_ret
        exact ⟨ret_int (by rw [HX.out]), rfl⟩
    · obtain rfl : I = l.length := by omega
      have HX := Lib.hid (fcI_none HZ.out)
      go_wp2_with fail
      go_ret
      exact ⟨ret_int (by rw [HX.out]), rfl⟩
theorem containsFunc_c (A : Option Addr) (l : List Int) (n c : Nat) (w : World) (hn : l.length = n) (ha : Rd w A l) (hl : n ≤ 1099511627776) :
    Calls Try.prog 153 #[.slice A n c, .func (.func 154) #[] #[]] w fun e w' => e = .returned (.bool (!zeroB l)) ∧ w = w' := by
  have H := fun W h => indexFunc_c' A l n c W hn h hl
  clear hn
  cases hz : zeroB l
  · have e : fcI l = (fnz l : Int) := by unfold zeroB at hz; rw [beq_eq_false_iff_ne] at hz; unfold fcI; rw [if_neg hz]
    rw [e] at H
    have H' := Lib.hid H
    clear H e hz
    go_enter Try.func153, Try.ntmps153
    go_wp2_with fail
    refine (H'.out _ ha).mono ?_; rintro e w' ⟨rfl, rfl⟩
    go_wp2_with fail
    go_ret
    exact ⟨by simp, rfl⟩
  · have e : fcI l = -1 := by unfold zeroB at hz; rw [beq_iff_eq] at hz; unfold fcI; rw [if_pos hz]
    rw [e] at H
    have H' := Lib.hid H
    clear H e hz
    go_enter Try.func153, Try.ntmps153
    go_wp2_with fail
    refine (H'.out _ ha).mono ?_; rintro e w' ⟨rfl, rfl⟩
    go_wp2_with fail
    go_ret
    exact ⟨by simp, rfl⟩
theorem isZeroRow_c (A : Option Addr) (l : List Int) (n c : Nat) (w : World) (hn : l.length = n) (ha : Rd w A l) (hl : n ≤ 1099511627776) :
    Calls Try.prog 127 #[.slice A n c] w fun e w' => e = .returned (.bool (zeroB l)) ∧ w = w' := by
  have H := Lib.hid fun W h => containsFunc_c A l n c W hn h hl
  clear hn
  generalize zeroB l = z at *
  go_enter Try.func127, Try.ntmps127
  go_wp2_with fail
  refine (H.out _ ha).mono ?_; rintro e w' ⟨rfl, rfl⟩
  go_wp2_with fail
  go_ret
  exact ⟨by simp, rfl⟩
end
end Go.Proofs.Ytpfijhcjempfjaa
