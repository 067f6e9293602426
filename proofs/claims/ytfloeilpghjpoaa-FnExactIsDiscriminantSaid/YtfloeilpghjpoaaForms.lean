/- Contracts: discriminants and binary forms. -/
import Derived.Test.YtfloeilpghjpoaaNums
namespace Go.Proofs.Ytfloeilpghjpoaa
open Go.RowKit

theorem tmod_neg4 (a : Int) (h : a < 0) : a.tmod 4 = -((-a) % 4) := by
  obtain ⟨n, rfl⟩ : ∃ n : Nat, a = -(n : Int) := ⟨a.natAbs, by omega⟩
  rw [Int.neg_tmod, Int.neg_neg, Int.tmod_eq_emod_of_nonneg (by omega)]

theorem mod4_a (a : Int) (h2 : a < 0) (h : ¬ a.tmod 4 < 0) : a.tmod 4 = a % 4 := by
  have := tmod_neg4 a h2
  omega
theorem mod4_b (a : Int) (h2 : a < 0) (h : a.tmod 4 < 0) : wrap64 (a.tmod 4 + 4) = a % 4 := by
  have := tmod_neg4 a h2
  unfold wrap64
  omega
theorem mod4_c (a : Int) (h2 : a < 0) : (wrap64 (a.tmod 4 + 4)).tmod 4 = a % 4 := by
  have := tmod_neg4 a h2
  have h1 : wrap64 (a.tmod 4 + 4) = a.tmod 4 + 4 := by unfold wrap64; omega
  rw [h1, Int.tmod_eq_emod_of_nonneg (by omega)]
  omega

theorem iMod4_c (a : Int) (w : World) (_h1 : -1000 ≤ a) (h2 : a < 0) :
    Calls Try.prog 51 #[.int .i64 a, .int .i64 4] w fun e w' => e = .returned (.int .i64 (a % 4)) ∧ w = w' := by
  by_cases h : a.tmod 4 < 0
  · go_enter Try.func51, Try.ntmps51
    go_wp2
    go_ret
    exact ⟨ret_int (mod4_b a h2 h), rfl⟩
  · go_enter Try.func51, Try.ntmps51
    go_wp2
    go_ret
    exact ⟨ret_int (mod4_a a h2 (by omega)), rfl⟩

theorem sMod4_c (a : Int) (w : World) (_h1 : -1000 ≤ a) (h2 : a < 0) :
    Calls Try.prog 50 #[.int .i64 a, .int .i64 4] w fun e w' => e = .returned (.int .i64 (a % 4)) ∧ w = w' := by
  go_enter Try.func50, Try.ntmps50
  go_wp2
  go_ret
  exact ⟨ret_int (mod4_c a h2), rfl⟩

def isDiscr (d : Int) : Bool := inB d (-1000) (-3) && decide (d % 4 ≤ 1)
theorem isDiscr_no {d : Int} (h : inB d (-1000) (-3) = false) : isDiscr d = false := by simp [isDiscr, h]
theorem isDiscr_yes {d : Int} (h : inB d (-1000) (-3) = true) : isDiscr d = decide (d % 4 ≤ 1) := by simp [isDiscr, h]

theorem sIsDiscr_c (d : Int) (w : World) :
    Calls Try.prog 15 #[.int .i64 d] w fun e w' => e = .returned (.bool (isDiscr d)) ∧ w = w' := by
  cases h : inB d (-1000) (-3)
  · rw [isDiscr_no h]
    have C := fun w => l1In_c d (-1000) (-3) w
    rw [h] at C
    have HC := Lib.hid C; clear C h
    go_enter Try.func15, Try.ntmps15
    go_wp2_with (go_at_call 49; refine (HC.out _).mono ?_; rintro e w' ⟨rfl, rfl⟩)
    go_ret
    exact ⟨rfl, rfl⟩
  · rw [isDiscr_yes h]
    have h2 := (inB_iff _ _ _).1 h
    have C := fun w => l1In_c d (-1000) (-3) w
    rw [h] at C
    have HC := Lib.hid C; clear C h
    go_enter Try.func15, Try.ntmps15
    go_wp2_with (first | (go_at_call 49; refine (HC.out _).mono ?_; rintro e w' ⟨rfl, rfl⟩) | (go_at_call 50; refine (sMod4_c d _ (by omega) (by omega)).mono ?_; rintro e w' ⟨rfl, rfl⟩))
    go_ret
    exact ⟨rfl, rfl⟩

theorem iIsDiscr_c (d : Int) (w : World) :
    Calls Try.prog 16 #[.int .i64 d] w fun e w' => e = .returned (.bool (isDiscr d)) ∧ w = w' := by
  by_cases h1 : -1000 ≤ d
  · by_cases h2 : d ≤ -3
    · rw [isDiscr_yes ((inB_iff _ _ _).2 ⟨h1, h2⟩)]
      go_enter Try.func16, Try.ntmps16
      go_wp2_with (go_at_call 51; refine (iMod4_c d _ (by omega) (by omega)).mono ?_; rintro e w' ⟨rfl, rfl⟩)
      go_ret
      exact ⟨rfl, rfl⟩
    · rw [isDiscr_no ((inB_no _ _ _).2 (.inr (by omega)))]
      go_enter Try.func16, Try.ntmps16
      go_wp2_with fail
      go_ret
      exact ⟨by simp, rfl⟩
  · rw [isDiscr_no ((inB_no _ _ _).2 (.inl (by omega)))]
    go_enter Try.func16, Try.ntmps16
    go_wp2_with fail
    go_ret
    exact ⟨by simp, rfl⟩

theorem lawIsDiscr_c (d : Int) (w : World) (_hd : (Lit.int .i64 d).wf = true) :
    Calls Try.prog 3 #[.int .i64 d] w fun e w' => e = .returned (.bool true) ∧ Grows w w' := by
  cases h : isDiscr d
  all_goals
    have C1 := fun w => sIsDiscr_c d w
    have C2 := fun w => iIsDiscr_c d w
    rw [h] at C1 C2
    have H1 := Lib.hid C1
    have H2 := Lib.hid C2
    clear C1 C2 h
    go_enter Try.func3, Try.ntmps3
    go_wp2_with (first | (go_at_call 15; refine (H1.out _).mono ?_; rintro e w' ⟨rfl, rfl⟩) | (go_at_call 16; refine (H2.out _).mono ?_; rintro e w' ⟨rfl, rfl⟩))
    go_ret
    exact ⟨rfl, Grows.refl _⟩
end Go.Proofs.Ytfloeilpghjpoaa
