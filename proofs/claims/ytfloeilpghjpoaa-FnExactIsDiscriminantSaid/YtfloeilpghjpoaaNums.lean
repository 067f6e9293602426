/- Contracts: functions of integers alone. -/
import Derived.Test.YtfloeilpghjpoaaMem
import Derived.Deep.QuietTactic
import Derived.BigQuiet
namespace Go.Proofs.Ytfloeilpghjpoaa
open Go.RowKit

/-- lo <= x <= hi -/
def inB (x lo hi : Int) : Bool := decide (lo ≤ x) && decide (x ≤ hi)
theorem inB_iff (x lo hi : Int) : inB x lo hi = true ↔ lo ≤ x ∧ x ≤ hi := by simp [inB]
theorem inB_no (x lo hi : Int) : inB x lo hi = false ↔ x < lo ∨ hi < x := by
  unfold inB
  by_cases h1 : lo ≤ x <;> by_cases h2 : x ≤ hi <;> simp [h1, h2] <;> omega
/-- Within the limit. -/
def isNum (x : Int) : Bool := inB x (-400000000) 400000000
theorem isNum_iff (x : Int) : isNum x = true ↔ -400000000 ≤ x ∧ x ≤ 400000000 := inB_iff _ _ _
theorem isNum_no (x : Int) : isNum x = false ↔ x < -400000000 ∨ 400000000 < x := inB_no _ _ _

theorem l1In_c (x lo hi : Int) (w : World) :
    Calls Try.prog 49 #[.int .i64 x, .int .i64 lo, .int .i64 hi] w fun e w' => e = .returned (.bool (inB x lo hi)) ∧ w = w' := by
  by_cases h1 : lo ≤ x
  · by_cases h2 : x ≤ hi
    · rw [(inB_iff x lo hi).2 ⟨h1, h2⟩]
      go_enter Try.func49, Try.ntmps49
      go_wp2
      go_ret
      exact ⟨by simp, rfl⟩
    · rw [(inB_no x lo hi).2 (.inr (by omega))]
      go_enter Try.func49, Try.ntmps49
      go_wp2
      go_ret
      exact ⟨by simp, rfl⟩
  · rw [(inB_no x lo hi).2 (.inl (by omega))]
    go_enter Try.func49, Try.ntmps49
    go_wp2
    go_ret
    exact ⟨by simp, rfl⟩

theorem sIsNumber_c (x : Int) (w : World) :
    Calls Try.prog 55 #[.int .i64 x] w fun e w' => e = .returned (.bool (isNum x)) ∧ w = w' := by
  go_enter Try.func55, Try.ntmps55
  go_wp2_with (go_at_call 49; refine (l1In_c x _ _ _).mono ?_; rintro e w' ⟨rfl, rfl⟩)
  go_ret
  exact ⟨rfl, rfl⟩

theorem iIsNumber_c (x : Int) (w : World) :
    Calls Try.prog 59 #[.int .i64 x] w fun e w' => e = .returned (.bool (isNum x)) ∧ w = w' := by
  by_cases h1 : -400000000 ≤ x
  · by_cases h2 : x ≤ 400000000
    · rw [(isNum_iff x).2 ⟨h1, h2⟩]
      go_enter Try.func59, Try.ntmps59
      go_wp2
      go_ret
      exact ⟨by simp, rfl⟩
    · rw [(isNum_no x).2 (.inr (by omega))]
      go_enter Try.func59, Try.ntmps59
      go_wp2
      go_ret
      exact ⟨by simp, rfl⟩
  · rw [(isNum_no x).2 (.inl (by omega))]
    go_enter Try.func59, Try.ntmps59
    go_wp2
    go_ret
    exact ⟨by simp, rfl⟩

/-- The reference's mark of a number beyond the limit. -/
def bad : Int := -4611686018427387904
def fit (n : Int) : Int := if isNum n then n else bad
theorem fit_yes {n : Int} (h : isNum n = true) : fit n = n := by simp [fit, h]
theorem fit_no {n : Int} (h : isNum n = false) : fit n = bad := by simp [fit, h]
def addB (a b : Int) : Int := if a = bad ∨ b = bad then bad else fit (a + b)
def mulB (a b : Int) : Int := if a = bad ∨ b = bad then bad else fit (a * b)
theorem bad_not : isNum bad = false := by decide
theorem num_ne_bad {x : Int} (h : isNum x = true) : x ≠ bad := fun e => by rw [e, bad_not] at h; cases h
theorem fit_bad_iff (n : Int) : fit n = bad ↔ isNum n = false := by
  unfold fit
  cases h : isNum n
  · simp
  · simp; exact num_ne_bad h

theorem l1Fit_c (x : Int) (w : World) :
    Calls Try.prog 68 #[.int .i64 x] w fun e w' => e = .returned (.int .i64 (fit x)) ∧ w = w' := by
  cases h : isNum x
  · rw [fit_no h]
    have C := fun w => l1In_c x (-400000000) 400000000 w
    rw [show inB x (-400000000) 400000000 = false from h] at C
    have HC := Lib.hid C; clear C h
    go_enter Try.func68, Try.ntmps68
    go_wp2_with (go_at_call 49; refine (HC.out _).mono ?_; rintro e w' ⟨rfl, rfl⟩)
    go_ret
    exact ⟨rfl, rfl⟩
  · rw [fit_yes h]
    have C := fun w => l1In_c x (-400000000) 400000000 w
    rw [show inB x (-400000000) 400000000 = true from h] at C
    have HC := Lib.hid C; clear C h
    go_enter Try.func68, Try.ntmps68
    go_wp2_with (go_at_call 49; refine (HC.out _).mono ?_; rintro e w' ⟨rfl, rfl⟩)
    go_ret
    exact ⟨rfl, rfl⟩
end Go.Proofs.Ytfloeilpghjpoaa
