/- Contracts: functions of integers alone. -/
import Derived.Test.YtpfijhcjempfjaaMem
import Derived.Deep.QuietTactic
import Derived.BigQuiet
namespace Go.Proofs.Ytpfijhcjempfjaa
open Go.RowKit

/-- lo <= x <= hi -/
def inB (x lo hi : Int) : Bool := decide (lo ≤ x) && decide (x ≤ hi)
theorem inB_iff (x lo hi : Int) : inB x lo hi = true ↔ lo ≤ x ∧ x ≤ hi := by simp [inB]
theorem inB_no (x lo hi : Int) : inB x lo hi = false ↔ x < lo ∨ hi < x := by
  unfold inB
  by_cases h1 : lo ≤ x <;> by_cases h2 : x ≤ hi <;> simp [h1, h2] <;> omega
/-- Within the limit. -/
def isNum (x : Int) : Bool := inB x (-400000000) 400000000
theorem isNum_iff (x : Int) : isNum x = true ↔ -400000000 ≤ x ∧ x ≤ 400000000 := inB_iff _ _ _
theorem isNum_no (x : Int) : isNum x = false ↔ x < -400000000 ∨ 400000000 < x := inB_no _ _ _

theorem l1In_c (x lo hi : Int) (w : World) :
    Calls Try.prog 71 #[.int .i64 x, .int .i64 lo, .int .i64 hi] w fun e w' => e = .returned (.bool (inB x lo hi)) ∧ w = w' := by
  by_cases h1 : lo ≤ x
  · by_cases h2 : x ≤ hi
    · rw [(inB_iff x lo hi).2 ⟨h1, h2⟩]
      go_enter Try.func71, Try.ntmps71
      go_wp2
      go_ret
      exact ⟨by simp, rfl⟩
    · rw [(inB_no x lo hi).2 (.inr (by omega))]
      go_enter Try.func71, Try.ntmps71
      go_wp2
      go_ret
      exact ⟨by simp, rfl⟩
  · rw [(inB_no x lo hi).2 (.inl (by omega))]
    go_enter Try.func71, Try.ntmps71
    go_wp2
    go_ret
    exact ⟨by simp, rfl⟩

theorem sIsNumber_c (x : Int) (w : World) :
    Calls Try.prog 113 #[.int .i64 x] w fun e w' => e = .returned (.bool (isNum x)) ∧ w = w' := by
  go_enter Try.func113, Try.ntmps113
  go_wp2_with (go_at_call 71; refine (l1In_c x _ _ _).mono ?_; rintro e w' ⟨rfl, rfl⟩)
  go_ret
  exact ⟨rfl, rfl⟩

theorem iIsNumber_c (x : Int) (w : World) :
    Calls Try.prog 79 #[.int .i64 x] w fun e w' => e = .returned (.bool (isNum x)) ∧ w = w' := by
  by_cases h1 : -400000000 ≤ x
  · by_cases h2 : x ≤ 400000000
    · rw [(isNum_iff x).2 ⟨h1, h2⟩]
      go_enter Try.func79, Try.ntmps79
      go_wp2
      go_ret
      exact ⟨by simp, rfl⟩
    · rw [(isNum_no x).2 (.inr (by omega))]
      go_enter Try.func79, Try.ntmps79
      go_wp2
      go_ret
      exact ⟨by simp, rfl⟩
  · rw [(isNum_no x).2 (.inl (by omega))]
    go_enter Try.func79, Try.ntmps79
    go_wp2
    go_ret
    exact ⟨by simp, rfl⟩

/-- The reference's mark of a number beyond the limit. -/
def bad : Int := -4611686018427387904
def fit (n : Int) : Int := if isNum n then n else bad
theorem fit_yes {n : Int} (h : isNum n = true) : fit n = n := by simp [fit, h]
theorem fit_no {n : Int} (h : isNum n = false) : fit n = bad := by simp [fit, h]
def addB (a b : Int) : Int := if a = bad ∨ b = bad then bad else fit (a + b)
def mulB (a b : Int) : Int := if a = bad ∨ b = bad then bad else fit (a * b)
theorem bad_not : isNum bad = false := by decide
theorem num_ne_bad {x : Int} (h : isNum x = true) : x ≠ bad := fun e => by rw [e, bad_not] at h; cases h
theorem fit_bad_iff (n : Int) : fit n = bad ↔ isNum n = false := by
  unfold fit
  cases h : isNum n
  · simp
  · simp; exact num_ne_bad h

theorem l1Fit_c (x : Int) (w : World) :
    Calls Try.prog 129 #[.int .i64 x] w fun e w' => e = .returned (.int .i64 (fit x)) ∧ w = w' := by
  cases h : isNum x
  · rw [fit_no h]
    have C := fun w => l1In_c x (-400000000) 400000000 w
    rw [show inB x (-400000000) 400000000 = false from h] at C
    have HC := Lib.hid C; clear C h
    go_enter Try.func129, Try.ntmps129
    go_wp2_with (go_at_call 71; refine (HC.out _).mono ?_; rintro e w' ⟨rfl, rfl⟩)
    go_ret
    exact ⟨rfl, rfl⟩
  · rw [fit_yes h]
    have C := fun w => l1In_c x (-400000000) 400000000 w
    rw [show inB x (-400000000) 400000000 = true from h] at C
    have HC := Lib.hid C; clear C h
    go_enter Try.func129, Try.ntmps129
    go_wp2_with (go_at_call 71; refine (HC.out _).mono ?_; rintro e w' ⟨rfl, rfl⟩)
    go_ret
    exact ⟨rfl, rfl⟩

def absI (x : Int) : Int := if x < 0 then -x else x
theorem absI_pos (x : Int) : 0 ≤ absI x := by unfold absI; split <;> omega
theorem absI_le (x y : Int) : absI x ≤ y ↔ x ≤ y ∧ -x ≤ y := by unfold absI; split <;> omega

theorem absInt_c (x : Int) (w : World) (_h : -4611686018427387904 ≤ x) :
    Calls Try.prog 148 #[.int .i64 x] w fun e w' => e = .returned (.int .i64 (absI x)) ∧ w = w' := by
  unfold absI
  by_cases h1 : x < 0
  · go_enter Try.func148, Try.ntmps148
    go_wp2
    go_ret
    exact ⟨by simp, rfl⟩
  · go_enter Try.func148, Try.ntmps148
    go_wp2
    go_ret
    exact ⟨by simp, rfl⟩

theorem l1Abs_c (x : Int) (w : World) (_h : -4611686018427387904 ≤ x) (_h2 : x ≤ 4611686018427387904) :
    Calls Try.prog 96 #[.int .i64 x] w fun e w' => e = .returned (.int .i64 (absI x)) ∧ w = w' := by
  unfold absI
  by_cases h1 : x < 0
  · go_enter Try.func96, Try.ntmps96
    go_wp2
    all_goals go_ret
    all_goals exact ⟨ret_int (by first | rfl | simp | omega), rfl⟩
  · go_enter Try.func96, Try.ntmps96
    go_wp2
    all_goals go_ret
    all_goals exact ⟨ret_int (by first | rfl | simp | omega), rfl⟩

theorem addB_bad_left (b : Int) : addB bad b = bad := by simp [addB]
theorem addB_bad_right (a : Int) : addB a bad = bad := by simp [addB]
theorem addB_num {a b : Int} (ha : isNum a = true) (hb : isNum b = true) : addB a b = fit (a + b) := by simp [addB, num_ne_bad ha, num_ne_bad hb]
theorem mulB_bad_left (b : Int) : mulB bad b = bad := by simp [mulB]
theorem mulB_bad_right (a : Int) : mulB a bad = bad := by simp [mulB]
theorem mulB_num {a b : Int} (ha : isNum a = true) (hb : isNum b = true) : mulB a b = fit (a * b) := by simp [mulB, num_ne_bad ha, num_ne_bad hb]
theorem mul_bd {a b : Int} (ha : isNum a = true) (hb : isNum b = true) : -160000000000000000 ≤ a * b ∧ a * b ≤ 160000000000000000 := by
  obtain ⟨h1, h2⟩ := (isNum_iff a).1 ha
  obtain ⟨h3, h4⟩ := (isNum_iff b).1 hb
  have ha' : a.natAbs ≤ 400000000 := by omega
  have hb' : b.natAbs ≤ 400000000 := by omega
  have h := Nat.mul_le_mul ha' hb'
  rw [← Int.natAbs_mul] at h
  omega

theorem l1Add_c (a b : Int) (w : World) (ha : a = bad ∨ isNum a = true) (hb : b = bad ∨ isNum b = true) :
    Calls Try.prog 123 #[.int .i64 a, .int .i64 b] w fun e w' => e = .returned (.int .i64 (addB a b)) ∧ w = w' := by
  rcases ha with rfl | ha
  · rw [addB_bad_left]
    unfold bad
    go_enter Try.func123, Try.ntmps123
    go_wp2_with fail
    go_ret
    exact ⟨rfl, rfl⟩
  · rcases hb with rfl | hb
    · rw [addB_bad_right]
      have h1 := (isNum_iff a).1 ha
      unfold bad
      clear ha
      go_enter Try.func123, Try.ntmps123
      go_wp2_with fail
      go_ret
      exact ⟨rfl, rfl⟩
    · rw [addB_num ha hb]
      have h1 := (isNum_iff a).1 ha
      have h2 := (isNum_iff b).1 hb
      have e1 : (a == -4611686018427387904) = false := by rw [beq_eq_false_iff_ne]; omega
      have e2 : (b == -4611686018427387904) = false := by rw [beq_eq_false_iff_ne]; omega
      clear ha hb
      go_enter Try.func123, Try.ntmps123
      go_wp2_with (go_at_call 129; refine (l1Fit_c _ _).mono ?_; rintro e w' ⟨rfl, rfl⟩)
      go_ret
      exact ⟨rfl, rfl⟩

theorem l1Mul_c (a b : Int) (w : World) (ha : a = bad ∨ isNum a = true) (hb : b = bad ∨ isNum b = true) :
    Calls Try.prog 73 #[.int .i64 a, .int .i64 b] w fun e w' => e = .returned (.int .i64 (mulB a b)) ∧ w = w' := by
  rcases ha with rfl | ha
  · rw [mulB_bad_left]
    unfold bad
    go_enter Try.func73, Try.ntmps73
    go_wp2_with fail
    go_ret
    exact ⟨rfl, rfl⟩
  · rcases hb with rfl | hb
    · rw [mulB_bad_right]
      have h1 := (isNum_iff a).1 ha
      unfold bad
      clear ha
      go_enter Try.func73, Try.ntmps73
      go_wp2_with fail
      go_ret
      exact ⟨rfl, rfl⟩
    · rw [mulB_num ha hb]
      have h1 := (isNum_iff a).1 ha
      have h2 := (isNum_iff b).1 hb
      have h3 := mul_bd ha hb
      have e1 : (a == -4611686018427387904) = false := by rw [beq_eq_false_iff_ne]; omega
      have e2 : (b == -4611686018427387904) = false := by rw [beq_eq_false_iff_ne]; omega
      clear ha hb
      go_enter Try.func73, Try.ntmps73
      go_wp2_with (go_at_call 129; refine (l1Fit_c _ _).mono ?_; rintro e w' ⟨rfl, rfl⟩)
      go_ret
      exact ⟨rfl, rfl⟩
end Go.Proofs.Ytpfijhcjempfjaa
