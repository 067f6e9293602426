/- Contracts: reduced binary forms. -/
import Derived.Test.YtfloeilpghjpoaaForms
import Derived.Test.YtfloeilpghjpoaaReg
namespace Go.Proofs.Ytfloeilpghjpoaa
open Go.RowKit

def lowB (a b c : Int) : Bool := decide (absI b ≤ a) && (decide (a ≤ c) && (decide (0 ≤ b) || (decide (-b < a) && decide (a < c))))

/-- the program's last test is the reference's -/
theorem low_eq (a b c : Int) (h1 : absI b ≤ a) (h2 : a ≤ c) (h3 : ¬ 0 ≤ b) : (decide (-b < a) && decide (a < c)) = (absI b != a && a != c) := by
  unfold absI at *
  rw [Bool.eq_iff_iff]
  simp
  split <;> omega

section
set_option maxHeartbeats 1000000
theorem sLow_c (a b c : Int) (w : World) (hb : -5000 ≤ b) (hb2 : b ≤ 5000) :
    Calls Try.prog 53 #[.agg #[.int .i64 a, .int .i64 b, .int .i64 c]] w fun e w' => e = .returned (.bool (lowB a b c)) ∧ Grows w w' := by
  unfold lowB
  have C := fun w => l1Abs_c b w (by omega) (by omega)
  generalize absI b = d at *
  have HC := Lib.hid C
  clear C
  by_cases h1 : d ≤ a
  · by_cases h2 : a ≤ c
    · by_cases h3 : 0 ≤ b
      · go_enter Try.func53, Try.ntmps53
        go_wp2_with fail
        go_quiet ((go_at_call 83; exact quietL (HC.out _)))
        go_wp2_with fail
        go_ret
        exact ⟨ret_bool (by rw [Bool.eq_iff_iff]; simp; try omega), by ((repeat' (first | with_reducible exact Below.refl _ _ | with_reducible assumption | (with_reducible refine Below.setCell ?_ ?_ _) | (with_reducible refine Below.alloc ?_ ?_ _) | (with_reducible refine Below.drew ?_) | (with_reducible refine below_drewN ?_ _))); all_goals (first | omega | (simp; done) | (simp; omega) | (simp [*]; done) | (simp at *; omega)))⟩
      · have h3' : decide (0 ≤ b) = false := by simpa using h3
        by_cases h4 : -b < a
        · go_enter Try.func53, Try.ntmps53
          go_wp2_with fail
          go_quiet ((go_at_call 83; exact quietL (HC.out _)))
          go_wp2_with fail
          go_ret
          exact ⟨ret_bool (by rw [Bool.eq_iff_iff]; simp; try omega), by ((repeat' (first | with_reducible exact Below.refl _ _ | with_reducible assumption | (with_reducible refine Below.setCell ?_ ?_ _) | (with_reducible refine Below.alloc ?_ ?_ _) | (with_reducible refine Below.drew ?_) | (with_reducible refine below_drewN ?_ _))); all_goals (first | omega | (simp; done) | (simp; omega) | (simp [*]; done) | (simp at *; omega)))⟩
        · have h4' : decide (-b < a) = false := by simpa using h4
          go_enter Try.func53, Try.ntmps53
          go_wp2_with fail
          go_quiet ((go_at_call 83; exact quietL (HC.out _)))
          go_wp2_with fail
          go_ret
          exact ⟨ret_bool (by rw [Bool.eq_iff_iff]; simp; try omega), by ((repeat' (first | with_reducible exact Below.refl _ _ | with_reducible assumption | (with_reducible refine Below.setCell ?_ ?_ _) | (with_reducible refine Below.alloc ?_ ?_ _) | (with_reducible refine Below.drew ?_) | (with_reducible refine below_drewN ?_ _))); all_goals (first | omega | (simp; done) | (simp; omega) | (simp [*]; done) | (simp at *; omega)))⟩
    · have h2' : decide (a ≤ c) = false := by simpa using h2
      go_enter Try.func53, Try.ntmps53
      go_wp2_with fail
      go_quiet ((go_at_call 83; exact quietL (HC.out _)))
      go_wp2_with fail
      go_ret
      exact ⟨ret_bool (by rw [Bool.eq_iff_iff]; simp; try omega), by ((repeat' (first | with_reducible exact Below.refl _ _ | with_reducible assumption | (with_reducible refine Below.setCell ?_ ?_ _) | (with_reducible refine Below.alloc ?_ ?_ _) | (with_reducible refine Below.drew ?_) | (with_reducible refine below_drewN ?_ _))); all_goals (first | omega | (simp; done) | (simp; omega) | (simp [*]; done) | (simp at *; omega)))⟩
  · have h1' : decide (d ≤ a) = false := by simpa using h1
    go_enter Try.func53, Try.ntmps53
    go_wp2_with fail
    go_quiet ((go_at_call 83; exact quietL (HC.out _)))
    go_wp2_with fail
    go_ret
    exact ⟨ret_bool (by rw [Bool.eq_iff_iff]; simp; try omega), by ((repeat' (first | with_reducible exact Below.refl _ _ | with_reducible assumption | (with_reducible refine Below.setCell ?_ ?_ _) | (with_reducible refine Below.alloc ?_ ?_ _) | (with_reducible refine Below.drew ?_) | (with_reducible refine below_drewN ?_ _))); all_goals (first | omega | (simp; done) | (simp; omega) | (simp [*]; done) | (simp at *; omega)))⟩

theorem iLow_c (a b c : Int) (w : World) (hb : -5000 ≤ b) (hb2 : b ≤ 5000) :
    Calls Try.prog 54 #[.agg #[.int .i64 a, .int .i64 b, .int .i64 c]] w fun e w' => e = .returned (.bool (lowB a b c)) ∧ Grows w w' := by
  have L := low_eq a b c
  unfold lowB
  have C := fun w => absInt_c b w (by omega)
  generalize absI b = d at *
  have HC := Lib.hid C
  have HL := Lib.hid L
  clear C L
  by_cases h1 : d ≤ a
  · by_cases h2 : a ≤ c
    · by_cases h3 : 0 ≤ b
      · go_enter Try.func54, Try.ntmps54
        go_wp2_with fail
        refine (HC.out _).mono ?_; rintro e w' ⟨rfl, rfl⟩
        go_wp2_with fail
        go_ret
        exact ⟨ret_bool (by rw [Bool.eq_iff_iff]; simp; try omega), by ((repeat' (first | with_reducible exact Below.refl _ _ | with_reducible assumption | (with_reducible refine Below.setCell ?_ ?_ _) | (with_reducible refine Below.alloc ?_ ?_ _) | (with_reducible refine Below.drew ?_) | (with_reducible refine below_drewN ?_ _))); all_goals (first | omega | (simp; done) | (simp; omega) | (simp [*]; done) | (simp at *; omega)))⟩
      · have h3' : decide (0 ≤ b) = false := by simpa using h3
        have hL := HL.out h1 h2 h3
        rw [hL]
        clear hL
        by_cases h4 : d = a
        · have h4' : (d != a) = false := by simpa using h4
          have h4'' := Lib.hid h4
          clear h4
          go_enter Try.func54, Try.ntmps54
          go_wp2_with fail
          refine (HC.out _).mono ?_; rintro e w' ⟨rfl, rfl⟩
          go_wp2_with fail
          go_ret
          have h5 := h4''.out
          exact ⟨ret_bool (by rw [Bool.eq_iff_iff]; simp; try omega), by ((repeat' (first | with_reducible exact Below.refl _ _ | with_reducible assumption | (with_reducible refine Below.setCell ?_ ?_ _) | (with_reducible refine Below.alloc ?_ ?_ _) | (with_reducible refine Below.drew ?_) | (with_reducible refine below_drewN ?_ _))); all_goals (first | omega | (simp; done) | (simp; omega) | (simp [*]; done) | (simp at *; omega)))⟩
        · have h4' : (d != a) = true := by simpa using h4
          go_enter Try.func54, Try.ntmps54
          go_wp2_with fail
          refine (HC.out _).mono ?_; rintro e w' ⟨rfl, rfl⟩
          go_wp2_with fail
          go_ret
          exact ⟨ret_bool (by rw [Bool.eq_iff_iff]; simp; try omega), by ((repeat' (first | with_reducible exact Below.refl _ _ | with_reducible assumption | (with_reducible refine Below.setCell ?_ ?_ _) | (with_reducible refine Below.alloc ?_ ?_ _) | (with_reducible refine Below.drew ?_) | (with_reducible refine below_drewN ?_ _))); all_goals (first | omega | (simp; done) | (simp; omega) | (simp [*]; done) | (simp at *; omega)))⟩
    · have h2' : decide (a ≤ c) = false := by simpa using h2
      go_enter Try.func54, Try.ntmps54
      go_wp2_with fail
      refine (HC.out _).mono ?_; rintro e w' ⟨rfl, rfl⟩
      go_wp2_with fail
      go_ret
      exact ⟨ret_bool (by rw [Bool.eq_iff_iff]; simp; try omega), by ((repeat' (first | with_reducible exact Below.refl _ _ | with_reducible assumption | (with_reducible refine Below.setCell ?_ ?_ _) | (with_reducible refine Below.alloc ?_ ?_ _) | (with_reducible refine Below.drew ?_) | (with_reducible refine below_drewN ?_ _))); all_goals (first | omega | (simp; done) | (simp; omega) | (simp [*]; done) | (simp at *; omega)))⟩
  · have h1' : decide (d ≤ a) = false := by simpa using h1
    go_enter Try.func54, Try.ntmps54
    go_wp2_with fail
    refine (HC.out _).mono ?_; rintro e w' ⟨rfl, rfl⟩
    go_wp2_with fail
    go_ret
    exact ⟨ret_bool (by rw [Bool.eq_iff_iff]; simp; try omega), by ((repeat' (first | with_reducible exact Below.refl _ _ | with_reducible assumption | (with_reducible refine Below.setCell ?_ ?_ _) | (with_reducible refine Below.alloc ?_ ?_ _) | (with_reducible refine Below.drew ?_) | (with_reducible refine below_drewN ?_ _))); all_goals (first | omega | (simp; done) | (simp; omega) | (simp [*]; done) | (simp at *; omega)))⟩

def redB (a b c : Int) : Bool := isForm a b c && lowB a b c

theorem sRed_c (a b c : Int) (w : World) :
    Calls Try.prog 22 #[.agg #[.int .i64 a, .int .i64 b, .int .i64 c]] w fun e w' => e = .returned (.bool (redB a b c)) ∧ Grows w w' := by
  have C := fun w => sIsForm_c a b c w
  unfold redB
  cases h : isForm a b c
  · rw [h] at C
    have H := Lib.hid C
    clear C h
    go_enter Try.func22, Try.ntmps22
    go_wp2_with fail
    refine (H.out _).mono ?_; rintro e w1 ⟨rfl, g1⟩
    go_wp2_with fail
    go_ret
    exact ⟨by simp, by ((repeat' (first | with_reducible exact Below.refl _ _ | with_reducible assumption | (with_reducible refine Below.setCell ?_ ?_ _) | (with_reducible refine Below.alloc ?_ ?_ _) | (with_reducible refine Below.drew ?_) | (with_reducible refine below_drewN ?_ _) | (with_reducible refine Below.trans ?_ (Below.mono (g1) ?_)))); all_goals (first | omega | (simp; done) | (simp; omega) | (simp [*]; done) | (simp at *; omega)))⟩
  · rw [h] at C
    have D := fun w => sLow_c a b c w (by have := isForm_bd h; omega) (by have := isForm_bd h; omega)
    generalize lowB a b c = d at *
    have H := Lib.hid C
    have H2 := Lib.hid D
    clear C D h
    go_enter Try.func22, Try.ntmps22
    go_wp2_with fail
    refine (H.out _).mono ?_; rintro e w1 ⟨rfl, g1⟩
    obtain ⟨cg1, fg1⟩ := bcell g1; have zg10 : w.heap.size < w1.heap.size := by (have := g1.size; (try simp at this); omega)
    go_wp2_with fail
    refine (H2.out _).mono ?_; rintro e w2 ⟨rfl, g2⟩
    go_wp2_with fail
    go_ret
    exact ⟨by simp, by ((repeat' (first | with_reducible exact Below.refl _ _ | with_reducible assumption | (with_reducible refine Below.setCell ?_ ?_ _) | (with_reducible refine Below.alloc ?_ ?_ _) | (with_reducible refine Below.drew ?_) | (with_reducible refine below_drewN ?_ _) | (with_reducible refine Below.trans ?_ (Below.mono (g2) ?_)) | (with_reducible refine Below.trans ?_ (Below.mono (g1) ?_)))); all_goals (first | omega | (simp; done) | (simp; omega) | (simp [*]; done) | (simp at *; omega)))⟩

theorem iRed_c (a b c : Int) (w : World) :
    Calls Try.prog 23 #[.agg #[.int .i64 a, .int .i64 b, .int .i64 c]] w fun e w' => e = .returned (.bool (redB a b c)) ∧ Grows w w' := by
  have C := fun w => iIsForm_c a b c w
  unfold redB
  cases h : isForm a b c
  · rw [h] at C
    have H := Lib.hid C
    clear C h
    go_enter Try.func23, Try.ntmps23
    go_wp2_with fail
    refine (H.out _).mono ?_; rintro e w1 ⟨rfl, g1⟩
    go_wp2_with fail
    go_ret
    exact ⟨by simp, by ((repeat' (first | with_reducible exact Below.refl _ _ | with_reducible assumption | (with_reducible refine Below.setCell ?_ ?_ _) | (with_reducible refine Below.alloc ?_ ?_ _) | (with_reducible refine Below.drew ?_) | (with_reducible refine below_drewN ?_ _) | (with_reducible refine Below.trans ?_ (Below.mono (g1) ?_)))); all_goals (first | omega | (simp; done) | (simp; omega) | (simp [*]; done) | (simp at *; omega)))⟩
  · rw [h] at C
    have D := fun w => iLow_c a b c w (by have := isForm_bd h; omega) (by have := isForm_bd h; omega)
    generalize lowB a b c = d at *
    have H := Lib.hid C
    have H2 := Lib.hid D
    clear C D h
    go_enter Try.func23, Try.ntmps23
    go_wp2_with fail
    refine (H.out _).mono ?_; rintro e w1 ⟨rfl, g1⟩
    obtain ⟨cg1, fg1⟩ := bcell g1; have zg10 : w.heap.size < w1.heap.size := by (have := g1.size; (try simp at this); omega)
    go_wp2_with fail
    refine (H2.out _).mono ?_; rintro e w2 ⟨rfl, g2⟩
    go_wp2_with fail
    go_ret
    exact ⟨by simp, by ((repeat' (first | with_reducible exact Below.refl _ _ | with_reducible assumption | (with_reducible refine Below.setCell ?_ ?_ _) | (with_reducible refine Below.alloc ?_ ?_ _) | (with_reducible refine Below.drew ?_) | (with_reducible refine below_drewN ?_ _) | (with_reducible refine Below.trans ?_ (Below.mono (g2) ?_)) | (with_reducible refine Below.trans ?_ (Below.mono (g1) ?_)))); all_goals (first | omega | (simp; done) | (simp; omega) | (simp [*]; done) | (simp at *; omega)))⟩

theorem lawRed_c (a b c : Int) (w : World) (_ha : (Lit.int .i64 a).wf = true) (_hb : (Lit.int .i64 b).wf = true) (_hc : (Lit.int .i64 c).wf = true) :
    Calls Try.prog 6 #[.agg #[.int .i64 a, .int .i64 b, .int .i64 c]] w fun e w' => e = .returned (.bool true) ∧ Grows w w' := by
  have H1 := Lib.hid fun w => iRed_c a b c w
  have H2 := Lib.hid fun w => sRed_c a b c w
  clear _ha _hb _hc
  generalize redB a b c = d at *
  cases d
  all_goals
    go_enter Try.func6, Try.ntmps6
    go_wp2_with fail
    refine (toForm_c a b c _).mono ?_; rintro e w1 ⟨rfl, g1⟩
    obtain ⟨cg1, fg1⟩ := bcell g1; have zg10 : w.heap.size < w1.heap.size := by (have := g1.size; (try simp at this); omega)
    go_wp2_with fail
    refine (H2.out _).mono ?_; rintro e w2 ⟨rfl, g2⟩
    obtain ⟨cg2, fg2⟩ := bcell g2; have zg20 : w.heap.size < w2.heap.size := by (have := g2.size; (try simp at this); omega)
    go_wp2_with fail
    refine (toForm_c a b c _).mono ?_; rintro e w3 ⟨rfl, g3⟩
    obtain ⟨cg3, fg3⟩ := bcell g3; have zg30 : w.heap.size < w3.heap.size := by (have := g3.size; (try simp at this); omega)
    go_wp2_with fail
    refine (H1.out _).mono ?_; rintro e w4 ⟨rfl, g4⟩
    go_wp2_with fail
    go_ret
    exact ⟨rfl, by ((repeat' (first | with_reducible exact Below.refl _ _ | with_reducible assumption | (with_reducible refine Below.setCell ?_ ?_ _) | (with_reducible refine Below.alloc ?_ ?_ _) | (with_reducible refine Below.drew ?_) | (with_reducible refine below_drewN ?_ _) | (with_reducible refine Below.trans ?_ (Below.mono (g4) ?_)) | (with_reducible refine Below.trans ?_ (Below.mono (g3) ?_)) | (with_reducible refine Below.trans ?_ (Below.mono (g2) ?_)) | (with_reducible refine Below.trans ?_ (Below.mono (g1) ?_)))); all_goals (first | omega | (simp; done) | (simp; omega) | (simp [*]; done) | (simp at *; omega)))⟩
end
end Go.Proofs.Ytfloeilpghjpoaa
