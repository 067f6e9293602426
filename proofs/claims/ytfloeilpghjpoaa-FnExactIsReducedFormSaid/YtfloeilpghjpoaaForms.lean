/- Contracts: discriminants and binary forms. -/
import Derived.Test.YtfloeilpghjpoaaNums
namespace Go.Proofs.Ytfloeilpghjpoaa
open Go.RowKit

theorem tmod_neg4 (a : Int) (h : a < 0) : a.tmod 4 = -((-a) % 4) := by
  obtain ⟨n, rfl⟩ : ∃ n : Nat, a = -(n : Int) := ⟨a.natAbs, by omega⟩
  rw [Int.neg_tmod, Int.neg_neg, Int.tmod_eq_emod_of_nonneg (by omega)]

theorem mod4_a (a : Int) (h2 : a < 0) (h : ¬ a.tmod 4 < 0) : a.tmod 4 = a % 4 := by
  have := tmod_neg4 a h2
  omega
theorem mod4_b (a : Int) (h2 : a < 0) (h : a.tmod 4 < 0) : wrap64 (a.tmod 4 + 4) = a % 4 := by
  have := tmod_neg4 a h2
  unfold wrap64
  omega
theorem mod4_c (a : Int) (h2 : a < 0) : (wrap64 (a.tmod 4 + 4)).tmod 4 = a % 4 := by
  have := tmod_neg4 a h2
  have h1 : wrap64 (a.tmod 4 + 4) = a.tmod 4 + 4 := by unfold wrap64; omega
  rw [h1, Int.tmod_eq_emod_of_nonneg (by omega)]
  omega

theorem iMod4_c (a : Int) (w : World) (_h1 : -1000 ≤ a) (h2 : a < 0) :
    Calls Try.prog 51 #[.int .i64 a, .int .i64 4] w fun e w' => e = .returned (.int .i64 (a % 4)) ∧ w = w' := by
  by_cases h : a.tmod 4 < 0
  · go_enter Try.func51, Try.ntmps51
    go_wp2
    go_ret
    exact ⟨ret_int (mod4_b a h2 h), rfl⟩
  · go_enter Try.func51, Try.ntmps51
    go_wp2
    go_ret
    exact ⟨ret_int (mod4_a a h2 (by omega)), rfl⟩

theorem sMod4_c (a : Int) (w : World) (_h1 : -1000 ≤ a) (h2 : a < 0) :
    Calls Try.prog 50 #[.int .i64 a, .int .i64 4] w fun e w' => e = .returned (.int .i64 (a % 4)) ∧ w = w' := by
  go_enter Try.func50, Try.ntmps50
  go_wp2
  go_ret
  exact ⟨ret_int (mod4_c a h2), rfl⟩

def isDiscr (d : Int) : Bool := inB d (-1000) (-3) && decide (d % 4 ≤ 1)
theorem isDiscr_no {d : Int} (h : inB d (-1000) (-3) = false) : isDiscr d = false := by simp [isDiscr, h]
theorem isDiscr_yes {d : Int} (h : inB d (-1000) (-3) = true) : isDiscr d = decide (d % 4 ≤ 1) := by simp [isDiscr, h]

theorem sIsDiscr_c (d : Int) (w : World) :
    Calls Try.prog 15 #[.int .i64 d] w fun e w' => e = .returned (.bool (isDiscr d)) ∧ w = w' := by
  cases h : inB d (-1000) (-3)
  · rw [isDiscr_no h]
    have C := fun w => l1In_c d (-1000) (-3) w
    rw [h] at C
    have HC := Lib.hid C; clear C h
    go_enter Try.func15, Try.ntmps15
    go_wp2_with (go_at_call 49; refine (HC.out _).mono ?_; rintro e w' ⟨rfl, rfl⟩)
    go_ret
    exact ⟨rfl, rfl⟩
  · rw [isDiscr_yes h]
    have h2 := (inB_iff _ _ _).1 h
    have C := fun w => l1In_c d (-1000) (-3) w
    rw [h] at C
    have HC := Lib.hid C; clear C h
    go_enter Try.func15, Try.ntmps15
    go_wp2_with (first | (go_at_call 49; refine (HC.out _).mono ?_; rintro e w' ⟨rfl, rfl⟩) | (go_at_call 50; refine (sMod4_c d _ (by omega) (by omega)).mono ?_; rintro e w' ⟨rfl, rfl⟩))
    go_ret
    exact ⟨rfl, rfl⟩

theorem iIsDiscr_c (d : Int) (w : World) :
    Calls Try.prog 16 #[.int .i64 d] w fun e w' => e = .returned (.bool (isDiscr d)) ∧ w = w' := by
  by_cases h1 : -1000 ≤ d
  · by_cases h2 : d ≤ -3
    · rw [isDiscr_yes ((inB_iff _ _ _).2 ⟨h1, h2⟩)]
      go_enter Try.func16, Try.ntmps16
      go_wp2_with (go_at_call 51; refine (iMod4_c d _ (by omega) (by omega)).mono ?_; rintro e w' ⟨rfl, rfl⟩)
      go_ret
      exact ⟨rfl, rfl⟩
    · rw [isDiscr_no ((inB_no _ _ _).2 (.inr (by omega)))]
      go_enter Try.func16, Try.ntmps16
      go_wp2_with fail
      go_ret
      exact ⟨by simp, rfl⟩
  · rw [isDiscr_no ((inB_no _ _ _).2 (.inl (by omega)))]
    go_enter Try.func16, Try.ntmps16
    go_wp2_with fail
    go_ret
    exact ⟨by simp, rfl⟩

theorem lawIsDiscr_c (d : Int) (w : World) (_hd : (Lit.int .i64 d).wf = true) :
    Calls Try.prog 3 #[.int .i64 d] w fun e w' => e = .returned (.bool true) ∧ Grows w w' := by
  cases h : isDiscr d
  all_goals
    have C1 := fun w => sIsDiscr_c d w
    have C2 := fun w => iIsDiscr_c d w
    rw [h] at C1 C2
    have H1 := Lib.hid C1
    have H2 := Lib.hid C2
    clear C1 C2 h
    go_enter Try.func3, Try.ntmps3
    go_wp2_with (first | (go_at_call 15; refine (H1.out _).mono ?_; rintro e w' ⟨rfl, rfl⟩) | (go_at_call 16; refine (H2.out _).mono ?_; rintro e w' ⟨rfl, rfl⟩))
    go_ret
    exact ⟨rfl, Grows.refl _⟩

/-- What IsForm says of three numbers. -/
def isForm (a b c : Int) : Bool := inB a 1 5000 && inB b (-5000) 5000 && inB c 1 5000 && decide (b * b < 4 * a * c)

theorem sq_bd (b : Int) (h : -5000 ≤ b) (h2 : b ≤ 5000) : 0 ≤ b * b ∧ b * b ≤ 25000000 := by
  have hb : b.natAbs ≤ 5000 := by omega
  have h := Nat.mul_le_mul hb hb
  have := Int.natAbs_mul_self (a := b)
  omega
theorem ac_bd (a c : Int) (h : 1 ≤ a) (h2 : a ≤ 5000) (h3 : 1 ≤ c) (h4 : c ≤ 5000) : 1 ≤ 4 * a * c ∧ 4 * a * c ≤ 100000000 := by
  have ha : 4 * a ≤ 20000 := by omega
  have := Int.mul_le_mul ha h4 (by omega) (by omega)
  have h5 := Int.mul_pos (show (0:Int) < 4 * a by omega) (show (0:Int) < c by omega)
  omega

set_option maxHeartbeats 1000000 in
theorem iIsForm_c (a b c : Int) (w : World) :
    Calls Try.prog 19 #[.agg #[.int .i64 a, .int .i64 b, .int .i64 c]] w fun e w' => e = .returned (.bool (isForm a b c)) ∧ Grows w w' := by
  by_cases h : 1 ≤ a ∧ a ≤ 5000 ∧ 1 ≤ c ∧ c ≤ 5000 ∧ -5000 ≤ b ∧ b ≤ 5000
  · obtain ⟨h1, h2, h3, h4, h5, h6⟩ := h
    have e : isForm a b c = decide (b * b < 4 * a * c) := by
      unfold isForm
      rw [(inB_iff a 1 5000).2 ⟨h1, h2⟩, (inB_iff b _ _).2 ⟨h5, h6⟩, (inB_iff c _ _).2 ⟨h3, h4⟩]
      simp
    rw [e]
    have hb := sq_bd b h5 h6
    have hac := ac_bd a c h1 h2 h3 h4
    clear e
    go_enter Try.func19, Try.ntmps19
    go_wp2_with fail
    go_ret
    exact ⟨rfl, (Below.refl _ _).alloc (Nat.le_refl _) _⟩
  · have e : isForm a b c = false := by
      unfold isForm
      simp only [Bool.and_eq_false_iff, inB_no, decide_eq_false_iff_not]
      omega
    rw [e]
    clear e
    go_enter Try.func19, Try.ntmps19
    go_wp2_with fail
    all_goals go_ret
    all_goals exact ⟨by simp, (Below.refl _ _).alloc (Nat.le_refl _) _⟩

theorem toForm_c (a b c : Int) (w : World) :
    Calls Try.prog 18 #[.agg #[.int .i64 a, .int .i64 b, .int .i64 c]] w fun e w' => e = .returned (.agg #[.int .i64 a, .int .i64 b, .int .i64 c]) ∧ Grows w w' := by
  go_enter Try.func18, Try.ntmps18
  go_wp2_with fail
  refine bodyPost_ret (v := .agg #[.int .i64 a, .int .i64 b, .int .i64 c]) ?_ rfl ?_
  · simp [results, Try.results18, go_sem]
  · exact ⟨rfl, by ((repeat' (first | with_reducible exact Below.refl _ _ | with_reducible assumption | (with_reducible refine Below.setCell ?_ ?_ _) | (with_reducible refine Below.alloc ?_ ?_ _) | (with_reducible refine Below.drew ?_) | (with_reducible refine below_drewN ?_ _))); all_goals (first | omega | (simp; done) | (simp; omega) | (simp [*]; done) | (simp at *; omega)))⟩

theorem sIsForm_c (a b c : Int) (w : World) :
    Calls Try.prog 17 #[.agg #[.int .i64 a, .int .i64 b, .int .i64 c]] w fun e w' => e = .returned (.bool (isForm a b c)) ∧ Grows w w' := by
  have C1 := fun w => l1In_c a 1 5000 w
  have C2 := fun w => l1In_c b (-5000) 5000 w
  have C3 := fun w => l1In_c c 1 5000 w
  unfold isForm
  cases h1 : inB a 1 5000
  · rw [h1] at C1
    have H1 := Lib.hid C1
    clear C1 C2 C3 h1
    go_enter Try.func17, Try.ntmps17
    go_wp2_with (go_at_call 49; refine (H1.out _).mono ?_; rintro e w' ⟨rfl, rfl⟩)
    go_ret
    exact ⟨by simp, (Below.refl _ _).alloc (Nat.le_refl _) _⟩
  · cases h2 : inB b (-5000) 5000
    · rw [h1] at C1; rw [h2] at C2
      have H1 := Lib.hid C1
      have H2 := Lib.hid C2
      clear C1 C2 C3 h1 h2
      go_enter Try.func17, Try.ntmps17
      go_wp2_with fail
      refine (H1.out _).mono ?_; rintro e w' ⟨rfl, rfl⟩
      go_wp2_with fail
      refine (H2.out _).mono ?_; rintro e w' ⟨rfl, rfl⟩
      go_wp2_with fail
      go_ret
      exact ⟨by simp, (Below.refl _ _).alloc (Nat.le_refl _) _⟩
    · cases h3 : inB c 1 5000
      · rw [h1] at C1; rw [h2] at C2; rw [h3] at C3
        have H1 := Lib.hid C1
        have H2 := Lib.hid C2
        have H3 := Lib.hid C3
        clear C1 C2 C3 h1 h2 h3
        go_enter Try.func17, Try.ntmps17
        go_wp2_with fail
        refine (H1.out _).mono ?_; rintro e w' ⟨rfl, rfl⟩
        go_wp2_with fail
        refine (H2.out _).mono ?_; rintro e w' ⟨rfl, rfl⟩
        go_wp2_with fail
        refine (H3.out _).mono ?_; rintro e w' ⟨rfl, rfl⟩
        go_wp2_with fail
        go_ret
        exact ⟨by simp, (Below.refl _ _).alloc (Nat.le_refl _) _⟩
      · obtain ⟨a1, a2⟩ := (inB_iff a 1 5000).1 h1
        obtain ⟨b1, b2⟩ := (inB_iff b (-5000) 5000).1 h2
        obtain ⟨c1, c2⟩ := (inB_iff c 1 5000).1 h3
        have hb := sq_bd b b1 b2
        have hac := ac_bd a c a1 a2 c1 c2
        rw [h1] at C1; rw [h2] at C2; rw [h3] at C3
        have H1 := Lib.hid C1
        have H2 := Lib.hid C2
        have H3 := Lib.hid C3
        clear C1 C2 C3 h1 h2 h3
        go_enter Try.func17, Try.ntmps17
        go_wp2_with fail
        refine (H1.out _).mono ?_; rintro e w' ⟨rfl, rfl⟩
        go_wp2_with fail
        refine (H2.out _).mono ?_; rintro e w' ⟨rfl, rfl⟩
        go_wp2_with fail
        refine (H3.out _).mono ?_; rintro e w' ⟨rfl, rfl⟩
        go_wp2_with fail
        go_ret
        exact ⟨by simp, (Below.refl _ _).alloc (Nat.le_refl _) _⟩

theorem lawIsForm_c (a b c : Int) (w : World) (_ha : (Lit.int .i64 a).wf = true) (_hb : (Lit.int .i64 b).wf = true) (_hc : (Lit.int .i64 c).wf = true) :
    Calls Try.prog 4 #[.agg #[.int .i64 a, .int .i64 b, .int .i64 c]] w fun e w' => e = .returned (.bool true) ∧ Grows w w' := by
  have C1 := fun w => iIsForm_c a b c w
  have C2 := fun w => sIsForm_c a b c w
  cases h : isForm a b c
  all_goals
    rw [h] at C1 C2
    have H1 := Lib.hid C1
    have H2 := Lib.hid C2
    clear C1 C2 h _ha _hb _hc
    go_enter Try.func4, Try.ntmps4
    go_wp2_with fail
    refine (toForm_c a b c _).mono ?_; rintro e w1 ⟨rfl, g1⟩
    obtain ⟨cg1, fg1⟩ := bcell g1; have zg10 : w.heap.size < w1.heap.size := by (have := g1.size; (try simp at this); omega)
    go_wp2_with fail
    refine (H2.out _).mono ?_; rintro e w2 ⟨rfl, g2⟩
    obtain ⟨cg2, fg2⟩ := bcell g2; have zg20 : w.heap.size < w2.heap.size := by (have := g2.size; (try simp at this); omega)
    go_wp2_with fail
    refine (toForm_c a b c _).mono ?_; rintro e w3 ⟨rfl, g3⟩
    obtain ⟨cg3, fg3⟩ := bcell g3; have zg30 : w.heap.size < w3.heap.size := by (have := g3.size; (try simp at this); omega)
    go_wp2_with fail
    refine (H1.out _).mono ?_; rintro e w4 ⟨rfl, g4⟩
    go_wp2_with fail
    go_ret
    exact ⟨rfl, by ((repeat' (first | with_reducible exact Below.refl _ _ | with_reducible assumption | (with_reducible refine Below.setCell ?_ ?_ _) | (with_reducible refine Below.alloc ?_ ?_ _) | (with_reducible refine Below.drew ?_) | (with_reducible refine below_drewN ?_ _) | (with_reducible refine Below.trans ?_ (Below.mono (g4) ?_)) | (with_reducible refine Below.trans ?_ (Below.mono (g3) ?_)) | (with_reducible refine Below.trans ?_ (Below.mono (g2) ?_)) | (with_reducible refine Below.trans ?_ (Below.mono (g1) ?_)))); all_goals (first | omega | (simp; done) | (simp; omega) | (simp [*]; done) | (simp at *; omega)))⟩

def discOf (a b c : Int) : Int := if isForm a b c then b * b - 4 * a * c else 0
theorem isForm_bd {a b c : Int} (h : isForm a b c = true) : 0 ≤ b * b ∧ b * b ≤ 25000000 ∧ 1 ≤ 4 * a * c ∧ 4 * a * c ≤ 100000000 ∧ 1 ≤ a ∧ a ≤ 5000 ∧ 1 ≤ c ∧ c ≤ 5000 ∧ -5000 ≤ b ∧ b ≤ 5000 := by
  unfold isForm at h
  simp only [Bool.and_eq_true, inB_iff] at h
  obtain ⟨⟨⟨⟨h1, h2⟩, h3, h4⟩, h5, h6⟩, _⟩ := h
  have := sq_bd b h3 h4
  have := ac_bd a c h1 h2 h5 h6
  omega

theorem sDiscOf_c (a b c : Int) (w : World) :
    Calls Try.prog 20 #[.agg #[.int .i64 a, .int .i64 b, .int .i64 c]] w fun e w' => e = .returned (.int .i64 (discOf a b c)) ∧ Grows w w' := by
  have C := fun w => sIsForm_c a b c w
  unfold discOf
  cases h : isForm a b c
  · rw [h] at C
    have H := Lib.hid C
    clear C h
    go_enter Try.func20, Try.ntmps20
    go_wp2_with fail
    refine (H.out _).mono ?_; rintro e w1 ⟨rfl, g1⟩
    go_wp2_with fail
    go_ret
    exact ⟨rfl, by ((repeat' (first | with_reducible exact Below.refl _ _ | with_reducible assumption | (with_reducible refine Below.setCell ?_ ?_ _) | (with_reducible refine Below.alloc ?_ ?_ _) | (with_reducible refine Below.drew ?_) | (with_reducible refine below_drewN ?_ _) | (with_reducible refine Below.trans ?_ (Below.mono (g1) ?_)))); all_goals (first | omega | (simp; done) | (simp; omega) | (simp [*]; done) | (simp at *; omega)))⟩
  · rw [h] at C
    obtain ⟨b1, b2, b3, b4, b5, b6, b7, b8, b9, b10⟩ := isForm_bd h
    have H := Lib.hid C
    clear C h
    go_enter Try.func20, Try.ntmps20
    go_wp2_with fail
    refine (H.out _).mono ?_; rintro e w1 ⟨rfl, g1⟩
    obtain ⟨cg1, fg1⟩ := bcell g1; have zg10 : w.heap.size < w1.heap.size := by (have := g1.size; (try simp at this); omega)
    go_wp2_with fail
    go_ret
    exact ⟨rfl, by ((repeat' (first | with_reducible exact Below.refl _ _ | with_reducible assumption | (with_reducible refine Below.setCell ?_ ?_ _) | (with_reducible refine Below.alloc ?_ ?_ _) | (with_reducible refine Below.drew ?_) | (with_reducible refine below_drewN ?_ _) | (with_reducible refine Below.trans ?_ (Below.mono (g1) ?_)))); all_goals (first | omega | (simp; done) | (simp; omega) | (simp [*]; done) | (simp at *; omega)))⟩

theorem discr_c (a b c : Int) (w : World) (h : isForm a b c = true) :
    Calls Try.prog 52 #[.agg #[.int .i64 a, .int .i64 b, .int .i64 c]] w fun e w' => e = .returned (.int .i64 (b * b - 4 * a * c)) ∧ Grows w w' := by
  obtain ⟨b1, b2, b3, b4, b5, b6, b7, b8, b9, b10⟩ := isForm_bd h
  clear h
  go_enter Try.func52, Try.ntmps52
  go_wp2_with fail
  go_ret
  exact ⟨rfl, by ((repeat' (first | with_reducible exact Below.refl _ _ | with_reducible assumption | (with_reducible refine Below.setCell ?_ ?_ _) | (with_reducible refine Below.alloc ?_ ?_ _) | (with_reducible refine Below.drew ?_) | (with_reducible refine below_drewN ?_ _))); all_goals (first | omega | (simp; done) | (simp; omega) | (simp [*]; done) | (simp at *; omega)))⟩

theorem iDiscOf_c (a b c : Int) (w : World) :
    Calls Try.prog 21 #[.agg #[.int .i64 a, .int .i64 b, .int .i64 c]] w fun e w' => e = .returned (.int .i64 (discOf a b c)) ∧ Grows w w' := by
  have C := fun w => iIsForm_c a b c w
  unfold discOf
  cases h : isForm a b c
  · rw [h] at C
    have H := Lib.hid C
    clear C h
    go_enter Try.func21, Try.ntmps21
    go_wp2_with fail
    refine (H.out _).mono ?_; rintro e w1 ⟨rfl, g1⟩
    go_wp2_with fail
    go_ret
    exact ⟨rfl, by ((repeat' (first | with_reducible exact Below.refl _ _ | with_reducible assumption | (with_reducible refine Below.setCell ?_ ?_ _) | (with_reducible refine Below.alloc ?_ ?_ _) | (with_reducible refine Below.drew ?_) | (with_reducible refine below_drewN ?_ _) | (with_reducible refine Below.trans ?_ (Below.mono (g1) ?_)))); all_goals (first | omega | (simp; done) | (simp; omega) | (simp [*]; done) | (simp at *; omega)))⟩
  · rw [h] at C
    have H := Lib.hid C
    have D := Lib.hid h
    clear C h
    go_enter Try.func21, Try.ntmps21
    go_wp2_with fail
    refine (H.out _).mono ?_; rintro e w1 ⟨rfl, g1⟩
    obtain ⟨cg1, fg1⟩ := bcell g1; have zg10 : w.heap.size < w1.heap.size := by (have := g1.size; (try simp at this); omega)
    go_wp2_with fail
    refine (discr_c a b c _ D.out).mono ?_; rintro e w2 ⟨rfl, g2⟩
    go_wp2_with fail
    go_ret
    exact ⟨rfl, by ((repeat' (first | with_reducible exact Below.refl _ _ | with_reducible assumption | (with_reducible refine Below.setCell ?_ ?_ _) | (with_reducible refine Below.alloc ?_ ?_ _) | (with_reducible refine Below.drew ?_) | (with_reducible refine below_drewN ?_ _) | (with_reducible refine Below.trans ?_ (Below.mono (g2) ?_)) | (with_reducible refine Below.trans ?_ (Below.mono (g1) ?_)))); all_goals (first | omega | (simp; done) | (simp; omega) | (simp [*]; done) | (simp at *; omega)))⟩

theorem lawDiscOf_c (a b c : Int) (w : World) (_ha : (Lit.int .i64 a).wf = true) (_hb : (Lit.int .i64 b).wf = true) (_hc : (Lit.int .i64 c).wf = true) :
    Calls Try.prog 5 #[.agg #[.int .i64 a, .int .i64 b, .int .i64 c]] w fun e w' => e = .returned (.bool true) ∧ Grows w w' := by
  have H1 := Lib.hid fun w => iDiscOf_c a b c w
  have H2 := Lib.hid fun w => sDiscOf_c a b c w
  clear _ha _hb _hc
  generalize discOf a b c = d at *
  go_enter Try.func5, Try.ntmps5
  go_wp2_with fail
  refine (toForm_c a b c _).mono ?_; rintro e w1 ⟨rfl, g1⟩
  obtain ⟨cg1, fg1⟩ := bcell g1; have zg10 : w.heap.size < w1.heap.size := by (have := g1.size; (try simp at this); omega)
  go_wp2_with fail
  refine (H2.out _).mono ?_; rintro e w2 ⟨rfl, g2⟩
  obtain ⟨cg2, fg2⟩ := bcell g2; have zg20 : w.heap.size < w2.heap.size := by (have := g2.size; (try simp at this); omega)
  go_wp2_with fail
  refine (toForm_c a b c _).mono ?_; rintro e w3 ⟨rfl, g3⟩
  obtain ⟨cg3, fg3⟩ := bcell g3; have zg30 : w.heap.size < w3.heap.size := by (have := g3.size; (try simp at this); omega)
  go_wp2_with fail
  refine (H1.out _).mono ?_; rintro e w4 ⟨rfl, g4⟩
  go_wp2_with fail
  go_ret
  exact ⟨rfl, by ((repeat' (first | with_reducible exact Below.refl _ _ | with_reducible assumption | (with_reducible refine Below.setCell ?_ ?_ _) | (with_reducible refine Below.alloc ?_ ?_ _) | (with_reducible refine Below.drew ?_) | (with_reducible refine below_drewN ?_ _) | (with_reducible refine Below.trans ?_ (Below.mono (g4) ?_)) | (with_reducible refine Below.trans ?_ (Below.mono (g3) ?_)) | (with_reducible refine Below.trans ?_ (Below.mono (g2) ?_)) | (with_reducible refine Below.trans ?_ (Below.mono (g1) ?_)))); all_goals (first | omega | (simp; done) | (simp; omega) | (simp [*]; done) | (simp at *; omega)))⟩
end Go.Proofs.Ytfloeilpghjpoaa
