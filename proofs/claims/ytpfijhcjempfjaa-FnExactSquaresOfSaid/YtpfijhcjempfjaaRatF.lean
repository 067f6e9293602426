/- Contracts: more operations on fractions. -/
import Derived.Test.YtpfijhcjempfjaaRatD
import Derived.Test.YtpfijhcjempfjaaTail
namespace Go.Proofs.Ytpfijhcjempfjaa
open Go.RowKit

theorem ediv_tdiv {n d : Int} (hd : 0 < d) : n / d = if n.tmod d < 0 then n.tdiv d - 1 else n.tdiv d := by
  have e := Int.mul_tdiv_add_tmod n d
  have h1 := Int.tmod_lt_of_pos n hd
  have h2 : -d < n.tmod d := by
    have := Int.neg_tmod n d
    have h3 := Int.tmod_lt_of_pos (-n) hd
    omega
  split
  · rename_i h
    have : n = d * (n.tdiv d - 1) + (n.tmod d + d) := by rw [Int.mul_sub]; omega
    exact ((Int.ediv_emod_unique (r := n.tmod d + d) (q := n.tdiv d - 1) hd).2 ⟨by omega, by omega, by omega⟩).1
  · exact ((Int.ediv_emod_unique (r := n.tmod d) (q := n.tdiv d) hd).2 ⟨by omega, by omega, by omega⟩).1
theorem tmod_neg_iff {n d : Int} (hd : 0 < d) : n.tmod d < 0 ↔ n.tmod d ≠ 0 ∧ n < 0 := by
  constructor
  · intro h
    refine ⟨by omega, ?_⟩
    by_cases h2 : n < 0
    · exact h2
    · have := Int.tmod_nonneg d (show 0 ≤ n by omega); omega
  · intro ⟨h1, h2⟩
    have := Int.neg_tmod n d
    have h3 := Int.tmod_nonneg (a := -n) d (by omega)
    omega
def wholeQ (n : Int) : Q2 := (n, 1)
def subQ (a b : Q2) : Q2 := addQ a (negQ b)

section
set_option maxHeartbeats 1000000
theorem iMake_c (n d : Int) (w : World) : Calls Try.prog 82 #[.int .i64 n, .int .i64 d] w (QRet (makeQ n d) w) := by
  have HA := fun W => iIsNumber_c n W
  have HB := fun W => iIsNumber_c d W
  obtain ⟨w1, hw1⟩ : ∃ w1, w1 = w.alloc (.cells #[.int .i64 0, .int .i64 0] 47) := ⟨_, rfl⟩
  have mr : QBox w1 w.heap.size (0, 0) := by rw [hw1]; exact QBox.new_ w (0, 0) 47 rfl
  have g01 : Grows w w1 := by rw [hw1]; ((repeat' (first | with_reducible exact Below.refl _ _ | with_reducible assumption | (with_reducible refine Below.setCell ?_ ?_ _) | (with_reducible refine Below.alloc ?_ ?_ _) | (with_reducible refine Below.drew ?_) | (with_reducible refine below_drewN ?_ _))); all_goals (first | omega | (simp; done) | (simp; omega) | (simp [*]; done) | (simp at *; omega)))
  have HW1 := Lib.hid hw1
  clear hw1
  obtain ⟨RES, hRES⟩ : ∃ x, x = makeQ n d := ⟨_, rfl⟩
  rw [← hRES]
  unfold makeQ at hRES
  have hbn := (isNum_iff n).1
  have hbd := (isNum_iff d).1
  generalize isNum n = oa at *
  generalize isNum d = ob at *
  have HA' := Lib.hid HA
  have HB' := Lib.hid HB
  have HD := Lib.hid hRES
  clear HA HB hRES
  cases oa
  · have HE := Lib.hid (show RES = (0, 0) from HD.out)
    clear HD hbn hbd
    go_enter Try.func82, Try.ntmps82
    go_wp2_with fail
    refine (HA'.out _).mono ?_; rintro e w' ⟨rfl, rfl⟩
    rw [← HW1.out]
    (have zr := QBox.grows mr (w' := w1) (by ((repeat' (first | with_reducible exact Below.refl _ _ | with_reducible assumption | (with_reducible refine Below.setCell ?_ ?_ _) | (with_reducible refine Below.alloc ?_ ?_ _) | (with_reducible refine Below.drew ?_) | (with_reducible refine below_drewN ?_ _))); all_goals (first | omega | (simp; done) | (simp; omega) | (simp [*]; done) | (simp at *; omega)))); obtain ⟨zr0, zr1⟩ := zr.cells; have zrl := zr.lt; have zrf := zr.fz; go_wp2_with fail; refine bodyPost_ret (v := .agg #[.int .i64 0, .int .i64 0]) ?_ rfl ?_; (simp [results, Try.results82, go_sem, zr0, zr1, zrf, zrl]); exact ⟨by rw [HE.out], by (have bz0 := Below.size (g01); (try simp at bz0); (repeat' (first | with_reducible exact Below.refl _ _ | with_reducible assumption | (with_reducible refine Below.setCell ?_ ?_ _) | (with_reducible refine Below.alloc ?_ ?_ _) | (with_reducible refine Below.drew ?_) | (with_reducible refine below_drewN ?_ _) | (with_reducible refine Below.trans ?_ (Below.mono (g01) ?_)))); all_goals (first | omega | (simp; done) | (simp; omega) | (simp [*]; done) | (simp at *; omega)))⟩)
  · cases ob
    · have HE := Lib.hid (show RES = (0, 0) from HD.out)
      clear HD hbn hbd
      go_enter Try.func82, Try.ntmps82
      go_wp2_with fail
      refine (HA'.out _).mono ?_; rintro e w' ⟨rfl, rfl⟩
      rw [← HW1.out]
      go_wp2_with fail
      refine (HB'.out _).mono ?_; rintro e w' ⟨rfl, rfl⟩
      (have zr := QBox.grows mr (w' := w1) (by ((repeat' (first | with_reducible exact Below.refl _ _ | with_reducible assumption | (with_reducible refine Below.setCell ?_ ?_ _) | (with_reducible refine Below.alloc ?_ ?_ _) | (with_reducible refine Below.drew ?_) | (with_reducible refine below_drewN ?_ _))); all_goals (first | omega | (simp; done) | (simp; omega) | (simp [*]; done) | (simp at *; omega)))); obtain ⟨zr0, zr1⟩ := zr.cells; have zrl := zr.lt; have zrf := zr.fz; go_wp2_with fail; refine bodyPost_ret (v := .agg #[.int .i64 0, .int .i64 0]) ?_ rfl ?_; (simp [results, Try.results82, go_sem, zr0, zr1, zrf, zrl]); exact ⟨by rw [HE.out], by (have bz0 := Below.size (g01); (try simp at bz0); (repeat' (first | with_reducible exact Below.refl _ _ | with_reducible assumption | (with_reducible refine Below.setCell ?_ ?_ _) | (with_reducible refine Below.alloc ?_ ?_ _) | (with_reducible refine Below.drew ?_) | (with_reducible refine below_drewN ?_ _) | (with_reducible refine Below.trans ?_ (Below.mono (g01) ?_)))); all_goals (first | omega | (simp; done) | (simp; omega) | (simp [*]; done) | (simp at *; omega)))⟩)
    · have HE := Lib.hid (show RES = mkQ n d from HD.out)
      obtain ⟨a1, a2⟩ := hbn rfl
      obtain ⟨c1, c2⟩ := hbd rfl
      clear HD hbn hbd
      by_cases hd : d = 0
      · subst hd
        go_enter Try.func82, Try.ntmps82
        go_wp2_with fail
        refine (HA'.out _).mono ?_; rintro e w' ⟨rfl, rfl⟩
        rw [← HW1.out]
        go_wp2_with fail
        refine (HB'.out _).mono ?_; rintro e w' ⟨rfl, rfl⟩
        (have zr := QBox.grows mr (w' := w1) (by ((repeat' (first | with_reducible exact Below.refl _ _ | with_reducible assumption | (with_reducible refine Below.setCell ?_ ?_ _) | (with_reducible refine Below.alloc ?_ ?_ _) | (with_reducible refine Below.drew ?_) | (with_reducible refine below_drewN ?_ _))); all_goals (first | omega | (simp; done) | (simp; omega) | (simp [*]; done) | (simp at *; omega)))); obtain ⟨zr0, zr1⟩ := zr.cells; have zrl := zr.lt; have zrf := zr.fz; go_wp2_with fail; refine bodyPost_ret (v := .agg #[.int .i64 0, .int .i64 0]) ?_ rfl ?_; (simp [results, Try.results82, go_sem, zr0, zr1, zrf, zrl]); exact ⟨by rw [HE.out]; rfl, by (have bz0 := Below.size (g01); (try simp at bz0); (repeat' (first | with_reducible exact Below.refl _ _ | with_reducible assumption | (with_reducible refine Below.setCell ?_ ?_ _) | (with_reducible refine Below.alloc ?_ ?_ _) | (with_reducible refine Below.drew ?_) | (with_reducible refine below_drewN ?_ _) | (with_reducible refine Below.trans ?_ (Below.mono (g01) ?_)))); all_goals (first | omega | (simp; done) | (simp; omega) | (simp [*]; done) | (simp at *; omega)))⟩)
      · have HL := Lib.hid fun W => lowest_c n d W hd (by omega) (by omega) (by omega) (by omega)
        have hd0 : (d == 0) = false := by simpa using hd
        generalize mkQ n d = R at *
        go_enter Try.func82, Try.ntmps82
        go_wp2_with fail
        refine (HA'.out _).mono ?_; rintro e w' ⟨rfl, rfl⟩
        rw [← HW1.out]
        go_wp2_with fail
        refine (HB'.out _).mono ?_; rintro e w' ⟨rfl, rfl⟩
        go_wp2_with fail
        refine (HL.out _).mono ?_; rintro e w4 ⟨rfl, g4⟩
        (have zr := QBox.grows mr (w' := w4) (by (have bz0 := Below.size (g4); (try simp at bz0); (repeat' (first | with_reducible exact Below.refl _ _ | with_reducible assumption | (with_reducible refine Below.setCell ?_ ?_ _) | (with_reducible refine Below.alloc ?_ ?_ _) | (with_reducible refine Below.drew ?_) | (with_reducible refine below_drewN ?_ _) | (with_reducible refine Below.trans ?_ (Below.mono (g4) ?_)))); all_goals (first | omega | (simp; done) | (simp; omega) | (simp [*]; done) | (simp at *; omega)))); obtain ⟨zr0, zr1⟩ := zr.cells; have zrl := zr.lt; have zrf := zr.fz; go_wp2_with fail; refine bodyPost_ret (v := .agg #[.int .i64 R.1, .int .i64 R.2]) ?_ rfl ?_; (simp [results, Try.results82, go_sem, zr0, zr1, zrf, zrl]); exact ⟨by rw [HE.out], by (have bz0 := Below.size (g4); (try simp at bz0); have bz1 := Below.size (g01); (try simp at bz1); (repeat' (first | with_reducible exact Below.refl _ _ | with_reducible assumption | (with_reducible refine Below.setCell ?_ ?_ _) | (with_reducible refine Below.alloc ?_ ?_ _) | (with_reducible refine Below.drew ?_) | (with_reducible refine below_drewN ?_ _) | (with_reducible refine Below.trans ?_ (Below.mono (g4) ?_)) | (with_reducible refine Below.trans ?_ (Below.mono (g01) ?_)))); all_goals (first | omega | (simp; done) | (simp; omega) | (simp [*]; done) | (simp at *; omega)))⟩)
theorem iNeg_c (a : Q2) (w : World) : Calls Try.prog 156 #[.agg #[.int .i64 a.1, .int .i64 a.2]] w (QRet (negQ a) w) := by
  have HA := fun W => iIsRatio_c a.1 a.2 W
  obtain ⟨w1, hw1, ma, mr, g01⟩ := one_q w a
  have HW1 := Lib.hid hw1
  clear hw1
  obtain ⟨RES, hRES⟩ : ∃ x, x = negQ a := ⟨_, rfl⟩
  rw [← hRES]
  unfold negQ at hRES
  have hka := @okQ_bd a
  change ∀ W, Calls _ _ _ W (fun e w' => e = .returned (.bool (okQ a)) ∧ _) at HA
  generalize okQ a = oa at *
  have HA' := Lib.hid HA
  have HD := Lib.hid hRES
  clear HA hRES
  cases oa
  · have HE := Lib.hid (show RES = (0, 0) from HD.out)
    clear HD hka
    go_enter Try.func156, Try.ntmps156
    go_wp2_with fail
    refine (HA'.out _).mono ?_; rintro e w2 ⟨rfl, g2⟩
    rw [← HW1.out] at g2
    (have zr := QBox.grows mr (w' := w2) (by (have bz0 := Below.size (g2); (try simp at bz0); (repeat' (first | with_reducible exact Below.refl _ _ | with_reducible assumption | (with_reducible refine Below.setCell ?_ ?_ _) | (with_reducible refine Below.alloc ?_ ?_ _) | (with_reducible refine Below.drew ?_) | (with_reducible refine below_drewN ?_ _) | (with_reducible refine Below.trans ?_ (Below.mono (g2) ?_)))); all_goals (first | omega | (simp; done) | (simp; omega) | (simp [*]; done) | (simp at *; omega)))); obtain ⟨zr0, zr1⟩ := zr.cells; have zrl := zr.lt; have zrf := zr.fz; go_wp2_with fail; refine bodyPost_ret (v := .agg #[.int .i64 0, .int .i64 0]) ?_ rfl ?_; (simp [results, Try.results156, go_sem, zr0, zr1, zrf, zrl]); exact ⟨by rw [HE.out], by (have bz0 := Below.size (g2); (try simp at bz0); have bz1 := Below.size (g01); (try simp at bz1); (repeat' (first | with_reducible exact Below.refl _ _ | with_reducible assumption | (with_reducible refine Below.setCell ?_ ?_ _) | (with_reducible refine Below.alloc ?_ ?_ _) | (with_reducible refine Below.drew ?_) | (with_reducible refine below_drewN ?_ _) | (with_reducible refine Below.trans ?_ (Below.mono (g2) ?_)) | (with_reducible refine Below.trans ?_ (Below.mono (g01) ?_)))); all_goals (first | omega | (simp; done) | (simp; omega) | (simp [*]; done) | (simp at *; omega)))⟩)
  · have HE := Lib.hid (show RES = (-a.1, a.2) from HD.out)
    obtain ⟨a1, a2, a3, a4⟩ := hka rfl
    clear HD hka
    go_enter Try.func156, Try.ntmps156
    go_wp2_with fail
    refine (HA'.out _).mono ?_; rintro e w2 ⟨rfl, g2⟩
    rw [← HW1.out] at g2
    obtain ⟨b0, b1⟩ := (ma.grows g2).cells
    (have zr := QBox.grows mr (w' := w2) (by (have bz0 := Below.size (g2); (try simp at bz0); (repeat' (first | with_reducible exact Below.refl _ _ | with_reducible assumption | (with_reducible refine Below.setCell ?_ ?_ _) | (with_reducible refine Below.alloc ?_ ?_ _) | (with_reducible refine Below.drew ?_) | (with_reducible refine below_drewN ?_ _) | (with_reducible refine Below.trans ?_ (Below.mono (g2) ?_)))); all_goals (first | omega | (simp; done) | (simp; omega) | (simp [*]; done) | (simp at *; omega)))); obtain ⟨zr0, zr1⟩ := zr.cells; have zrl := zr.lt; have zrf := zr.fz; go_wp2_with fail; refine bodyPost_ret (v := .agg #[.int .i64 (-a.1), .int .i64 a.2]) ?_ rfl ?_; (simp [results, Try.results156, go_sem, zr0, zr1, zrf, zrl]); exact ⟨by rw [HE.out], by (have bz0 := Below.size (g2); (try simp at bz0); have bz1 := Below.size (g01); (try simp at bz1); (repeat' (first | with_reducible exact Below.refl _ _ | with_reducible assumption | (with_reducible refine Below.setCell ?_ ?_ _) | (with_reducible refine Below.alloc ?_ ?_ _) | (with_reducible refine Below.drew ?_) | (with_reducible refine below_drewN ?_ _) | (with_reducible refine Below.trans ?_ (Below.mono (g2) ?_)) | (with_reducible refine Below.trans ?_ (Below.mono (g01) ?_)))); all_goals (first | omega | (simp; done) | (simp; omega) | (simp [*]; done) | (simp at *; omega)))⟩)
theorem iCmp_c (a b : Q2) (w : World) : Calls Try.prog 149 #[.agg #[.int .i64 a.1, .int .i64 a.2], .agg #[.int .i64 b.1, .int .i64 b.2]] w fun e w' => e = .returned (.int .i64 (cmpQ a b)) ∧ Grows w w' := by
  have HA := fun W => iIsRatio_c a.1 a.2 W
  have HB := fun W => iIsRatio_c b.1 b.2 W
  obtain ⟨w1, hw1⟩ : ∃ w1, w1 = (w.alloc (.cells #[.int .i64 a.1, .int .i64 a.2] 47)).alloc (.cells #[.int .i64 b.1, .int .i64 b.2] 47) := ⟨_, rfl⟩
  have ma : QBox w1 w.heap.size a := by rw [hw1]; exact (QBox.new_ w a 47 rfl).grows ((Below.refl _ _).alloc (Nat.le_refl _) _)
  have mb : QBox w1 (w.heap.size + 1) b := by rw [hw1]; exact QBox.new_ _ b 47 (by simp)
  have g01 : Grows w w1 := by rw [hw1]; ((repeat' (first | with_reducible exact Below.refl _ _ | with_reducible assumption | (with_reducible refine Below.setCell ?_ ?_ _) | (with_reducible refine Below.alloc ?_ ?_ _) | (with_reducible refine Below.drew ?_) | (with_reducible refine below_drewN ?_ _))); all_goals (first | omega | (simp; done) | (simp; omega) | (simp [*]; done) | (simp at *; omega)))
  have HW1 := Lib.hid hw1
  clear hw1
  obtain ⟨RES, hRES⟩ : ∃ x, x = cmpQ a b := ⟨_, rfl⟩
  rw [← hRES]
  unfold cmpQ at hRES
  have hka := @okQ_bd a
  have hkb := @okQ_bd b
  change ∀ W, Calls _ _ _ W (fun e w' => e = .returned (.bool (okQ a)) ∧ _) at HA
  change ∀ W, Calls _ _ _ W (fun e w' => e = .returned (.bool (okQ b)) ∧ _) at HB
  generalize okQ a = oa at *
  generalize okQ b = ob at *
  have HA' := Lib.hid HA
  have HB' := Lib.hid HB
  have HD := Lib.hid hRES
  clear HA HB hRES
  cases oa
  · have HE := Lib.hid (show RES = 2 from HD.out)
    clear HD hka hkb
    go_enter Try.func149, Try.ntmps149
    go_wp2_with fail
    refine (HA'.out _).mono ?_; rintro e w2 ⟨rfl, g2⟩
    rw [← HW1.out] at g2
    go_wp2_with fail
    go_ret
    exact ⟨ret_int (by rw [HE.out]), by (have bz0 := Below.size (g2); (try simp at bz0); have bz1 := Below.size (g01); (try simp at bz1); (repeat' (first | with_reducible exact Below.refl _ _ | with_reducible assumption | (with_reducible refine Below.setCell ?_ ?_ _) | (with_reducible refine Below.alloc ?_ ?_ _) | (with_reducible refine Below.drew ?_) | (with_reducible refine below_drewN ?_ _) | (with_reducible refine Below.trans ?_ (Below.mono (g2) ?_)) | (with_reducible refine Below.trans ?_ (Below.mono (g01) ?_)))); all_goals (first | omega | (simp; done) | (simp; omega) | (simp [*]; done) | (simp at *; omega)))⟩
  · cases ob
    · have HE := Lib.hid (show RES = 2 from HD.out)
      clear HD hka hkb
      go_enter Try.func149, Try.ntmps149
      go_wp2_with fail
      refine (HA'.out _).mono ?_; rintro e w2 ⟨rfl, g2⟩
      rw [← HW1.out] at g2
      obtain ⟨b0, b1⟩ := (mb.grows g2).cells
      go_wp2_with fail
      refine (HB'.out _).mono ?_; rintro e w3 ⟨rfl, g3⟩
      go_wp2_with fail
      go_ret
      exact ⟨ret_int (by rw [HE.out]), by (have bz0 := Below.size (g3); (try simp at bz0); have bz1 := Below.size (g2); (try simp at bz1); have bz2 := Below.size (g01); (try simp at bz2); (repeat' (first | with_reducible exact Below.refl _ _ | with_reducible assumption | (with_reducible refine Below.setCell ?_ ?_ _) | (with_reducible refine Below.alloc ?_ ?_ _) | (with_reducible refine Below.drew ?_) | (with_reducible refine below_drewN ?_ _) | (with_reducible refine Below.trans ?_ (Below.mono (g3) ?_)) | (with_reducible refine Below.trans ?_ (Below.mono (g2) ?_)) | (with_reducible refine Below.trans ?_ (Below.mono (g01) ?_)))); all_goals (first | omega | (simp; done) | (simp; omega) | (simp [*]; done) | (simp at *; omega)))⟩
    · have hE : RES = if a.1 * b.2 < b.1 * a.2 then -1 else if b.1 * a.2 < a.1 * b.2 then 1 else 0 := HD.out
      obtain ⟨a1, a2, a3, a4⟩ := hka rfl
      obtain ⟨c1, c2, c3, c4⟩ := hkb rfl
      have m0 := mul_bd2 (x := a.1) (y := b.2) (by omega) (by omega) (by omega) (by omega)
      have m1 := mul_bd2 (x := b.1) (y := a.2) (by omega) (by omega) (by omega) (by omega)
      clear HD hka hkb
      obtain ⟨X, hX⟩ : ∃ X, X = a.1 * b.2 := ⟨_, rfl⟩
      obtain ⟨Y, hY⟩ : ∃ Y, Y = b.1 * a.2 := ⟨_, rfl⟩
      rw [← hX, ← hY] at hE
      have HE := Lib.hid hE
      have HX := Lib.hid hX
      have HY := Lib.hid hY
      clear hE
      rcases Int.lt_trichotomy X Y with h | h | h
      all_goals
        have HH := Lib.hid h
        have h1 : (a.1 * b.2 < b.1 * a.2) = (X < Y) := by rw [hX, hY]
        have h2 : (b.1 * a.2 < a.1 * b.2) = (Y < X) := by rw [hX, hY]
        try (have h3 : ¬ (b.1 * a.2 < a.1 * b.2) := by rw [h2]; omega)
        try (have h4 : ¬ (a.1 * b.2 < b.1 * a.2) := by rw [h1]; omega)
        try (have h5 : b.1 * a.2 < a.1 * b.2 := by rw [h2]; omega)
        try (have h6 : a.1 * b.2 < b.1 * a.2 := by rw [h1]; omega)
        clear h h1 h2 hX hY
        go_enter Try.func149, Try.ntmps149
        go_wp2_with fail
        refine (HA'.out _).mono ?_; rintro e w2 ⟨rfl, g2⟩
        rw [← HW1.out] at g2
        obtain ⟨b0, b1⟩ := (mb.grows g2).cells
        go_wp2_with fail
        refine (HB'.out _).mono ?_; rintro e w3 ⟨rfl, g3⟩
        clear b0 b1
        obtain ⟨b0, b1⟩ := (mb.grows (w' := w3) (by (have bz0 := Below.size (g3); (try simp at bz0); have bz1 := Below.size (g2); (try simp at bz1); (repeat' (first | with_reducible exact Below.refl _ _ | with_reducible assumption | (with_reducible refine Below.setCell ?_ ?_ _) | (with_reducible refine Below.alloc ?_ ?_ _) | (with_reducible refine Below.drew ?_) | (with_reducible refine below_drewN ?_ _) | (with_reducible refine Below.trans ?_ (Below.mono (g3) ?_)) | (with_reducible refine Below.trans ?_ (Below.mono (g2) ?_)))); all_goals (first | omega | (simp; done) | (simp; omega) | (simp [*]; done) | (simp at *; omega))))).cells
        obtain ⟨a0, a1'⟩ := (ma.grows (w' := w3) (by (have bz0 := Below.size (g3); (try simp at bz0); have bz1 := Below.size (g2); (try simp at bz1); (repeat' (first | with_reducible exact Below.refl _ _ | with_reducible assumption | (with_reducible refine Below.setCell ?_ ?_ _) | (with_reducible refine Below.alloc ?_ ?_ _) | (with_reducible refine Below.drew ?_) | (with_reducible refine below_drewN ?_ _) | (with_reducible refine Below.trans ?_ (Below.mono (g3) ?_)) | (with_reducible refine Below.trans ?_ (Below.mono (g2) ?_)))); all_goals (first | omega | (simp; done) | (simp; omega) | (simp [*]; done) | (simp at *; omega))))).cells
        go_wp2_with fail
        go_ret
        refine ⟨ret_int ?_, by (have bz0 := Below.size (g3); (try simp at bz0); have bz1 := Below.size (g2); (try simp at bz1); have bz2 := Below.size (g01); (try simp at bz2); (repeat' (first | with_reducible exact Below.refl _ _ | with_reducible assumption | (with_reducible refine Below.setCell ?_ ?_ _) | (with_reducible refine Below.alloc ?_ ?_ _) | (with_reducible refine Below.drew ?_) | (with_reducible refine below_drewN ?_ _) | (with_reducible refine Below.trans ?_ (Below.mono (g3) ?_)) | (with_reducible refine Below.trans ?_ (Below.mono (g2) ?_)) | (with_reducible refine Below.trans ?_ (Below.mono (g01) ?_)))); all_goals (first | omega | (simp; done) | (simp; omega) | (simp [*]; done) | (simp at *; omega)))⟩
        have := HH.out
        rw [HE.out]
        repeat' split
        all_goals omega
theorem sMake_c (n d : Int) (w : World) : Calls Try.prog 81 #[.int .i64 n, .int .i64 d] w (QRet (makeQ n d) w) := by
  have HA := fun W => sIsNumber_c n W
  have HB := fun W => sIsNumber_c d W
  obtain ⟨w1, hw1⟩ : ∃ w1, w1 = w.alloc (.cells #[.int .i64 0, .int .i64 0] 47) := ⟨_, rfl⟩
  have mr : QBox w1 w.heap.size (0, 0) := by rw [hw1]; exact QBox.new_ w (0, 0) 47 rfl
  have g01 : Grows w w1 := by rw [hw1]; ((repeat' (first | with_reducible exact Below.refl _ _ | with_reducible assumption | (with_reducible refine Below.setCell ?_ ?_ _) | (with_reducible refine Below.alloc ?_ ?_ _) | (with_reducible refine Below.drew ?_) | (with_reducible refine below_drewN ?_ _))); all_goals (first | omega | (simp; done) | (simp; omega) | (simp [*]; done) | (simp at *; omega)))
  have HW1 := Lib.hid hw1
  clear hw1
  obtain ⟨RES, hRES⟩ : ∃ x, x = makeQ n d := ⟨_, rfl⟩
  rw [← hRES]
  unfold makeQ at hRES
  have hbn := (isNum_iff n).1
  have hbd := (isNum_iff d).1
  generalize isNum n = oa at *
  generalize isNum d = ob at *
  have HA' := Lib.hid HA
  have HB' := Lib.hid HB
  have HD := Lib.hid hRES
  clear HA HB hRES
  cases oa
  · have HE := Lib.hid (show RES = (0, 0) from HD.out)
    clear HD hbn hbd
    go_enter Try.func81, Try.ntmps81
    go_wp2_with fail
    refine (HA'.out _).mono ?_; rintro e w' ⟨rfl, rfl⟩
    rw [← HW1.out]
    (have zr := QBox.grows mr (w' := w1) (by ((repeat' (first | with_reducible exact Below.refl _ _ | with_reducible assumption | (with_reducible refine Below.setCell ?_ ?_ _) | (with_reducible refine Below.alloc ?_ ?_ _) | (with_reducible refine Below.drew ?_) | (with_reducible refine below_drewN ?_ _))); all_goals (first | omega | (simp; done) | (simp; omega) | (simp [*]; done) | (simp at *; omega)))); obtain ⟨zr0, zr1⟩ := zr.cells; have zrl := zr.lt; have zrf := zr.fz; go_wp2_with fail; refine bodyPost_ret (v := .agg #[.int .i64 0, .int .i64 0]) ?_ rfl ?_; (simp [results, Try.results81, go_sem, zr0, zr1, zrf, zrl]); exact ⟨by rw [HE.out], by (have bz0 := Below.size (g01); (try simp at bz0); (repeat' (first | with_reducible exact Below.refl _ _ | with_reducible assumption | (with_reducible refine Below.setCell ?_ ?_ _) | (with_reducible refine Below.alloc ?_ ?_ _) | (with_reducible refine Below.drew ?_) | (with_reducible refine below_drewN ?_ _) | (with_reducible refine Below.trans ?_ (Below.mono (g01) ?_)))); all_goals (first | omega | (simp; done) | (simp; omega) | (simp [*]; done) | (simp at *; omega)))⟩)
  · cases ob
    · have HE := Lib.hid (show RES = (0, 0) from HD.out)
      clear HD hbn hbd
      go_enter Try.func81, Try.ntmps81
      go_wp2_with fail
      refine (HA'.out _).mono ?_; rintro e w' ⟨rfl, rfl⟩
      rw [← HW1.out]
      go_wp2_with fail
      refine (HB'.out _).mono ?_; rintro e w' ⟨rfl, rfl⟩
      (have zr := QBox.grows mr (w' := w1) (by ((repeat' (first | with_reducible exact Below.refl _ _ | with_reducible assumption | (with_reducible refine Below.setCell ?_ ?_ _) | (with_reducible refine Below.alloc ?_ ?_ _) | (with_reducible refine Below.drew ?_) | (with_reducible refine below_drewN ?_ _))); all_goals (first | omega | (simp; done) | (simp; omega) | (simp [*]; done) | (simp at *; omega)))); obtain ⟨zr0, zr1⟩ := zr.cells; have zrl := zr.lt; have zrf := zr.fz; go_wp2_with fail; refine bodyPost_ret (v := .agg #[.int .i64 0, .int .i64 0]) ?_ rfl ?_; (simp [results, Try.results81, go_sem, zr0, zr1, zrf, zrl]); exact ⟨by rw [HE.out], by (have bz0 := Below.size (g01); (try simp at bz0); (repeat' (first | with_reducible exact Below.refl _ _ | with_reducible assumption | (with_reducible refine Below.setCell ?_ ?_ _) | (with_reducible refine Below.alloc ?_ ?_ _) | (with_reducible refine Below.drew ?_) | (with_reducible refine below_drewN ?_ _) | (with_reducible refine Below.trans ?_ (Below.mono (g01) ?_)))); all_goals (first | omega | (simp; done) | (simp; omega) | (simp [*]; done) | (simp at *; omega)))⟩)
    · have HE := Lib.hid (show RES = mkQ n d from HD.out)
      obtain ⟨a1, a2⟩ := hbn rfl
      obtain ⟨c1, c2⟩ := hbd rfl
      clear HD hbn hbd
      have HL := Lib.hid fun W => l2Make_c n d W (by omega) (by omega) (by omega) (by omega)
      generalize mkQ n d = R at *
      go_enter Try.func81, Try.ntmps81
      go_wp2_with fail
      refine (HA'.out _).mono ?_; rintro e w' ⟨rfl, rfl⟩
      rw [← HW1.out]
      go_wp2_with fail
      refine (HB'.out _).mono ?_; rintro e w' ⟨rfl, rfl⟩
      go_wp2_with fail
      refine (HL.out _).mono ?_; rintro e w4 ⟨rfl, g4⟩
      (have zr := QBox.grows mr (w' := w4) (by (have bz0 := Below.size (g4); (try simp at bz0); (repeat' (first | with_reducible exact Below.refl _ _ | with_reducible assumption | (with_reducible refine Below.setCell ?_ ?_ _) | (with_reducible refine Below.alloc ?_ ?_ _) | (with_reducible refine Below.drew ?_) | (with_reducible refine below_drewN ?_ _) | (with_reducible refine Below.trans ?_ (Below.mono (g4) ?_)))); all_goals (first | omega | (simp; done) | (simp; omega) | (simp [*]; done) | (simp at *; omega)))); obtain ⟨zr0, zr1⟩ := zr.cells; have zrl := zr.lt; have zrf := zr.fz; go_wp2_with fail; refine bodyPost_ret (v := .agg #[.int .i64 R.1, .int .i64 R.2]) ?_ rfl ?_; (simp [results, Try.results81, go_sem, zr0, zr1, zrf, zrl]); exact ⟨by rw [HE.out], by (have bz0 := Below.size (g4); (try simp at bz0); have bz1 := Below.size (g01); (try simp at bz1); (repeat' (first | with_reducible exact Below.refl _ _ | with_reducible assumption | (with_reducible refine Below.setCell ?_ ?_ _) | (with_reducible refine Below.alloc ?_ ?_ _) | (with_reducible refine Below.drew ?_) | (with_reducible refine below_drewN ?_ _) | (with_reducible refine Below.trans ?_ (Below.mono (g4) ?_)) | (with_reducible refine Below.trans ?_ (Below.mono (g01) ?_)))); all_goals (first | omega | (simp; done) | (simp; omega) | (simp [*]; done) | (simp at *; omega)))⟩)
theorem sNeg_c (a : Q2) (w : World) : Calls Try.prog 134 #[.agg #[.int .i64 a.1, .int .i64 a.2]] w (QRet (negQ a) w) := by
  have HA := fun W => sIsRatio_c a.1 a.2 W
  obtain ⟨w1, hw1, ma, mr, g01⟩ := one_q w a
  have HW1 := Lib.hid hw1
  clear hw1
  obtain ⟨RES, hRES⟩ : ∃ x, x = negQ a := ⟨_, rfl⟩
  rw [← hRES]
  unfold negQ at hRES
  have hka := @okQ_bd a
  change ∀ W, Calls _ _ _ W (fun e w' => e = .returned (.bool (okQ a)) ∧ _) at HA
  generalize okQ a = oa at *
  have HA' := Lib.hid HA
  have HD := Lib.hid hRES
  clear HA hRES
  cases oa
  · have HE := Lib.hid (show RES = (0, 0) from HD.out)
    clear HD hka
    go_enter Try.func134, Try.ntmps134
    go_wp2_with fail
    refine (HA'.out _).mono ?_; rintro e w2 ⟨rfl, g2⟩
    rw [← HW1.out] at g2
    (have zr := QBox.grows mr (w' := w2) (by (have bz0 := Below.size (g2); (try simp at bz0); (repeat' (first | with_reducible exact Below.refl _ _ | with_reducible assumption | (with_reducible refine Below.setCell ?_ ?_ _) | (with_reducible refine Below.alloc ?_ ?_ _) | (with_reducible refine Below.drew ?_) | (with_reducible refine below_drewN ?_ _) | (with_reducible refine Below.trans ?_ (Below.mono (g2) ?_)))); all_goals (first | omega | (simp; done) | (simp; omega) | (simp [*]; done) | (simp at *; omega)))); obtain ⟨zr0, zr1⟩ := zr.cells; have zrl := zr.lt; have zrf := zr.fz; go_wp2_with fail; refine bodyPost_ret (v := .agg #[.int .i64 0, .int .i64 0]) ?_ rfl ?_; (simp [results, Try.results134, go_sem, zr0, zr1, zrf, zrl]); exact ⟨by rw [HE.out], by (have bz0 := Below.size (g2); (try simp at bz0); have bz1 := Below.size (g01); (try simp at bz1); (repeat' (first | with_reducible exact Below.refl _ _ | with_reducible assumption | (with_reducible refine Below.setCell ?_ ?_ _) | (with_reducible refine Below.alloc ?_ ?_ _) | (with_reducible refine Below.drew ?_) | (with_reducible refine below_drewN ?_ _) | (with_reducible refine Below.trans ?_ (Below.mono (g2) ?_)) | (with_reducible refine Below.trans ?_ (Below.mono (g01) ?_)))); all_goals (first | omega | (simp; done) | (simp; omega) | (simp [*]; done) | (simp at *; omega)))⟩)
  · have HE := Lib.hid (show RES = (-a.1, a.2) from HD.out)
    obtain ⟨a1, a2, a3, a4⟩ := hka rfl
    clear HD hka
    go_enter Try.func134, Try.ntmps134
    go_wp2_with fail
    refine (HA'.out _).mono ?_; rintro e w2 ⟨rfl, g2⟩
    rw [← HW1.out] at g2
    obtain ⟨b0, b1⟩ := (ma.grows g2).cells
    (have zr := QBox.grows mr (w' := w2) (by (have bz0 := Below.size (g2); (try simp at bz0); (repeat' (first | with_reducible exact Below.refl _ _ | with_reducible assumption | (with_reducible refine Below.setCell ?_ ?_ _) | (with_reducible refine Below.alloc ?_ ?_ _) | (with_reducible refine Below.drew ?_) | (with_reducible refine below_drewN ?_ _) | (with_reducible refine Below.trans ?_ (Below.mono (g2) ?_)))); all_goals (first | omega | (simp; done) | (simp; omega) | (simp [*]; done) | (simp at *; omega)))); obtain ⟨zr0, zr1⟩ := zr.cells; have zrl := zr.lt; have zrf := zr.fz; go_wp2_with fail; refine bodyPost_ret (v := .agg #[.int .i64 (-a.1), .int .i64 a.2]) ?_ rfl ?_; (simp [results, Try.results134, go_sem, zr0, zr1, zrf, zrl]); exact ⟨by rw [HE.out], by (have bz0 := Below.size (g2); (try simp at bz0); have bz1 := Below.size (g01); (try simp at bz1); (repeat' (first | with_reducible exact Below.refl _ _ | with_reducible assumption | (with_reducible refine Below.setCell ?_ ?_ _) | (with_reducible refine Below.alloc ?_ ?_ _) | (with_reducible refine Below.drew ?_) | (with_reducible refine below_drewN ?_ _) | (with_reducible refine Below.trans ?_ (Below.mono (g2) ?_)) | (with_reducible refine Below.trans ?_ (Below.mono (g01) ?_)))); all_goals (first | omega | (simp; done) | (simp; omega) | (simp [*]; done) | (simp at *; omega)))⟩)
theorem sCmp_c (a b : Q2) (w : World) : Calls Try.prog 147 #[.agg #[.int .i64 a.1, .int .i64 a.2], .agg #[.int .i64 b.1, .int .i64 b.2]] w fun e w' => e = .returned (.int .i64 (cmpQ a b)) ∧ Grows w w' := by
  have HA := fun W => sIsRatio_c a.1 a.2 W
  have HB := fun W => sIsRatio_c b.1 b.2 W
  obtain ⟨w1, hw1⟩ : ∃ w1, w1 = (w.alloc (.cells #[.int .i64 a.1, .int .i64 a.2] 47)).alloc (.cells #[.int .i64 b.1, .int .i64 b.2] 47) := ⟨_, rfl⟩
  have ma : QBox w1 w.heap.size a := by rw [hw1]; exact (QBox.new_ w a 47 rfl).grows ((Below.refl _ _).alloc (Nat.le_refl _) _)
  have mb : QBox w1 (w.heap.size + 1) b := by rw [hw1]; exact QBox.new_ _ b 47 (by simp)
  have g01 : Grows w w1 := by rw [hw1]; ((repeat' (first | with_reducible exact Below.refl _ _ | with_reducible assumption | (with_reducible refine Below.setCell ?_ ?_ _) | (with_reducible refine Below.alloc ?_ ?_ _) | (with_reducible refine Below.drew ?_) | (with_reducible refine below_drewN ?_ _))); all_goals (first | omega | (simp; done) | (simp; omega) | (simp [*]; done) | (simp at *; omega)))
  have HW1 := Lib.hid hw1
  clear hw1
  obtain ⟨RES, hRES⟩ : ∃ x, x = cmpQ a b := ⟨_, rfl⟩
  rw [← hRES]
  unfold cmpQ at hRES
  have hka := @okQ_bd a
  have hkb := @okQ_bd b
  change ∀ W, Calls _ _ _ W (fun e w' => e = .returned (.bool (okQ a)) ∧ _) at HA
  change ∀ W, Calls _ _ _ W (fun e w' => e = .returned (.bool (okQ b)) ∧ _) at HB
  generalize okQ a = oa at *
  generalize okQ b = ob at *
  have HA' := Lib.hid HA
  have HB' := Lib.hid HB
  have HD := Lib.hid hRES
  clear HA HB hRES
  cases oa
  · have HE := Lib.hid (show RES = 2 from HD.out)
    clear HD hka hkb
    go_enter Try.func147, Try.ntmps147
    go_wp2_with fail
    refine (HA'.out _).mono ?_; rintro e w2 ⟨rfl, g2⟩
    rw [← HW1.out] at g2
    go_wp2_with fail
    go_ret
    exact ⟨ret_int (by rw [HE.out]), by (have bz0 := Below.size (g2); (try simp at bz0); have bz1 := Below.size (g01); (try simp at bz1); (repeat' (first | with_reducible exact Below.refl _ _ | with_reducible assumption | (with_reducible refine Below.setCell ?_ ?_ _) | (with_reducible refine Below.alloc ?_ ?_ _) | (with_reducible refine Below.drew ?_) | (with_reducible refine below_drewN ?_ _) | (with_reducible refine Below.trans ?_ (Below.mono (g2) ?_)) | (with_reducible refine Below.trans ?_ (Below.mono (g01) ?_)))); all_goals (first | omega | (simp; done) | (simp; omega) | (simp [*]; done) | (simp at *; omega)))⟩
  · cases ob
    · have HE := Lib.hid (show RES = 2 from HD.out)
      clear HD hka hkb
      go_enter Try.func147, Try.ntmps147
      go_wp2_with fail
      refine (HA'.out _).mono ?_; rintro e w2 ⟨rfl, g2⟩
      rw [← HW1.out] at g2
      obtain ⟨b0, b1⟩ := (mb.grows g2).cells
      go_wp2_with fail
      refine (HB'.out _).mono ?_; rintro e w3 ⟨rfl, g3⟩
      go_wp2_with fail
      go_ret
      exact ⟨ret_int (by rw [HE.out]), by (have bz0 := Below.size (g3); (try simp at bz0); have bz1 := Below.size (g2); (try simp at bz1); have bz2 := Below.size (g01); (try simp at bz2); (repeat' (first | with_reducible exact Below.refl _ _ | with_reducible assumption | (with_reducible refine Below.setCell ?_ ?_ _) | (with_reducible refine Below.alloc ?_ ?_ _) | (with_reducible refine Below.drew ?_) | (with_reducible refine below_drewN ?_ _) | (with_reducible refine Below.trans ?_ (Below.mono (g3) ?_)) | (with_reducible refine Below.trans ?_ (Below.mono (g2) ?_)) | (with_reducible refine Below.trans ?_ (Below.mono (g01) ?_)))); all_goals (first | omega | (simp; done) | (simp; omega) | (simp [*]; done) | (simp at *; omega)))⟩
    · have hE : RES = if a.1 * b.2 < b.1 * a.2 then -1 else if b.1 * a.2 < a.1 * b.2 then 1 else 0 := HD.out
      obtain ⟨a1, a2, a3, a4⟩ := hka rfl
      obtain ⟨c1, c2, c3, c4⟩ := hkb rfl
      have m0 := mul_bd2 (x := a.1) (y := b.2) (by omega) (by omega) (by omega) (by omega)
      have m1 := mul_bd2 (x := b.1) (y := a.2) (by omega) (by omega) (by omega) (by omega)
      clear HD hka hkb
      obtain ⟨X, hX⟩ : ∃ X, X = a.1 * b.2 := ⟨_, rfl⟩
      obtain ⟨Y, hY⟩ : ∃ Y, Y = b.1 * a.2 := ⟨_, rfl⟩
      rw [← hX, ← hY] at hE
      have HE := Lib.hid hE
      have HX := Lib.hid hX
      have HY := Lib.hid hY
      clear hE
      rcases Int.lt_trichotomy X Y with h | h | h
      all_goals
        have HH := Lib.hid h
        have h1 : (a.1 * b.2 < b.1 * a.2) = (X < Y) := by rw [hX, hY]
        have h2 : (b.1 * a.2 < a.1 * b.2) = (Y < X) := by rw [hX, hY]
        try (have h3 : ¬ (b.1 * a.2 < a.1 * b.2) := by rw [h2]; omega)
        try (have h4 : ¬ (a.1 * b.2 < b.1 * a.2) := by rw [h1]; omega)
        try (have h5 : b.1 * a.2 < a.1 * b.2 := by rw [h2]; omega)
        try (have h6 : a.1 * b.2 < b.1 * a.2 := by rw [h1]; omega)
        clear h h1 h2 hX hY
        go_enter Try.func147, Try.ntmps147
        go_wp2_with fail
        refine (HA'.out _).mono ?_; rintro e w2 ⟨rfl, g2⟩
        rw [← HW1.out] at g2
        obtain ⟨b0, b1⟩ := (mb.grows g2).cells
        go_wp2_with fail
        refine (HB'.out _).mono ?_; rintro e w3 ⟨rfl, g3⟩
        clear b0 b1
        obtain ⟨b0, b1⟩ := (mb.grows (w' := w3) (by (have bz0 := Below.size (g3); (try simp at bz0); have bz1 := Below.size (g2); (try simp at bz1); (repeat' (first | with_reducible exact Below.refl _ _ | with_reducible assumption | (with_reducible refine Below.setCell ?_ ?_ _) | (with_reducible refine Below.alloc ?_ ?_ _) | (with_reducible refine Below.drew ?_) | (with_reducible refine below_drewN ?_ _) | (with_reducible refine Below.trans ?_ (Below.mono (g3) ?_)) | (with_reducible refine Below.trans ?_ (Below.mono (g2) ?_)))); all_goals (first | omega | (simp; done) | (simp; omega) | (simp [*]; done) | (simp at *; omega))))).cells
        obtain ⟨a0, a1'⟩ := (ma.grows (w' := w3) (by (have bz0 := Below.size (g3); (try simp at bz0); have bz1 := Below.size (g2); (try simp at bz1); (repeat' (first | with_reducible exact Below.refl _ _ | with_reducible assumption | (with_reducible refine Below.setCell ?_ ?_ _) | (with_reducible refine Below.alloc ?_ ?_ _) | (with_reducible refine Below.drew ?_) | (with_reducible refine below_drewN ?_ _) | (with_reducible refine Below.trans ?_ (Below.mono (g3) ?_)) | (with_reducible refine Below.trans ?_ (Below.mono (g2) ?_)))); all_goals (first | omega | (simp; done) | (simp; omega) | (simp [*]; done) | (simp at *; omega))))).cells
        go_wp2_with fail
        go_ret
        refine ⟨ret_int ?_, by (have bz0 := Below.size (g3); (try simp at bz0); have bz1 := Below.size (g2); (try simp at bz1); have bz2 := Below.size (g01); (try simp at bz2); (repeat' (first | with_reducible exact Below.refl _ _ | with_reducible assumption | (with_reducible refine Below.setCell ?_ ?_ _) | (with_reducible refine Below.alloc ?_ ?_ _) | (with_reducible refine Below.drew ?_) | (with_reducible refine below_drewN ?_ _) | (with_reducible refine Below.trans ?_ (Below.mono (g3) ?_)) | (with_reducible refine Below.trans ?_ (Below.mono (g2) ?_)) | (with_reducible refine Below.trans ?_ (Below.mono (g01) ?_)))); all_goals (first | omega | (simp; done) | (simp; omega) | (simp [*]; done) | (simp at *; omega)))⟩
        have := HH.out
        rw [HE.out]
        repeat' split
        all_goals omega
theorem whole_c (n : Int) (w : World) : Calls Try.prog 138 #[.int .i64 n] w (QRet (wholeQ n) w) := by
  go_enter Try.func138, Try.ntmps138
  go_wp2_with fail
  refine bodyPost_ret (v := .agg #[.int .i64 n, .int .i64 1]) ?_ rfl ?_
  · simp [results, Try.results138, go_sem]
  · exact ⟨rfl, by ((repeat' (first | with_reducible exact Below.refl _ _ | with_reducible assumption | (with_reducible refine Below.setCell ?_ ?_ _) | (with_reducible refine Below.alloc ?_ ?_ _) | (with_reducible refine Below.drew ?_) | (with_reducible refine below_drewN ?_ _))); all_goals (first | omega | (simp; done) | (simp; omega) | (simp [*]; done) | (simp at *; omega)))⟩
theorem sub_c (a b : Q2) (w : World) : Calls Try.prog 139 #[.agg #[.int .i64 a.1, .int .i64 a.2], .agg #[.int .i64 b.1, .int .i64 b.2]] w (QRet (subQ a b) w) := by
  have CN := Lib.hid fun W => iNeg_c b W
  have CA := Lib.hid fun W => iAddRatios_c a (negQ b) W
  obtain ⟨w1, hw1, ma, mb, mr, g01⟩ := two_q w a b
  have HW1 := Lib.hid hw1
  clear hw1
  unfold subQ
  generalize negQ b = nb at *
  generalize addQ a nb = R at *
  go_enter Try.func139, Try.ntmps139
  go_wp2_with fail
  rw [← HW1.out]
  obtain ⟨a0, a1⟩ := ma.cells
  obtain ⟨b0, b1⟩ := mb.cells
  have x0 := ext_is a0; have x1 := ext_is a1; have y0 := ext_is b0; have y1 := ext_is b1
  clear a0 a1 b0 b1
  ((refine wp_region_tail 4 (by kernel_rfl) (by kernel_rfl) ?_; simp only [List.take_succ_cons, List.take_zero, List.drop_succ_cons, List.drop_zero]); (repeat (go_big_quiet_step ((first | (go_at_call 156; with_reducible exact extC (CN.out _)) | (go_at_call 155; with_reducible exact extC (CA.out _)))))); refine wpQuiet_nil ?_; rintro w2 ⟨w20, hw20⟩; have g2 := grows_of_ext hw20; clear hw20 w20)
  (have zr := QBox.grows mr (w' := w2) (by (have bz0 := Below.size (g2); (try simp at bz0); (repeat' (first | with_reducible exact Below.refl _ _ | with_reducible assumption | (with_reducible refine Below.setCell ?_ ?_ _) | (with_reducible refine Below.alloc ?_ ?_ _) | (with_reducible refine Below.drew ?_) | (with_reducible refine below_drewN ?_ _) | (with_reducible refine Below.trans ?_ (Below.mono (g2) ?_)))); all_goals (first | omega | (simp; done) | (simp; omega) | (simp [*]; done) | (simp at *; omega)))); obtain ⟨zr0, zr1⟩ := zr.cells; have zrl := zr.lt; have zrf := zr.fz; go_wp2_with fail; refine bodyPost_ret (v := .agg #[.int .i64 R.1, .int .i64 R.2]) ?_ rfl ?_; (simp [results, Try.results139, go_sem, zr0, zr1, zrf, zrl]); exact ⟨rfl, by (have bz0 := Below.size (g2); (try simp at bz0); have bz1 := Below.size (g01); (try simp at bz1); (repeat' (first | with_reducible exact Below.refl _ _ | with_reducible assumption | (with_reducible refine Below.setCell ?_ ?_ _) | (with_reducible refine Below.alloc ?_ ?_ _) | (with_reducible refine Below.drew ?_) | (with_reducible refine below_drewN ?_ _) | (with_reducible refine Below.trans ?_ (Below.mono (g2) ?_)) | (with_reducible refine Below.trans ?_ (Below.mono (g01) ?_)))); all_goals (first | omega | (simp; done) | (simp; omega) | (simp [*]; done) | (simp at *; omega)))⟩)
end
end Go.Proofs.Ytpfijhcjempfjaa
