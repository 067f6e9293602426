/- Contracts: operations on fractions. -/
import Derived.Test.YtpfijhcjempfjaaRatE
namespace Go.Proofs.Ytpfijhcjempfjaa
open Go.RowKit

theorem mul_bd2 {x y : Int} (hx1 : -400000000 ≤ x) (hx2 : x ≤ 400000000) (hy1 : -400000000 ≤ y) (hy2 : y ≤ 400000000) : -160000000000000000 ≤ x * y ∧ x * y ≤ 160000000000000000 :=
  mul_bd ((isNum_iff x).2 ⟨hx1, hx2⟩) ((isNum_iff y).2 ⟨hy1, hy2⟩)
theorem two_q (w : World) (a b : Q2) : ∃ w1, w1 = ((w.alloc (.cells #[.int .i64 a.1, .int .i64 a.2] 47)).alloc (.cells #[.int .i64 b.1, .int .i64 b.2] 47)).alloc (.cells #[.int .i64 0, .int .i64 0] 47) ∧
    QBox w1 w.heap.size a ∧ QBox w1 (w.heap.size + 1) b ∧ QBox w1 (w.heap.size + 1 + 1) (0, 0) ∧ Grows w w1 :=
  ⟨_, rfl, ((QBox.new_ w a 47 rfl).grows ((Below.refl _ _).alloc (Nat.le_refl _) _)).grows ((Below.refl _ _).alloc (Nat.le_refl _) _), (QBox.new_ _ b 47 (by simp)).grows ((Below.refl _ _).alloc (Nat.le_refl _) _), QBox.new_ _ (0, 0) 47 (by simp), by ((repeat' (first | with_reducible exact Below.refl _ _ | with_reducible assumption | (with_reducible refine Below.setCell ?_ ?_ _) | (with_reducible refine Below.alloc ?_ ?_ _) | (with_reducible refine Below.drew ?_) | (with_reducible refine below_drewN ?_ _))); all_goals (first | omega | (simp; done) | (simp; omega) | (simp [*]; done) | (simp at *; omega)))⟩
theorem one_q (w : World) (a : Q2) : ∃ w1, w1 = (w.alloc (.cells #[.int .i64 a.1, .int .i64 a.2] 47)).alloc (.cells #[.int .i64 0, .int .i64 0] 47) ∧
    QBox w1 w.heap.size a ∧ QBox w1 (w.heap.size + 1) (0, 0) ∧ Grows w w1 :=
  ⟨_, rfl, (QBox.new_ w a 47 rfl).grows ((Below.refl _ _).alloc (Nat.le_refl _) _), QBox.new_ _ (0, 0) 47 (by simp), by ((repeat' (first | with_reducible exact Below.refl _ _ | with_reducible assumption | (with_reducible refine Below.setCell ?_ ?_ _) | (with_reducible refine Below.alloc ?_ ?_ _) | (with_reducible refine Below.drew ?_) | (with_reducible refine below_drewN ?_ _))); all_goals (first | omega | (simp; done) | (simp; omega) | (simp [*]; done) | (simp at *; omega)))⟩

section
set_option maxHeartbeats 1000000
theorem iAddRatios_c (a b : Q2) (w : World) : Calls Try.prog 155 #[.agg #[.int .i64 a.1, .int .i64 a.2], .agg #[.int .i64 b.1, .int .i64 b.2]] w (QRet (addQ a b) w) := by
  have HA := fun W => iIsRatio_c a.1 a.2 W
  have HB := fun W => iIsRatio_c b.1 b.2 W
  obtain ⟨w1, hw1, ma, mb, mr, g01⟩ := two_q w a b
  have HW1 := Lib.hid hw1
  clear hw1
  obtain ⟨RES, hRES⟩ : ∃ x, x = addQ a b := ⟨_, rfl⟩
  rw [← hRES]
  unfold addQ at hRES
  have hka := @okQ_bd a
  have hkb := @okQ_bd b
  change ∀ W, Calls _ _ _ W (fun e w' => e = .returned (.bool (okQ a)) ∧ _) at HA
  change ∀ W, Calls _ _ _ W (fun e w' => e = .returned (.bool (okQ b)) ∧ _) at HB
  generalize okQ a = oa at *
  generalize okQ b = ob at *
  have HA' := Lib.hid HA
  have HB' := Lib.hid HB
  have HD := Lib.hid hRES
  clear HA HB hRES
  cases oa
  · have HE := Lib.hid (show RES = (0, 0) from HD.out)
    clear HD hka hkb
    go_enter Try.func155, Try.ntmps155
    go_wp2_with fail
    refine (HA'.out _).mono ?_; rintro e w2 ⟨rfl, g2⟩
    rw [← HW1.out] at g2
    (have zr := QBox.grows mr (w' := w2) (by (have bz0 := Below.size (g2); (try simp at bz0); (repeat' (first | with_reducible exact Below.refl _ _ | with_reducible assumption | (with_reducible refine Below.setCell ?_ ?_ _) | (with_reducible refine Below.alloc ?_ ?_ _) | (with_reducible refine Below.drew ?_) | (with_reducible refine below_drewN ?_ _) | (with_reducible refine Below.trans ?_ (Below.mono (g2) ?_)))); all_goals (first | omega | (simp; done) | (simp; omega) | (simp [*]; done) | (simp at *; omega)))); obtain ⟨zr0, zr1⟩ := zr.cells; have zrl := zr.lt; have zrf := zr.fz; go_wp2_with fail; refine bodyPost_ret (v := .agg #[.int .i64 0, .int .i64 0]) ?_ rfl ?_; (simp [results, Try.results155, go_sem, zr0, zr1, zrf, zrl]); exact ⟨by rw [HE.out], by (have bz0 := Below.size (g2); (try simp at bz0); have bz1 := Below.size (g01); (try simp at bz1); (repeat' (first | with_reducible exact Below.refl _ _ | with_reducible assumption | (with_reducible refine Below.setCell ?_ ?_ _) | (with_reducible refine Below.alloc ?_ ?_ _) | (with_reducible refine Below.drew ?_) | (with_reducible refine below_drewN ?_ _) | (with_reducible refine Below.trans ?_ (Below.mono (g2) ?_)) | (with_reducible refine Below.trans ?_ (Below.mono (g01) ?_)))); all_goals (first | omega | (simp; done) | (simp; omega) | (simp [*]; done) | (simp at *; omega)))⟩)
  · cases ob
    · have HE := Lib.hid (show RES = (0, 0) from HD.out)
      clear HD hka hkb
      go_enter Try.func155, Try.ntmps155
      go_wp2_with fail
      refine (HA'.out _).mono ?_; rintro e w2 ⟨rfl, g2⟩
      rw [← HW1.out] at g2
      obtain ⟨b0, b1⟩ := (mb.grows g2).cells
      go_wp2_with fail
      refine (HB'.out _).mono ?_; rintro e w3 ⟨rfl, g3⟩
      (have zr := QBox.grows mr (w' := w3) (by (have bz0 := Below.size (g3); (try simp at bz0); have bz1 := Below.size (g2); (try simp at bz1); (repeat' (first | with_reducible exact Below.refl _ _ | with_reducible assumption | (with_reducible refine Below.setCell ?_ ?_ _) | (with_reducible refine Below.alloc ?_ ?_ _) | (with_reducible refine Below.drew ?_) | (with_reducible refine below_drewN ?_ _) | (with_reducible refine Below.trans ?_ (Below.mono (g3) ?_)) | (with_reducible refine Below.trans ?_ (Below.mono (g2) ?_)))); all_goals (first | omega | (simp; done) | (simp; omega) | (simp [*]; done) | (simp at *; omega)))); obtain ⟨zr0, zr1⟩ := zr.cells; have zrl := zr.lt; have zrf := zr.fz; go_wp2_with fail; refine bodyPost_ret (v := .agg #[.int .i64 0, .int .i64 0]) ?_ rfl ?_; (simp [results, Try.results155, go_sem, zr0, zr1, zrf, zrl]); exact ⟨by rw [HE.out], by (have bz0 := Below.size (g3); (try simp at bz0); have bz1 := Below.size (g2); (try simp at bz1); have bz2 := Below.size (g01); (try simp at bz2); (repeat' (first | with_reducible exact Below.refl _ _ | with_reducible assumption | (with_reducible refine Below.setCell ?_ ?_ _) | (with_reducible refine Below.alloc ?_ ?_ _) | (with_reducible refine Below.drew ?_) | (with_reducible refine below_drewN ?_ _) | (with_reducible refine Below.trans ?_ (Below.mono (g3) ?_)) | (with_reducible refine Below.trans ?_ (Below.mono (g2) ?_)) | (with_reducible refine Below.trans ?_ (Below.mono (g01) ?_)))); all_goals (first | omega | (simp; done) | (simp; omega) | (simp [*]; done) | (simp at *; omega)))⟩)
    · have HE := Lib.hid (show RES = mkQ (a.1 * b.2 + b.1 * a.2) (a.2 * b.2) from HD.out)
      obtain ⟨a1, a2, a3, a4⟩ := hka rfl
      obtain ⟨c1, c2, c3, c4⟩ := hkb rfl
      have m0 := mul_bd2 (x := a.1) (y := b.2) (by omega) (by omega) (by omega) (by omega)
      have m1 := mul_bd2 (x := b.1) (y := a.2) (by omega) (by omega) (by omega) (by omega)
      have m2 := mul_bd2 (x := a.1) (y := b.1) (by omega) (by omega) (by omega) (by omega)
      have m3 := mul_bd2 (x := a.2) (y := b.2) (by omega) (by omega) (by omega) (by omega)
      have m4 := mul_bd2 (x := a.2) (y := b.1) (by omega) (by omega) (by omega) (by omega)
      have hne : a.2 * b.2 ≠ 0 := Int.mul_ne_zero (by omega) (by omega)
      have HL := Lib.hid fun W => lowest_c (a.1 * b.2 + b.1 * a.2) (a.2 * b.2) W hne (by omega) (by omega) (by omega) (by omega)
      clear hne
      clear HD hka hkb
      generalize mkQ (a.1 * b.2 + b.1 * a.2) (a.2 * b.2) = R at *
      go_enter Try.func155, Try.ntmps155
      go_wp2_with fail
      refine (HA'.out _).mono ?_; rintro e w2 ⟨rfl, g2⟩
      rw [← HW1.out] at g2
      obtain ⟨b0, b1⟩ := (mb.grows g2).cells
      go_wp2_with fail
      refine (HB'.out _).mono ?_; rintro e w3 ⟨rfl, g3⟩
      clear b0 b1
      obtain ⟨b0, b1⟩ := (mb.grows (w' := w3) (by (have bz0 := Below.size (g3); (try simp at bz0); have bz1 := Below.size (g2); (try simp at bz1); (repeat' (first | with_reducible exact Below.refl _ _ | with_reducible assumption | (with_reducible refine Below.setCell ?_ ?_ _) | (with_reducible refine Below.alloc ?_ ?_ _) | (with_reducible refine Below.drew ?_) | (with_reducible refine below_drewN ?_ _) | (with_reducible refine Below.trans ?_ (Below.mono (g3) ?_)) | (with_reducible refine Below.trans ?_ (Below.mono (g2) ?_)))); all_goals (first | omega | (simp; done) | (simp; omega) | (simp [*]; done) | (simp at *; omega))))).cells
      obtain ⟨a0, a1'⟩ := (ma.grows (w' := w3) (by (have bz0 := Below.size (g3); (try simp at bz0); have bz1 := Below.size (g2); (try simp at bz1); (repeat' (first | with_reducible exact Below.refl _ _ | with_reducible assumption | (with_reducible refine Below.setCell ?_ ?_ _) | (with_reducible refine Below.alloc ?_ ?_ _) | (with_reducible refine Below.drew ?_) | (with_reducible refine below_drewN ?_ _) | (with_reducible refine Below.trans ?_ (Below.mono (g3) ?_)) | (with_reducible refine Below.trans ?_ (Below.mono (g2) ?_)))); all_goals (first | omega | (simp; done) | (simp; omega) | (simp [*]; done) | (simp at *; omega))))).cells
      go_wp2_with fail
      refine (HL.out _).mono ?_; rintro e w4 ⟨rfl, g4⟩
      (have zr := QBox.grows mr (w' := w4) (by (have bz0 := Below.size (g4); (try simp at bz0); have bz1 := Below.size (g3); (try simp at bz1); have bz2 := Below.size (g2); (try simp at bz2); (repeat' (first | with_reducible exact Below.refl _ _ | with_reducible assumption | (with_reducible refine Below.setCell ?_ ?_ _) | (with_reducible refine Below.alloc ?_ ?_ _) | (with_reducible refine Below.drew ?_) | (with_reducible refine below_drewN ?_ _) | (with_reducible refine Below.trans ?_ (Below.mono (g4) ?_)) | (with_reducible refine Below.trans ?_ (Below.mono (g3) ?_)) | (with_reducible refine Below.trans ?_ (Below.mono (g2) ?_)))); all_goals (first | omega | (simp; done) | (simp; omega) | (simp [*]; done) | (simp at *; omega)))); obtain ⟨zr0, zr1⟩ := zr.cells; have zrl := zr.lt; have zrf := zr.fz; go_wp2_with fail; refine bodyPost_ret (v := .agg #[.int .i64 R.1, .int .i64 R.2]) ?_ rfl ?_; (simp [results, Try.results155, go_sem, zr0, zr1, zrf, zrl]); exact ⟨by rw [HE.out], by (have bz0 := Below.size (g4); (try simp at bz0); have bz1 := Below.size (g3); (try simp at bz1); have bz2 := Below.size (g2); (try simp at bz2); have bz3 := Below.size (g01); (try simp at bz3); (repeat' (first | with_reducible exact Below.refl _ _ | with_reducible assumption | (with_reducible refine Below.setCell ?_ ?_ _) | (with_reducible refine Below.alloc ?_ ?_ _) | (with_reducible refine Below.drew ?_) | (with_reducible refine below_drewN ?_ _) | (with_reducible refine Below.trans ?_ (Below.mono (g4) ?_)) | (with_reducible refine Below.trans ?_ (Below.mono (g3) ?_)) | (with_reducible refine Below.trans ?_ (Below.mono (g2) ?_)) | (with_reducible refine Below.trans ?_ (Below.mono (g01) ?_)))); all_goals (first | omega | (simp; done) | (simp; omega) | (simp [*]; done) | (simp at *; omega)))⟩)
theorem iMultiplyRatios_c (a b : Q2) (w : World) : Calls Try.prog 140 #[.agg #[.int .i64 a.1, .int .i64 a.2], .agg #[.int .i64 b.1, .int .i64 b.2]] w (QRet (mulQ a b) w) := by
  have HA := fun W => iIsRatio_c a.1 a.2 W
  have HB := fun W => iIsRatio_c b.1 b.2 W
  obtain ⟨w1, hw1, ma, mb, mr, g01⟩ := two_q w a b
  have HW1 := Lib.hid hw1
  clear hw1
  obtain ⟨RES, hRES⟩ : ∃ x, x = mulQ a b := ⟨_, rfl⟩
  rw [← hRES]
  unfold mulQ at hRES
  have hka := @okQ_bd a
  have hkb := @okQ_bd b
  change ∀ W, Calls _ _ _ W (fun e w' => e = .returned (.bool (okQ a)) ∧ _) at HA
  change ∀ W, Calls _ _ _ W (fun e w' => e = .returned (.bool (okQ b)) ∧ _) at HB
  generalize okQ a = oa at *
  generalize okQ b = ob at *
  have HA' := Lib.hid HA
  have HB' := Lib.hid HB
  have HD := Lib.hid hRES
  clear HA HB hRES
  cases oa
  · have HE := Lib.hid (show RES = (0, 0) from HD.out)
    clear HD hka hkb
    go_enter Try.func140, Try.ntmps140
    go_wp2_with fail
    refine (HA'.out _).mono ?_; rintro e w2 ⟨rfl, g2⟩
    rw [← HW1.out] at g2
    (have zr := QBox.grows mr (w' := w2) (by (have bz0 := Below.size (g2); (try simp at bz0); (repeat' (first | with_reducible exact Below.refl _ _ | with_reducible assumption | (with_reducible refine Below.setCell ?_ ?_ _) | (with_reducible refine Below.alloc ?_ ?_ _) | (with_reducible refine Below.drew ?_) | (with_reducible refine below_drewN ?_ _) | (with_reducible refine Below.trans ?_ (Below.mono (g2) ?_)))); all_goals (first | omega | (simp; done) | (simp; omega) | (simp [*]; done) | (simp at *; omega)))); obtain ⟨zr0, zr1⟩ := zr.cells; have zrl := zr.lt; have zrf := zr.fz; go_wp2_with fail; refine bodyPost_ret (v := .agg #[.int .i64 0, .int .i64 0]) ?_ rfl ?_; (simp [results, Try.results140, go_sem, zr0, zr1, zrf, zrl]); exact ⟨by rw [HE.out], by (have bz0 := Below.size (g2); (try simp at bz0); have bz1 := Below.size (g01); (try simp at bz1); (repeat' (first | with_reducible exact Below.refl _ _ | with_reducible assumption | (with_reducible refine Below.setCell ?_ ?_ _) | (with_reducible refine Below.alloc ?_ ?_ _) | (with_reducible refine Below.drew ?_) | (with_reducible refine below_drewN ?_ _) | (with_reducible refine Below.trans ?_ (Below.mono (g2) ?_)) | (with_reducible refine Below.trans ?_ (Below.mono (g01) ?_)))); all_goals (first | omega | (simp; done) | (simp; omega) | (simp [*]; done) | (simp at *; omega)))⟩)
  · cases ob
    · have HE := Lib.hid (show RES = (0, 0) from HD.out)
      clear HD hka hkb
      go_enter Try.func140, Try.ntmps140
      go_wp2_with fail
      refine (HA'.out _).mono ?_; rintro e w2 ⟨rfl, g2⟩
      rw [← HW1.out] at g2
      obtain ⟨b0, b1⟩ := (mb.grows g2).cells
      go_wp2_with fail
      refine (HB'.out _).mono ?_; rintro e w3 ⟨rfl, g3⟩
      (have zr := QBox.grows mr (w' := w3) (by (have bz0 := Below.size (g3); (try simp at bz0); have bz1 := Below.size (g2); (try simp at bz1); (repeat' (first | with_reducible exact Below.refl _ _ | with_reducible assumption | (with_reducible refine Below.setCell ?_ ?_ _) | (with_reducible refine Below.alloc ?_ ?_ _) | (with_reducible refine Below.drew ?_) | (with_reducible refine below_drewN ?_ _) | (with_reducible refine Below.trans ?_ (Below.mono (g3) ?_)) | (with_reducible refine Below.trans ?_ (Below.mono (g2) ?_)))); all_goals (first | omega | (simp; done) | (simp; omega) | (simp [*]; done) | (simp at *; omega)))); obtain ⟨zr0, zr1⟩ := zr.cells; have zrl := zr.lt; have zrf := zr.fz; go_wp2_with fail; refine bodyPost_ret (v := .agg #[.int .i64 0, .int .i64 0]) ?_ rfl ?_; (simp [results, Try.results140, go_sem, zr0, zr1, zrf, zrl]); exact ⟨by rw [HE.out], by (have bz0 := Below.size (g3); (try simp at bz0); have bz1 := Below.size (g2); (try simp at bz1); have bz2 := Below.size (g01); (try simp at bz2); (repeat' (first | with_reducible exact Below.refl _ _ | with_reducible assumption | (with_reducible refine Below.setCell ?_ ?_ _) | (with_reducible refine Below.alloc ?_ ?_ _) | (with_reducible refine Below.drew ?_) | (with_reducible refine below_drewN ?_ _) | (with_reducible refine Below.trans ?_ (Below.mono (g3) ?_)) | (with_reducible refine Below.trans ?_ (Below.mono (g2) ?_)) | (with_reducible refine Below.trans ?_ (Below.mono (g01) ?_)))); all_goals (first | omega | (simp; done) | (simp; omega) | (simp [*]; done) | (simp at *; omega)))⟩)
    · have HE := Lib.hid (show RES = mkQ (a.1 * b.1) (a.2 * b.2) from HD.out)
      obtain ⟨a1, a2, a3, a4⟩ := hka rfl
      obtain ⟨c1, c2, c3, c4⟩ := hkb rfl
      have m0 := mul_bd2 (x := a.1) (y := b.2) (by omega) (by omega) (by omega) (by omega)
      have m1 := mul_bd2 (x := b.1) (y := a.2) (by omega) (by omega) (by omega) (by omega)
      have m2 := mul_bd2 (x := a.1) (y := b.1) (by omega) (by omega) (by omega) (by omega)
      have m3 := mul_bd2 (x := a.2) (y := b.2) (by omega) (by omega) (by omega) (by omega)
      have m4 := mul_bd2 (x := a.2) (y := b.1) (by omega) (by omega) (by omega) (by omega)
      have hne : a.2 * b.2 ≠ 0 := Int.mul_ne_zero (by omega) (by omega)
      have HL := Lib.hid fun W => lowest_c (a.1 * b.1) (a.2 * b.2) W hne (by omega) (by omega) (by omega) (by omega)
      clear hne
      clear HD hka hkb
      generalize mkQ (a.1 * b.1) (a.2 * b.2) = R at *
      go_enter Try.func140, Try.ntmps140
      go_wp2_with fail
      refine (HA'.out _).mono ?_; rintro e w2 ⟨rfl, g2⟩
      rw [← HW1.out] at g2
      obtain ⟨b0, b1⟩ := (mb.grows g2).cells
      go_wp2_with fail
      refine (HB'.out _).mono ?_; rintro e w3 ⟨rfl, g3⟩
      clear b0 b1
      obtain ⟨b0, b1⟩ := (mb.grows (w' := w3) (by (have bz0 := Below.size (g3); (try simp at bz0); have bz1 := Below.size (g2); (try simp at bz1); (repeat' (first | with_reducible exact Below.refl _ _ | with_reducible assumption | (with_reducible refine Below.setCell ?_ ?_ _) | (with_reducible refine Below.alloc ?_ ?_ _) | (with_reducible refine Below.drew ?_) | (with_reducible refine below_drewN ?_ _) | (with_reducible refine Below.trans ?_ (Below.mono (g3) ?_)) | (with_reducible refine Below.trans ?_ (Below.mono (g2) ?_)))); all_goals (first | omega | (simp; done) | (simp; omega) | (simp [*]; done) | (simp at *; omega))))).cells
      obtain ⟨a0, a1'⟩ := (ma.grows (w' := w3) (by (have bz0 := Below.size (g3); (try simp at bz0); have bz1 := Below.size (g2); (try simp at bz1); (repeat' (first | with_reducible exact Below.refl _ _ | with_reducible assumption | (with_reducible refine Below.setCell ?_ ?_ _) | (with_reducible refine Below.alloc ?_ ?_ _) | (with_reducible refine Below.drew ?_) | (with_reducible refine below_drewN ?_ _) | (with_reducible refine Below.trans ?_ (Below.mono (g3) ?_)) | (with_reducible refine Below.trans ?_ (Below.mono (g2) ?_)))); all_goals (first | omega | (simp; done) | (simp; omega) | (simp [*]; done) | (simp at *; omega))))).cells
      go_wp2_with fail
      refine (HL.out _).mono ?_; rintro e w4 ⟨rfl, g4⟩
      (have zr := QBox.grows mr (w' := w4) (by (have bz0 := Below.size (g4); (try simp at bz0); have bz1 := Below.size (g3); (try simp at bz1); have bz2 := Below.size (g2); (try simp at bz2); (repeat' (first | with_reducible exact Below.refl _ _ | with_reducible assumption | (with_reducible refine Below.setCell ?_ ?_ _) | (with_reducible refine Below.alloc ?_ ?_ _) | (with_reducible refine Below.drew ?_) | (with_reducible refine below_drewN ?_ _) | (with_reducible refine Below.trans ?_ (Below.mono (g4) ?_)) | (with_reducible refine Below.trans ?_ (Below.mono (g3) ?_)) | (with_reducible refine Below.trans ?_ (Below.mono (g2) ?_)))); all_goals (first | omega | (simp; done) | (simp; omega) | (simp [*]; done) | (simp at *; omega)))); obtain ⟨zr0, zr1⟩ := zr.cells; have zrl := zr.lt; have zrf := zr.fz; go_wp2_with fail; refine bodyPost_ret (v := .agg #[.int .i64 R.1, .int .i64 R.2]) ?_ rfl ?_; (simp [results, Try.results140, go_sem, zr0, zr1, zrf, zrl]); exact ⟨by rw [HE.out], by (have bz0 := Below.size (g4); (try simp at bz0); have bz1 := Below.size (g3); (try simp at bz1); have bz2 := Below.size (g2); (try simp at bz2); have bz3 := Below.size (g01); (try simp at bz3); (repeat' (first | with_reducible exact Below.refl _ _ | with_reducible assumption | (with_reducible refine Below.setCell ?_ ?_ _) | (with_reducible refine Below.alloc ?_ ?_ _) | (with_reducible refine Below.drew ?_) | (with_reducible refine below_drewN ?_ _) | (with_reducible refine Below.trans ?_ (Below.mono (g4) ?_)) | (with_reducible refine Below.trans ?_ (Below.mono (g3) ?_)) | (with_reducible refine Below.trans ?_ (Below.mono (g2) ?_)) | (with_reducible refine Below.trans ?_ (Below.mono (g01) ?_)))); all_goals (first | omega | (simp; done) | (simp; omega) | (simp [*]; done) | (simp at *; omega)))⟩)
theorem iDivideRatios_c (a b : Q2) (w : World) : Calls Try.prog 141 #[.agg #[.int .i64 a.1, .int .i64 a.2], .agg #[.int .i64 b.1, .int .i64 b.2]] w (QRet (divQ a b) w) := by
  have HA := fun W => iIsRatio_c a.1 a.2 W
  have HB := fun W => iIsRatio_c b.1 b.2 W
  obtain ⟨w1, hw1, ma, mb, mr, g01⟩ := two_q w a b
  have HW1 := Lib.hid hw1
  clear hw1
  obtain ⟨RES, hRES⟩ : ∃ x, x = divQ a b := ⟨_, rfl⟩
  rw [← hRES]
  unfold divQ at hRES
  have hka := @okQ_bd a
  have hkb := @okQ_bd b
  change ∀ W, Calls _ _ _ W (fun e w' => e = .returned (.bool (okQ a)) ∧ _) at HA
  change ∀ W, Calls _ _ _ W (fun e w' => e = .returned (.bool (okQ b)) ∧ _) at HB
  generalize okQ a = oa at *
  generalize okQ b = ob at *
  have HA' := Lib.hid HA
  have HB' := Lib.hid HB
  have HD := Lib.hid hRES
  clear HA HB hRES
  cases oa
  · have HE := Lib.hid (show RES = (0, 0) from HD.out)
    clear HD hka hkb
    go_enter Try.func141, Try.ntmps141
    go_wp2_with fail
    refine (HA'.out _).mono ?_; rintro e w2 ⟨rfl, g2⟩
    rw [← HW1.out] at g2
    (have zr := QBox.grows mr (w' := w2) (by (have bz0 := Below.size (g2); (try simp at bz0); (repeat' (first | with_reducible exact Below.refl _ _ | with_reducible assumption | (with_reducible refine Below.setCell ?_ ?_ _) | (with_reducible refine Below.alloc ?_ ?_ _) | (with_reducible refine Below.drew ?_) | (with_reducible refine below_drewN ?_ _) | (with_reducible refine Below.trans ?_ (Below.mono (g2) ?_)))); all_goals (first | omega | (simp; done) | (simp; omega) | (simp [*]; done) | (simp at *; omega)))); obtain ⟨zr0, zr1⟩ := zr.cells; have zrl := zr.lt; have zrf := zr.fz; go_wp2_with fail; refine bodyPost_ret (v := .agg #[.int .i64 0, .int .i64 0]) ?_ rfl ?_; (simp [results, Try.results141, go_sem, zr0, zr1, zrf, zrl]); exact ⟨by rw [HE.out], by (have bz0 := Below.size (g2); (try simp at bz0); have bz1 := Below.size (g01); (try simp at bz1); (repeat' (first | with_reducible exact Below.refl _ _ | with_reducible assumption | (with_reducible refine Below.setCell ?_ ?_ _) | (with_reducible refine Below.alloc ?_ ?_ _) | (with_reducible refine Below.drew ?_) | (with_reducible refine below_drewN ?_ _) | (with_reducible refine Below.trans ?_ (Below.mono (g2) ?_)) | (with_reducible refine Below.trans ?_ (Below.mono (g01) ?_)))); all_goals (first | omega | (simp; done) | (simp; omega) | (simp [*]; done) | (simp at *; omega)))⟩)
  · cases ob
    · have HE := Lib.hid (show RES = (0, 0) from HD.out)
      clear HD hka hkb
      go_enter Try.func141, Try.ntmps141
      go_wp2_with fail
      refine (HA'.out _).mono ?_; rintro e w2 ⟨rfl, g2⟩
      rw [← HW1.out] at g2
      obtain ⟨b0, b1⟩ := (mb.grows g2).cells
      go_wp2_with fail
      refine (HB'.out _).mono ?_; rintro e w3 ⟨rfl, g3⟩
      (have zr := QBox.grows mr (w' := w3) (by (have bz0 := Below.size (g3); (try simp at bz0); have bz1 := Below.size (g2); (try simp at bz1); (repeat' (first | with_reducible exact Below.refl _ _ | with_reducible assumption | (with_reducible refine Below.setCell ?_ ?_ _) | (with_reducible refine Below.alloc ?_ ?_ _) | (with_reducible refine Below.drew ?_) | (with_reducible refine below_drewN ?_ _) | (with_reducible refine Below.trans ?_ (Below.mono (g3) ?_)) | (with_reducible refine Below.trans ?_ (Below.mono (g2) ?_)))); all_goals (first | omega | (simp; done) | (simp; omega) | (simp [*]; done) | (simp at *; omega)))); obtain ⟨zr0, zr1⟩ := zr.cells; have zrl := zr.lt; have zrf := zr.fz; go_wp2_with fail; refine bodyPost_ret (v := .agg #[.int .i64 0, .int .i64 0]) ?_ rfl ?_; (simp [results, Try.results141, go_sem, zr0, zr1, zrf, zrl]); exact ⟨by rw [HE.out], by (have bz0 := Below.size (g3); (try simp at bz0); have bz1 := Below.size (g2); (try simp at bz1); have bz2 := Below.size (g01); (try simp at bz2); (repeat' (first | with_reducible exact Below.refl _ _ | with_reducible assumption | (with_reducible refine Below.setCell ?_ ?_ _) | (with_reducible refine Below.alloc ?_ ?_ _) | (with_reducible refine Below.drew ?_) | (with_reducible refine below_drewN ?_ _) | (with_reducible refine Below.trans ?_ (Below.mono (g3) ?_)) | (with_reducible refine Below.trans ?_ (Below.mono (g2) ?_)) | (with_reducible refine Below.trans ?_ (Below.mono (g01) ?_)))); all_goals (first | omega | (simp; done) | (simp; omega) | (simp [*]; done) | (simp at *; omega)))⟩)
    · by_cases hz : b.1 = 0
      · have HE := Lib.hid (show RES = (0, 0) by have := HD.out; rw [hz] at this; exact this)
        have hz2 : (b.1 == 0) = true := by simpa using hz
        clear HD hka hkb hz
        go_enter Try.func141, Try.ntmps141
        go_wp2_with fail
        refine (HA'.out _).mono ?_; rintro e w2 ⟨rfl, g2⟩
        rw [← HW1.out] at g2
        obtain ⟨b0, b1⟩ := (mb.grows g2).cells
        go_wp2_with fail
        refine (HB'.out _).mono ?_; rintro e w3 ⟨rfl, g3⟩
        clear b0 b1
        obtain ⟨b0, b1⟩ := (mb.grows (w' := w3) (by (have bz0 := Below.size (g3); (try simp at bz0); have bz1 := Below.size (g2); (try simp at bz1); (repeat' (first | with_reducible exact Below.refl _ _ | with_reducible assumption | (with_reducible refine Below.setCell ?_ ?_ _) | (with_reducible refine Below.alloc ?_ ?_ _) | (with_reducible refine Below.drew ?_) | (with_reducible refine below_drewN ?_ _) | (with_reducible refine Below.trans ?_ (Below.mono (g3) ?_)) | (with_reducible refine Below.trans ?_ (Below.mono (g2) ?_)))); all_goals (first | omega | (simp; done) | (simp; omega) | (simp [*]; done) | (simp at *; omega))))).cells
        (have zr := QBox.grows mr (w' := w3) (by (have bz0 := Below.size (g3); (try simp at bz0); have bz1 := Below.size (g2); (try simp at bz1); (repeat' (first | with_reducible exact Below.refl _ _ | with_reducible assumption | (with_reducible refine Below.setCell ?_ ?_ _) | (with_reducible refine Below.alloc ?_ ?_ _) | (with_reducible refine Below.drew ?_) | (with_reducible refine below_drewN ?_ _) | (with_reducible refine Below.trans ?_ (Below.mono (g3) ?_)) | (with_reducible refine Below.trans ?_ (Below.mono (g2) ?_)))); all_goals (first | omega | (simp; done) | (simp; omega) | (simp [*]; done) | (simp at *; omega)))); obtain ⟨zr0, zr1⟩ := zr.cells; have zrl := zr.lt; have zrf := zr.fz; go_wp2_with fail; refine bodyPost_ret (v := .agg #[.int .i64 0, .int .i64 0]) ?_ rfl ?_; (simp [results, Try.results141, go_sem, zr0, zr1, zrf, zrl]); exact ⟨by rw [HE.out], by (have bz0 := Below.size (g3); (try simp at bz0); have bz1 := Below.size (g2); (try simp at bz1); have bz2 := Below.size (g01); (try simp at bz2); (repeat' (first | with_reducible exact Below.refl _ _ | with_reducible assumption | (with_reducible refine Below.setCell ?_ ?_ _) | (with_reducible refine Below.alloc ?_ ?_ _) | (with_reducible refine Below.drew ?_) | (with_reducible refine below_drewN ?_ _) | (with_reducible refine Below.trans ?_ (Below.mono (g3) ?_)) | (with_reducible refine Below.trans ?_ (Below.mono (g2) ?_)) | (with_reducible refine Below.trans ?_ (Below.mono (g01) ?_)))); all_goals (first | omega | (simp; done) | (simp; omega) | (simp [*]; done) | (simp at *; omega)))⟩)
      · have hz2 : (b.1 == 0) = false := by simpa using hz
        have HE := Lib.hid (show RES = mkQ (a.1 * b.2) (a.2 * b.1) by have := HD.out; rw [if_pos (by simpa using hz)] at this; exact this)
        obtain ⟨a1, a2, a3, a4⟩ := hka rfl
        obtain ⟨c1, c2, c3, c4⟩ := hkb rfl
        have m0 := mul_bd2 (x := a.1) (y := b.2) (by omega) (by omega) (by omega) (by omega)
        have m1 := mul_bd2 (x := b.1) (y := a.2) (by omega) (by omega) (by omega) (by omega)
        have m2 := mul_bd2 (x := a.1) (y := b.1) (by omega) (by omega) (by omega) (by omega)
        have m3 := mul_bd2 (x := a.2) (y := b.2) (by omega) (by omega) (by omega) (by omega)
        have m4 := mul_bd2 (x := a.2) (y := b.1) (by omega) (by omega) (by omega) (by omega)
        have hne : a.2 * b.1 ≠ 0 := Int.mul_ne_zero (by omega) hz
        have HL := Lib.hid fun W => lowest_c (a.1 * b.2) (a.2 * b.1) W hne (by omega) (by omega) (by omega) (by omega)
        clear hne
        clear hz
        clear HD hka hkb
        generalize mkQ (a.1 * b.2) (a.2 * b.1) = R at *
        go_enter Try.func141, Try.ntmps141
        go_wp2_with fail
        refine (HA'.out _).mono ?_; rintro e w2 ⟨rfl, g2⟩
        rw [← HW1.out] at g2
        obtain ⟨b0, b1⟩ := (mb.grows g2).cells
        go_wp2_with fail
        refine (HB'.out _).mono ?_; rintro e w3 ⟨rfl, g3⟩
        clear b0 b1
        obtain ⟨b0, b1⟩ := (mb.grows (w' := w3) (by (have bz0 := Below.size (g3); (try simp at bz0); have bz1 := Below.size (g2); (try simp at bz1); (repeat' (first | with_reducible exact Below.refl _ _ | with_reducible assumption | (with_reducible refine Below.setCell ?_ ?_ _) | (with_reducible refine Below.alloc ?_ ?_ _) | (with_reducible refine Below.drew ?_) | (with_reducible refine below_drewN ?_ _) | (with_reducible refine Below.trans ?_ (Below.mono (g3) ?_)) | (with_reducible refine Below.trans ?_ (Below.mono (g2) ?_)))); all_goals (first | omega | (simp; done) | (simp; omega) | (simp [*]; done) | (simp at *; omega))))).cells
        obtain ⟨a0, a1'⟩ := (ma.grows (w' := w3) (by (have bz0 := Below.size (g3); (try simp at bz0); have bz1 := Below.size (g2); (try simp at bz1); (repeat' (first | with_reducible exact Below.refl _ _ | with_reducible assumption | (with_reducible refine Below.setCell ?_ ?_ _) | (with_reducible refine Below.alloc ?_ ?_ _) | (with_reducible refine Below.drew ?_) | (with_reducible refine below_drewN ?_ _) | (with_reducible refine Below.trans ?_ (Below.mono (g3) ?_)) | (with_reducible refine Below.trans ?_ (Below.mono (g2) ?_)))); all_goals (first | omega | (simp; done) | (simp; omega) | (simp [*]; done) | (simp at *; omega))))).cells
        go_wp2_with fail
        refine (HL.out _).mono ?_; rintro e w4 ⟨rfl, g4⟩
        (have zr := QBox.grows mr (w' := w4) (by (have bz0 := Below.size (g4); (try simp at bz0); have bz1 := Below.size (g3); (try simp at bz1); have bz2 := Below.size (g2); (try simp at bz2); (repeat' (first | with_reducible exact Below.refl _ _ | with_reducible assumption | (with_reducible refine Below.setCell ?_ ?_ _) | (with_reducible refine Below.alloc ?_ ?_ _) | (with_reducible refine Below.drew ?_) | (with_reducible refine below_drewN ?_ _) | (with_reducible refine Below.trans ?_ (Below.mono (g4) ?_)) | (with_reducible refine Below.trans ?_ (Below.mono (g3) ?_)) | (with_reducible refine Below.trans ?_ (Below.mono (g2) ?_)))); all_goals (first | omega | (simp; done) | (simp; omega) | (simp [*]; done) | (simp at *; omega)))); obtain ⟨zr0, zr1⟩ := zr.cells; have zrl := zr.lt; have zrf := zr.fz; go_wp2_with fail; refine bodyPost_ret (v := .agg #[.int .i64 R.1, .int .i64 R.2]) ?_ rfl ?_; (simp [results, Try.results141, go_sem, zr0, zr1, zrf, zrl]); exact ⟨by rw [HE.out], by (have bz0 := Below.size (g4); (try simp at bz0); have bz1 := Below.size (g3); (try simp at bz1); have bz2 := Below.size (g2); (try simp at bz2); have bz3 := Below.size (g01); (try simp at bz3); (repeat' (first | with_reducible exact Below.refl _ _ | with_reducible assumption | (with_reducible refine Below.setCell ?_ ?_ _) | (with_reducible refine Below.alloc ?_ ?_ _) | (with_reducible refine Below.drew ?_) | (with_reducible refine below_drewN ?_ _) | (with_reducible refine Below.trans ?_ (Below.mono (g4) ?_)) | (with_reducible refine Below.trans ?_ (Below.mono (g3) ?_)) | (with_reducible refine Below.trans ?_ (Below.mono (g2) ?_)) | (with_reducible refine Below.trans ?_ (Below.mono (g01) ?_)))); all_goals (first | omega | (simp; done) | (simp; omega) | (simp [*]; done) | (simp at *; omega)))⟩)
theorem sAddRatios_c (a b : Q2) (w : World) : Calls Try.prog 133 #[.agg #[.int .i64 a.1, .int .i64 a.2], .agg #[.int .i64 b.1, .int .i64 b.2]] w (QRet (addQ a b) w) := by
  have HA := fun W => sIsRatio_c a.1 a.2 W
  have HB := fun W => sIsRatio_c b.1 b.2 W
  obtain ⟨w1, hw1, ma, mb, mr, g01⟩ := two_q w a b
  have HW1 := Lib.hid hw1
  clear hw1
  obtain ⟨RES, hRES⟩ : ∃ x, x = addQ a b := ⟨_, rfl⟩
  rw [← hRES]
  unfold addQ at hRES
  have hka := @okQ_bd a
  have hkb := @okQ_bd b
  change ∀ W, Calls _ _ _ W (fun e w' => e = .returned (.bool (okQ a)) ∧ _) at HA
  change ∀ W, Calls _ _ _ W (fun e w' => e = .returned (.bool (okQ b)) ∧ _) at HB
  generalize okQ a = oa at *
  generalize okQ b = ob at *
  have HA' := Lib.hid HA
  have HB' := Lib.hid HB
  have HD := Lib.hid hRES
  clear HA HB hRES
  cases oa
  · have HE := Lib.hid (show RES = (0, 0) from HD.out)
    clear HD hka hkb
    go_enter Try.func133, Try.ntmps133
    go_wp2_with fail
    refine (HA'.out _).mono ?_; rintro e w2 ⟨rfl, g2⟩
    rw [← HW1.out] at g2
    (have zr := QBox.grows mr (w' := w2) (by (have bz0 := Below.size (g2); (try simp at bz0); (repeat' (first | with_reducible exact Below.refl _ _ | with_reducible assumption | (with_reducible refine Below.setCell ?_ ?_ _) | (with_reducible refine Below.alloc ?_ ?_ _) | (with_reducible refine Below.drew ?_) | (with_reducible refine below_drewN ?_ _) | (with_reducible refine Below.trans ?_ (Below.mono (g2) ?_)))); all_goals (first | omega | (simp; done) | (simp; omega) | (simp [*]; done) | (simp at *; omega)))); obtain ⟨zr0, zr1⟩ := zr.cells; have zrl := zr.lt; have zrf := zr.fz; go_wp2_with fail; refine bodyPost_ret (v := .agg #[.int .i64 0, .int .i64 0]) ?_ rfl ?_; (simp [results, Try.results133, go_sem, zr0, zr1, zrf, zrl]); exact ⟨by rw [HE.out], by (have bz0 := Below.size (g2); (try simp at bz0); have bz1 := Below.size (g01); (try simp at bz1); (repeat' (first | with_reducible exact Below.refl _ _ | with_reducible assumption | (with_reducible refine Below.setCell ?_ ?_ _) | (with_reducible refine Below.alloc ?_ ?_ _) | (with_reducible refine Below.drew ?_) | (with_reducible refine below_drewN ?_ _) | (with_reducible refine Below.trans ?_ (Below.mono (g2) ?_)) | (with_reducible refine Below.trans ?_ (Below.mono (g01) ?_)))); all_goals (first | omega | (simp; done) | (simp; omega) | (simp [*]; done) | (simp at *; omega)))⟩)
  · cases ob
    · have HE := Lib.hid (show RES = (0, 0) from HD.out)
      clear HD hka hkb
      go_enter Try.func133, Try.ntmps133
      go_wp2_with fail
      refine (HA'.out _).mono ?_; rintro e w2 ⟨rfl, g2⟩
      rw [← HW1.out] at g2
      obtain ⟨b0, b1⟩ := (mb.grows g2).cells
      go_wp2_with fail
      refine (HB'.out _).mono ?_; rintro e w3 ⟨rfl, g3⟩
      (have zr := QBox.grows mr (w' := w3) (by (have bz0 := Below.size (g3); (try simp at bz0); have bz1 := Below.size (g2); (try simp at bz1); (repeat' (first | with_reducible exact Below.refl _ _ | with_reducible assumption | (with_reducible refine Below.setCell ?_ ?_ _) | (with_reducible refine Below.alloc ?_ ?_ _) | (with_reducible refine Below.drew ?_) | (with_reducible refine below_drewN ?_ _) | (with_reducible refine Below.trans ?_ (Below.mono (g3) ?_)) | (with_reducible refine Below.trans ?_ (Below.mono (g2) ?_)))); all_goals (first | omega | (simp; done) | (simp; omega) | (simp [*]; done) | (simp at *; omega)))); obtain ⟨zr0, zr1⟩ := zr.cells; have zrl := zr.lt; have zrf := zr.fz; go_wp2_with fail; refine bodyPost_ret (v := .agg #[.int .i64 0, .int .i64 0]) ?_ rfl ?_; (simp [results, Try.results133, go_sem, zr0, zr1, zrf, zrl]); exact ⟨by rw [HE.out], by (have bz0 := Below.size (g3); (try simp at bz0); have bz1 := Below.size (g2); (try simp at bz1); have bz2 := Below.size (g01); (try simp at bz2); (repeat' (first | with_reducible exact Below.refl _ _ | with_reducible assumption | (with_reducible refine Below.setCell ?_ ?_ _) | (with_reducible refine Below.alloc ?_ ?_ _) | (with_reducible refine Below.drew ?_) | (with_reducible refine below_drewN ?_ _) | (with_reducible refine Below.trans ?_ (Below.mono (g3) ?_)) | (with_reducible refine Below.trans ?_ (Below.mono (g2) ?_)) | (with_reducible refine Below.trans ?_ (Below.mono (g01) ?_)))); all_goals (first | omega | (simp; done) | (simp; omega) | (simp [*]; done) | (simp at *; omega)))⟩)
    · have HE := Lib.hid (show RES = mkQ (a.1 * b.2 + b.1 * a.2) (a.2 * b.2) from HD.out)
      obtain ⟨a1, a2, a3, a4⟩ := hka rfl
      obtain ⟨c1, c2, c3, c4⟩ := hkb rfl
      have m0 := mul_bd2 (x := a.1) (y := b.2) (by omega) (by omega) (by omega) (by omega)
      have m1 := mul_bd2 (x := b.1) (y := a.2) (by omega) (by omega) (by omega) (by omega)
      have m2 := mul_bd2 (x := a.1) (y := b.1) (by omega) (by omega) (by omega) (by omega)
      have m3 := mul_bd2 (x := a.2) (y := b.2) (by omega) (by omega) (by omega) (by omega)
      have m4 := mul_bd2 (x := a.2) (y := b.1) (by omega) (by omega) (by omega) (by omega)
      have HL := Lib.hid fun W => l2Make_c (a.1 * b.2 + b.1 * a.2) (a.2 * b.2) W (by omega) (by omega) (by omega) (by omega)
      clear HD hka hkb
      generalize mkQ (a.1 * b.2 + b.1 * a.2) (a.2 * b.2) = R at *
      go_enter Try.func133, Try.ntmps133
      go_wp2_with fail
      refine (HA'.out _).mono ?_; rintro e w2 ⟨rfl, g2⟩
      rw [← HW1.out] at g2
      obtain ⟨b0, b1⟩ := (mb.grows g2).cells
      go_wp2_with fail
      refine (HB'.out _).mono ?_; rintro e w3 ⟨rfl, g3⟩
      clear b0 b1
      obtain ⟨b0, b1⟩ := (mb.grows (w' := w3) (by (have bz0 := Below.size (g3); (try simp at bz0); have bz1 := Below.size (g2); (try simp at bz1); (repeat' (first | with_reducible exact Below.refl _ _ | with_reducible assumption | (with_reducible refine Below.setCell ?_ ?_ _) | (with_reducible refine Below.alloc ?_ ?_ _) | (with_reducible refine Below.drew ?_) | (with_reducible refine below_drewN ?_ _) | (with_reducible refine Below.trans ?_ (Below.mono (g3) ?_)) | (with_reducible refine Below.trans ?_ (Below.mono (g2) ?_)))); all_goals (first | omega | (simp; done) | (simp; omega) | (simp [*]; done) | (simp at *; omega))))).cells
      obtain ⟨a0, a1'⟩ := (ma.grows (w' := w3) (by (have bz0 := Below.size (g3); (try simp at bz0); have bz1 := Below.size (g2); (try simp at bz1); (repeat' (first | with_reducible exact Below.refl _ _ | with_reducible assumption | (with_reducible refine Below.setCell ?_ ?_ _) | (with_reducible refine Below.alloc ?_ ?_ _) | (with_reducible refine Below.drew ?_) | (with_reducible refine below_drewN ?_ _) | (with_reducible refine Below.trans ?_ (Below.mono (g3) ?_)) | (with_reducible refine Below.trans ?_ (Below.mono (g2) ?_)))); all_goals (first | omega | (simp; done) | (simp; omega) | (simp [*]; done) | (simp at *; omega))))).cells
      go_wp2_with fail
      refine (HL.out _).mono ?_; rintro e w4 ⟨rfl, g4⟩
      (have zr := QBox.grows mr (w' := w4) (by (have bz0 := Below.size (g4); (try simp at bz0); have bz1 := Below.size (g3); (try simp at bz1); have bz2 := Below.size (g2); (try simp at bz2); (repeat' (first | with_reducible exact Below.refl _ _ | with_reducible assumption | (with_reducible refine Below.setCell ?_ ?_ _) | (with_reducible refine Below.alloc ?_ ?_ _) | (with_reducible refine Below.drew ?_) | (with_reducible refine below_drewN ?_ _) | (with_reducible refine Below.trans ?_ (Below.mono (g4) ?_)) | (with_reducible refine Below.trans ?_ (Below.mono (g3) ?_)) | (with_reducible refine Below.trans ?_ (Below.mono (g2) ?_)))); all_goals (first | omega | (simp; done) | (simp; omega) | (simp [*]; done) | (simp at *; omega)))); obtain ⟨zr0, zr1⟩ := zr.cells; have zrl := zr.lt; have zrf := zr.fz; go_wp2_with fail; refine bodyPost_ret (v := .agg #[.int .i64 R.1, .int .i64 R.2]) ?_ rfl ?_; (simp [results, Try.results133, go_sem, zr0, zr1, zrf, zrl]); exact ⟨by rw [HE.out], by (have bz0 := Below.size (g4); (try simp at bz0); have bz1 := Below.size (g3); (try simp at bz1); have bz2 := Below.size (g2); (try simp at bz2); have bz3 := Below.size (g01); (try simp at bz3); (repeat' (first | with_reducible exact Below.refl _ _ | with_reducible assumption | (with_reducible refine Below.setCell ?_ ?_ _) | (with_reducible refine Below.alloc ?_ ?_ _) | (with_reducible refine Below.drew ?_) | (with_reducible refine below_drewN ?_ _) | (with_reducible refine Below.trans ?_ (Below.mono (g4) ?_)) | (with_reducible refine Below.trans ?_ (Below.mono (g3) ?_)) | (with_reducible refine Below.trans ?_ (Below.mono (g2) ?_)) | (with_reducible refine Below.trans ?_ (Below.mono (g01) ?_)))); all_goals (first | omega | (simp; done) | (simp; omega) | (simp [*]; done) | (simp at *; omega)))⟩)
theorem sMultiplyRatios_c (a b : Q2) (w : World) : Calls Try.prog 135 #[.agg #[.int .i64 a.1, .int .i64 a.2], .agg #[.int .i64 b.1, .int .i64 b.2]] w (QRet (mulQ a b) w) := by
  have HA := fun W => sIsRatio_c a.1 a.2 W
  have HB := fun W => sIsRatio_c b.1 b.2 W
  obtain ⟨w1, hw1, ma, mb, mr, g01⟩ := two_q w a b
  have HW1 := Lib.hid hw1
  clear hw1
  obtain ⟨RES, hRES⟩ : ∃ x, x = mulQ a b := ⟨_, rfl⟩
  rw [← hRES]
  unfold mulQ at hRES
  have hka := @okQ_bd a
  have hkb := @okQ_bd b
  change ∀ W, Calls _ _ _ W (fun e w' => e = .returned (.bool (okQ a)) ∧ _) at HA
  change ∀ W, Calls _ _ _ W (fun e w' => e = .returned (.bool (okQ b)) ∧ _) at HB
  generalize okQ a = oa at *
  generalize okQ b = ob at *
  have HA' := Lib.hid HA
  have HB' := Lib.hid HB
  have HD := Lib.hid hRES
  clear HA HB hRES
  cases oa
  · have HE := Lib.hid (show RES = (0, 0) from HD.out)
    clear HD hka hkb
    go_enter Try.func135, Try.ntmps135
    go_wp2_with fail
    refine (HA'.out _).mono ?_; rintro e w2 ⟨rfl, g2⟩
    rw [← HW1.out] at g2
    (have zr := QBox.grows mr (w' := w2) (by (have bz0 := Below.size (g2); (try simp at bz0); (repeat' (first | with_reducible exact Below.refl _ _ | with_reducible assumption | (with_reducible refine Below.setCell ?_ ?_ _) | (with_reducible refine Below.alloc ?_ ?_ _) | (with_reducible refine Below.drew ?_) | (with_reducible refine below_drewN ?_ _) | (with_reducible refine Below.trans ?_ (Below.mono (g2) ?_)))); all_goals (first | omega | (simp; done) | (simp; omega) | (simp [*]; done) | (simp at *; omega)))); obtain ⟨zr0, zr1⟩ := zr.cells; have zrl := zr.lt; have zrf := zr.fz; go_wp2_with fail; refine bodyPost_ret (v := .agg #[.int .i64 0, .int .i64 0]) ?_ rfl ?_; (simp [results, Try.results135, go_sem, zr0, zr1, zrf, zrl]); exact ⟨by rw [HE.out], by (have bz0 := Below.size (g2); (try simp at bz0); have bz1 := Below.size (g01); (try simp at bz1); (repeat' (first | with_reducible exact Below.refl _ _ | with_reducible assumption | (with_reducible refine Below.setCell ?_ ?_ _) | (with_reducible refine Below.alloc ?_ ?_ _) | (with_reducible refine Below.drew ?_) | (with_reducible refine below_drewN ?_ _) | (with_reducible refine Below.trans ?_ (Below.mono (g2) ?_)) | (with_reducible refine Below.trans ?_ (Below.mono (g01) ?_)))); all_goals (first | omega | (simp; done) | (simp; omega) | (simp [*]; done) | (simp at *; omega)))⟩)
  · cases ob
    · have HE := Lib.hid (show RES = (0, 0) from HD.out)
      clear HD hka hkb
      go_enter Try.func135, Try.ntmps135
      go_wp2_with fail
      refine (HA'.out _).mono ?_; rintro e w2 ⟨rfl, g2⟩
      rw [← HW1.out] at g2
      obtain ⟨b0, b1⟩ := (mb.grows g2).cells
      go_wp2_with fail
      refine (HB'.out _).mono ?_; rintro e w3 ⟨rfl, g3⟩
      (have zr := QBox.grows mr (w' := w3) (by (have bz0 := Below.size (g3); (try simp at bz0); have bz1 := Below.size (g2); (try simp at bz1); (repeat' (first | with_reducible exact Below.refl _ _ | with_reducible assumption | (with_reducible refine Below.setCell ?_ ?_ _) | (with_reducible refine Below.alloc ?_ ?_ _) | (with_reducible refine Below.drew ?_) | (with_reducible refine below_drewN ?_ _) | (with_reducible refine Below.trans ?_ (Below.mono (g3) ?_)) | (with_reducible refine Below.trans ?_ (Below.mono (g2) ?_)))); all_goals (first | omega | (simp; done) | (simp; omega) | (simp [*]; done) | (simp at *; omega)))); obtain ⟨zr0, zr1⟩ := zr.cells; have zrl := zr.lt; have zrf := zr.fz; go_wp2_with fail; refine bodyPost_ret (v := .agg #[.int .i64 0, .int .i64 0]) ?_ rfl ?_; (simp [results, Try.results135, go_sem, zr0, zr1, zrf, zrl]); exact ⟨by rw [HE.out], by (have bz0 := Below.size (g3); (try simp at bz0); have bz1 := Below.size (g2); (try simp at bz1); have bz2 := Below.size (g01); (try simp at bz2); (repeat' (first | with_reducible exact Below.refl _ _ | with_reducible assumption | (with_reducible refine Below.setCell ?_ ?_ _) | (with_reducible refine Below.alloc ?_ ?_ _) | (with_reducible refine Below.drew ?_) | (with_reducible refine below_drewN ?_ _) | (with_reducible refine Below.trans ?_ (Below.mono (g3) ?_)) | (with_reducible refine Below.trans ?_ (Below.mono (g2) ?_)) | (with_reducible refine Below.trans ?_ (Below.mono (g01) ?_)))); all_goals (first | omega | (simp; done) | (simp; omega) | (simp [*]; done) | (simp at *; omega)))⟩)
    · have HE := Lib.hid (show RES = mkQ (a.1 * b.1) (a.2 * b.2) from HD.out)
      obtain ⟨a1, a2, a3, a4⟩ := hka rfl
      obtain ⟨c1, c2, c3, c4⟩ := hkb rfl
      have m0 := mul_bd2 (x := a.1) (y := b.2) (by omega) (by omega) (by omega) (by omega)
      have m1 := mul_bd2 (x := b.1) (y := a.2) (by omega) (by omega) (by omega) (by omega)
      have m2 := mul_bd2 (x := a.1) (y := b.1) (by omega) (by omega) (by omega) (by omega)
      have m3 := mul_bd2 (x := a.2) (y := b.2) (by omega) (by omega) (by omega) (by omega)
      have m4 := mul_bd2 (x := a.2) (y := b.1) (by omega) (by omega) (by omega) (by omega)
      have HL := Lib.hid fun W => l2Make_c (a.1 * b.1) (a.2 * b.2) W (by omega) (by omega) (by omega) (by omega)
      clear HD hka hkb
      generalize mkQ (a.1 * b.1) (a.2 * b.2) = R at *
      go_enter Try.func135, Try.ntmps135
      go_wp2_with fail
      refine (HA'.out _).mono ?_; rintro e w2 ⟨rfl, g2⟩
      rw [← HW1.out] at g2
      obtain ⟨b0, b1⟩ := (mb.grows g2).cells
      go_wp2_with fail
      refine (HB'.out _).mono ?_; rintro e w3 ⟨rfl, g3⟩
      clear b0 b1
      obtain ⟨b0, b1⟩ := (mb.grows (w' := w3) (by (have bz0 := Below.size (g3); (try simp at bz0); have bz1 := Below.size (g2); (try simp at bz1); (repeat' (first | with_reducible exact Below.refl _ _ | with_reducible assumption | (with_reducible refine Below.setCell ?_ ?_ _) | (with_reducible refine Below.alloc ?_ ?_ _) | (with_reducible refine Below.drew ?_) | (with_reducible refine below_drewN ?_ _) | (with_reducible refine Below.trans ?_ (Below.mono (g3) ?_)) | (with_reducible refine Below.trans ?_ (Below.mono (g2) ?_)))); all_goals (first | omega | (simp; done) | (simp; omega) | (simp [*]; done) | (simp at *; omega))))).cells
      obtain ⟨a0, a1'⟩ := (ma.grows (w' := w3) (by (have bz0 := Below.size (g3); (try simp at bz0); have bz1 := Below.size (g2); (try simp at bz1); (repeat' (first | with_reducible exact Below.refl _ _ | with_reducible assumption | (with_reducible refine Below.setCell ?_ ?_ _) | (with_reducible refine Below.alloc ?_ ?_ _) | (with_reducible refine Below.drew ?_) | (with_reducible refine below_drewN ?_ _) | (with_reducible refine Below.trans ?_ (Below.mono (g3) ?_)) | (with_reducible refine Below.trans ?_ (Below.mono (g2) ?_)))); all_goals (first | omega | (simp; done) | (simp; omega) | (simp [*]; done) | (simp at *; omega))))).cells
      go_wp2_with fail
      refine (HL.out _).mono ?_; rintro e w4 ⟨rfl, g4⟩
      (have zr := QBox.grows mr (w' := w4) (by (have bz0 := Below.size (g4); (try simp at bz0); have bz1 := Below.size (g3); (try simp at bz1); have bz2 := Below.size (g2); (try simp at bz2); (repeat' (first | with_reducible exact Below.refl _ _ | with_reducible assumption | (with_reducible refine Below.setCell ?_ ?_ _) | (with_reducible refine Below.alloc ?_ ?_ _) | (with_reducible refine Below.drew ?_) | (with_reducible refine below_drewN ?_ _) | (with_reducible refine Below.trans ?_ (Below.mono (g4) ?_)) | (with_reducible refine Below.trans ?_ (Below.mono (g3) ?_)) | (with_reducible refine Below.trans ?_ (Below.mono (g2) ?_)))); all_goals (first | omega | (simp; done) | (simp; omega) | (simp [*]; done) | (simp at *; omega)))); obtain ⟨zr0, zr1⟩ := zr.cells; have zrl := zr.lt; have zrf := zr.fz; go_wp2_with fail; refine bodyPost_ret (v := .agg #[.int .i64 R.1, .int .i64 R.2]) ?_ rfl ?_; (simp [results, Try.results135, go_sem, zr0, zr1, zrf, zrl]); exact ⟨by rw [HE.out], by (have bz0 := Below.size (g4); (try simp at bz0); have bz1 := Below.size (g3); (try simp at bz1); have bz2 := Below.size (g2); (try simp at bz2); have bz3 := Below.size (g01); (try simp at bz3); (repeat' (first | with_reducible exact Below.refl _ _ | with_reducible assumption | (with_reducible refine Below.setCell ?_ ?_ _) | (with_reducible refine Below.alloc ?_ ?_ _) | (with_reducible refine Below.drew ?_) | (with_reducible refine below_drewN ?_ _) | (with_reducible refine Below.trans ?_ (Below.mono (g4) ?_)) | (with_reducible refine Below.trans ?_ (Below.mono (g3) ?_)) | (with_reducible refine Below.trans ?_ (Below.mono (g2) ?_)) | (with_reducible refine Below.trans ?_ (Below.mono (g01) ?_)))); all_goals (first | omega | (simp; done) | (simp; omega) | (simp [*]; done) | (simp at *; omega)))⟩)
theorem sDivideRatios_c (a b : Q2) (w : World) : Calls Try.prog 136 #[.agg #[.int .i64 a.1, .int .i64 a.2], .agg #[.int .i64 b.1, .int .i64 b.2]] w (QRet (divQ a b) w) := by
  have HA := fun W => sIsRatio_c a.1 a.2 W
  have HB := fun W => sIsRatio_c b.1 b.2 W
  obtain ⟨w1, hw1, ma, mb, mr, g01⟩ := two_q w a b
  have HW1 := Lib.hid hw1
  clear hw1
  obtain ⟨RES, hRES⟩ : ∃ x, x = divQ a b := ⟨_, rfl⟩
  rw [← hRES]
  unfold divQ at hRES
  have hka := @okQ_bd a
  have hkb := @okQ_bd b
  change ∀ W, Calls _ _ _ W (fun e w' => e = .returned (.bool (okQ a)) ∧ _) at HA
  change ∀ W, Calls _ _ _ W (fun e w' => e = .returned (.bool (okQ b)) ∧ _) at HB
  generalize okQ a = oa at *
  generalize okQ b = ob at *
  have HA' := Lib.hid HA
  have HB' := Lib.hid HB
  have HD := Lib.hid hRES
  clear HA HB hRES
  cases oa
  · have HE := Lib.hid (show RES = (0, 0) from HD.out)
    clear HD hka hkb
    go_enter Try.func136, Try.ntmps136
    go_wp2_with fail
    refine (HA'.out _).mono ?_; rintro e w2 ⟨rfl, g2⟩
    rw [← HW1.out] at g2
    (have zr := QBox.grows mr (w' := w2) (by (have bz0 := Below.size (g2); (try simp at bz0); (repeat' (first | with_reducible exact Below.refl _ _ | with_reducible assumption | (with_reducible refine Below.setCell ?_ ?_ _) | (with_reducible refine Below.alloc ?_ ?_ _) | (with_reducible refine Below.drew ?_) | (with_reducible refine below_drewN ?_ _) | (with_reducible refine Below.trans ?_ (Below.mono (g2) ?_)))); all_goals (first | omega | (simp; done) | (simp; omega) | (simp [*]; done) | (simp at *; omega)))); obtain ⟨zr0, zr1⟩ := zr.cells; have zrl := zr.lt; have zrf := zr.fz; go_wp2_with fail; refine bodyPost_ret (v := .agg #[.int .i64 0, .int .i64 0]) ?_ rfl ?_; (simp [results, Try.results136, go_sem, zr0, zr1, zrf, zrl]); exact ⟨by rw [HE.out], by (have bz0 := Below.size (g2); (try simp at bz0); have bz1 := Below.size (g01); (try simp at bz1); (repeat' (first | with_reducible exact Below.refl _ _ | with_reducible assumption | (with_reducible refine Below.setCell ?_ ?_ _) | (with_reducible refine Below.alloc ?_ ?_ _) | (with_reducible refine Below.drew ?_) | (with_reducible refine below_drewN ?_ _) | (with_reducible refine Below.trans ?_ (Below.mono (g2) ?_)) | (with_reducible refine Below.trans ?_ (Below.mono (g01) ?_)))); all_goals (first | omega | (simp; done) | (simp; omega) | (simp [*]; done) | (simp at *; omega)))⟩)
  · cases ob
    · have HE := Lib.hid (show RES = (0, 0) from HD.out)
      clear HD hka hkb
      go_enter Try.func136, Try.ntmps136
      go_wp2_with fail
      refine (HA'.out _).mono ?_; rintro e w2 ⟨rfl, g2⟩
      rw [← HW1.out] at g2
      obtain ⟨b0, b1⟩ := (mb.grows g2).cells
      go_wp2_with fail
      refine (HB'.out _).mono ?_; rintro e w3 ⟨rfl, g3⟩
      (have zr := QBox.grows mr (w' := w3) (by (have bz0 := Below.size (g3); (try simp at bz0); have bz1 := Below.size (g2); (try simp at bz1); (repeat' (first | with_reducible exact Below.refl _ _ | with_reducible assumption | (with_reducible refine Below.setCell ?_ ?_ _) | (with_reducible refine Below.alloc ?_ ?_ _) | (with_reducible refine Below.drew ?_) | (with_reducible refine below_drewN ?_ _) | (with_reducible refine Below.trans ?_ (Below.mono (g3) ?_)) | (with_reducible refine Below.trans ?_ (Below.mono (g2) ?_)))); all_goals (first | omega | (simp; done) | (simp; omega) | (simp [*]; done) | (simp at *; omega)))); obtain ⟨zr0, zr1⟩ := zr.cells; have zrl := zr.lt; have zrf := zr.fz; go_wp2_with fail; refine bodyPost_ret (v := .agg #[.int .i64 0, .int .i64 0]) ?_ rfl ?_; (simp [results, Try.results136, go_sem, zr0, zr1, zrf, zrl]); exact ⟨by rw [HE.out], by (have bz0 := Below.size (g3); (try simp at bz0); have bz1 := Below.size (g2); (try simp at bz1); have bz2 := Below.size (g01); (try simp at bz2); (repeat' (first | with_reducible exact Below.refl _ _ | with_reducible assumption | (with_reducible refine Below.setCell ?_ ?_ _) | (with_reducible refine Below.alloc ?_ ?_ _) | (with_reducible refine Below.drew ?_) | (with_reducible refine below_drewN ?_ _) | (with_reducible refine Below.trans ?_ (Below.mono (g3) ?_)) | (with_reducible refine Below.trans ?_ (Below.mono (g2) ?_)) | (with_reducible refine Below.trans ?_ (Below.mono (g01) ?_)))); all_goals (first | omega | (simp; done) | (simp; omega) | (simp [*]; done) | (simp at *; omega)))⟩)
    · by_cases hz : b.1 = 0
      · have HE := Lib.hid (show RES = (0, 0) by have := HD.out; rw [hz] at this; exact this)
        have hz2 : (b.1 == 0) = true := by simpa using hz
        clear HD hka hkb hz
        go_enter Try.func136, Try.ntmps136
        go_wp2_with fail
        refine (HA'.out _).mono ?_; rintro e w2 ⟨rfl, g2⟩
        rw [← HW1.out] at g2
        obtain ⟨b0, b1⟩ := (mb.grows g2).cells
        go_wp2_with fail
        refine (HB'.out _).mono ?_; rintro e w3 ⟨rfl, g3⟩
        clear b0 b1
        obtain ⟨b0, b1⟩ := (mb.grows (w' := w3) (by (have bz0 := Below.size (g3); (try simp at bz0); have bz1 := Below.size (g2); (try simp at bz1); (repeat' (first | with_reducible exact Below.refl _ _ | with_reducible assumption | (with_reducible refine Below.setCell ?_ ?_ _) | (with_reducible refine Below.alloc ?_ ?_ _) | (with_reducible refine Below.drew ?_) | (with_reducible refine below_drewN ?_ _) | (with_reducible refine Below.trans ?_ (Below.mono (g3) ?_)) | (with_reducible refine Below.trans ?_ (Below.mono (g2) ?_)))); all_goals (first | omega | (simp; done) | (simp; omega) | (simp [*]; done) | (simp at *; omega))))).cells
        (have zr := QBox.grows mr (w' := w3) (by (have bz0 := Below.size (g3); (try simp at bz0); have bz1 := Below.size (g2); (try simp at bz1); (repeat' (first | with_reducible exact Below.refl _ _ | with_reducible assumption | (with_reducible refine Below.setCell ?_ ?_ _) | (with_reducible refine Below.alloc ?_ ?_ _) | (with_reducible refine Below.drew ?_) | (with_reducible refine below_drewN ?_ _) | (with_reducible refine Below.trans ?_ (Below.mono (g3) ?_)) | (with_reducible refine Below.trans ?_ (Below.mono (g2) ?_)))); all_goals (first | omega | (simp; done) | (simp; omega) | (simp [*]; done) | (simp at *; omega)))); obtain ⟨zr0, zr1⟩ := zr.cells; have zrl := zr.lt; have zrf := zr.fz; go_wp2_with fail; refine bodyPost_ret (v := .agg #[.int .i64 0, .int .i64 0]) ?_ rfl ?_; (simp [results, Try.results136, go_sem, zr0, zr1, zrf, zrl]); exact ⟨by rw [HE.out], by (have bz0 := Below.size (g3); (try simp at bz0); have bz1 := Below.size (g2); (try simp at bz1); have bz2 := Below.size (g01); (try simp at bz2); (repeat' (first | with_reducible exact Below.refl _ _ | with_reducible assumption | (with_reducible refine Below.setCell ?_ ?_ _) | (with_reducible refine Below.alloc ?_ ?_ _) | (with_reducible refine Below.drew ?_) | (with_reducible refine below_drewN ?_ _) | (with_reducible refine Below.trans ?_ (Below.mono (g3) ?_)) | (with_reducible refine Below.trans ?_ (Below.mono (g2) ?_)) | (with_reducible refine Below.trans ?_ (Below.mono (g01) ?_)))); all_goals (first | omega | (simp; done) | (simp; omega) | (simp [*]; done) | (simp at *; omega)))⟩)
      · have hz2 : (b.1 == 0) = false := by simpa using hz
        have HE := Lib.hid (show RES = mkQ (a.1 * b.2) (a.2 * b.1) by have := HD.out; rw [if_pos (by simpa using hz)] at this; exact this)
        obtain ⟨a1, a2, a3, a4⟩ := hka rfl
        obtain ⟨c1, c2, c3, c4⟩ := hkb rfl
        have m0 := mul_bd2 (x := a.1) (y := b.2) (by omega) (by omega) (by omega) (by omega)
        have m1 := mul_bd2 (x := b.1) (y := a.2) (by omega) (by omega) (by omega) (by omega)
        have m2 := mul_bd2 (x := a.1) (y := b.1) (by omega) (by omega) (by omega) (by omega)
        have m3 := mul_bd2 (x := a.2) (y := b.2) (by omega) (by omega) (by omega) (by omega)
        have m4 := mul_bd2 (x := a.2) (y := b.1) (by omega) (by omega) (by omega) (by omega)
        have HL := Lib.hid fun W => l2Make_c (a.1 * b.2) (a.2 * b.1) W (by omega) (by omega) (by omega) (by omega)
        clear hz
        clear HD hka hkb
        generalize mkQ (a.1 * b.2) (a.2 * b.1) = R at *
        go_enter Try.func136, Try.ntmps136
        go_wp2_with fail
        refine (HA'.out _).mono ?_; rintro e w2 ⟨rfl, g2⟩
        rw [← HW1.out] at g2
        obtain ⟨b0, b1⟩ := (mb.grows g2).cells
        go_wp2_with fail
        refine (HB'.out _).mono ?_; rintro e w3 ⟨rfl, g3⟩
        clear b0 b1
        obtain ⟨b0, b1⟩ := (mb.grows (w' := w3) (by (have bz0 := Below.size (g3); (try simp at bz0); have bz1 := Below.size (g2); (try simp at bz1); (repeat' (first | with_reducible exact Below.refl _ _ | with_reducible assumption | (with_reducible refine Below.setCell ?_ ?_ _) | (with_reducible refine Below.alloc ?_ ?_ _) | (with_reducible refine Below.drew ?_) | (with_reducible refine below_drewN ?_ _) | (with_reducible refine Below.trans ?_ (Below.mono (g3) ?_)) | (with_reducible refine Below.trans ?_ (Below.mono (g2) ?_)))); all_goals (first | omega | (simp; done) | (simp; omega) | (simp [*]; done) | (simp at *; omega))))).cells
        obtain ⟨a0, a1'⟩ := (ma.grows (w' := w3) (by (have bz0 := Below.size (g3); (try simp at bz0); have bz1 := Below.size (g2); (try simp at bz1); (repeat' (first | with_reducible exact Below.refl _ _ | with_reducible assumption | (with_reducible refine Below.setCell ?_ ?_ _) | (with_reducible refine Below.alloc ?_ ?_ _) | (with_reducible refine Below.drew ?_) | (with_reducible refine below_drewN ?_ _) | (with_reducible refine Below.trans ?_ (Below.mono (g3) ?_)) | (with_reducible refine Below.trans ?_ (Below.mono (g2) ?_)))); all_goals (first | omega | (simp; done) | (simp; omega) | (simp [*]; done) | (simp at *; omega))))).cells
        go_wp2_with fail
        refine (HL.out _).mono ?_; rintro e w4 ⟨rfl, g4⟩
        (have zr := QBox.grows mr (w' := w4) (by (have bz0 := Below.size (g4); (try simp at bz0); have bz1 := Below.size (g3); (try simp at bz1); have bz2 := Below.size (g2); (try simp at bz2); (repeat' (first | with_reducible exact Below.refl _ _ | with_reducible assumption | (with_reducible refine Below.setCell ?_ ?_ _) | (with_reducible refine Below.alloc ?_ ?_ _) | (with_reducible refine Below.drew ?_) | (with_reducible refine below_drewN ?_ _) | (with_reducible refine Below.trans ?_ (Below.mono (g4) ?_)) | (with_reducible refine Below.trans ?_ (Below.mono (g3) ?_)) | (with_reducible refine Below.trans ?_ (Below.mono (g2) ?_)))); all_goals (first | omega | (simp; done) | (simp; omega) | (simp [*]; done) | (simp at *; omega)))); obtain ⟨zr0, zr1⟩ := zr.cells; have zrl := zr.lt; have zrf := zr.fz; go_wp2_with fail; refine bodyPost_ret (v := .agg #[.int .i64 R.1, .int .i64 R.2]) ?_ rfl ?_; (simp [results, Try.results136, go_sem, zr0, zr1, zrf, zrl]); exact ⟨by rw [HE.out], by (have bz0 := Below.size (g4); (try simp at bz0); have bz1 := Below.size (g3); (try simp at bz1); have bz2 := Below.size (g2); (try simp at bz2); have bz3 := Below.size (g01); (try simp at bz3); (repeat' (first | with_reducible exact Below.refl _ _ | with_reducible assumption | (with_reducible refine Below.setCell ?_ ?_ _) | (with_reducible refine Below.alloc ?_ ?_ _) | (with_reducible refine Below.drew ?_) | (with_reducible refine below_drewN ?_ _) | (with_reducible refine Below.trans ?_ (Below.mono (g4) ?_)) | (with_reducible refine Below.trans ?_ (Below.mono (g3) ?_)) | (with_reducible refine Below.trans ?_ (Below.mono (g2) ?_)) | (with_reducible refine Below.trans ?_ (Below.mono (g01) ?_)))); all_goals (first | omega | (simp; done) | (simp; omega) | (simp [*]; done) | (simp at *; omega)))⟩)
end
end Go.Proofs.Ytpfijhcjempfjaa
