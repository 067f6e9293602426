/- Contracts: the reference's fractions. -/
import Derived.Test.YtpfijhcjempfjaaRatC
namespace Go.Proofs.Ytpfijhcjempfjaa
open Go.RowKit

section
set_option maxHeartbeats 1000000
theorem l2Make_neg (n d : Int) (w : World) (hd : d < 0) (hn1 : -1000000000000000000 ≤ n) (hn2 : n ≤ 1000000000000000000) (hd1 : -1000000000000000000 ≤ d) :
    Calls Try.prog 131 #[.int .i64 n, .int .i64 d] w (QRet (keepQ ((-n).tdiv (gcdI (-n) (-d))) ((-d).tdiv (gcdI (-n) (-d)))) w) := by
  have hg : 0 < gcdI (-n) (-d) := gcdI_pos (by omega)
  have hgle : gcdI (-n) (-d) ≤ 1000000000000000000 := by
    have : (Int.gcd (-n) (-d) : Int) ≤ ((-d).natAbs : Int) := Int.ofNat_le.2 (Int.gcd_le_natAbs_right (-n) (by omega))
    unfold gcdI; omega
  have b1 := tdiv_le (-n) hg
  have b2 := tdiv_le (-d) hg
  have a1 : -1000000000000000000 ≤ (-n).tdiv (gcdI (-n) (-d)) ∧ (-n).tdiv (gcdI (-n) (-d)) ≤ 1000000000000000000 := by omega
  have a2 : -1000000000000000000 ≤ (-d).tdiv (gcdI (-n) (-d)) ∧ (-d).tdiv (gcdI (-n) (-d)) ≤ 1000000000000000000 := by omega
  obtain ⟨a11, a12⟩ := a1
  obtain ⟨a21, a22⟩ := a2
  have dne : (d == 0) = false := by rw [beq_eq_false_iff_ne]; omega
  clear b1 b2
  obtain ⟨RES, hRES⟩ : ∃ x, x = keepQ ((-n).tdiv (gcdI (-n) (-d))) ((-d).tdiv (gcdI (-n) (-d))) := ⟨_, rfl⟩
  rw [← hRES]
  unfold keepQ at hRES
  have HR := fun W => sIsRatio_c ((-n).tdiv (gcdI (-n) (-d))) ((-d).tdiv (gcdI (-n) (-d))) W
  generalize isRat ((-n).tdiv (gcdI (-n) (-d))) ((-d).tdiv (gcdI (-n) (-d))) = ok at *
  generalize hga : gcdI (-n) (-d) = ga at *
  (try rw [Int.neg_tdiv] at a11); (try rw [Int.neg_tdiv] at a12); (try rw [Int.neg_tdiv] at a21); (try rw [Int.neg_tdiv] at a22)
  (try rw [Int.neg_tdiv, Int.neg_tdiv] at hRES)
  (try simp only [Int.neg_tdiv] at HR)
  have HRS := Lib.hid hRES
  have HR' := Lib.hid HR
  clear HR hRES
  have HGA := Lib.hid hga
  have gz : ¬ ga = 0 := by omega
  have gne : (ga == 0) = false := by rw [beq_eq_false_iff_ne]; omega
  clear hga
  obtain ⟨w1, hw1⟩ : ∃ w1, w1 = w.alloc (.cells #[.int .i64 0, .int .i64 0] 47) := ⟨_, rfl⟩
  have mr : QBox w1 w.heap.size (0, 0) := by rw [hw1]; exact QBox.new_ _ (0, 0) _ rfl
  have g01 : Grows w w1 := by rw [hw1]; ((repeat' (first | with_reducible exact Below.refl _ _ | with_reducible assumption | (with_reducible refine Below.setCell ?_ ?_ _) | (with_reducible refine Below.alloc ?_ ?_ _) | (with_reducible refine Below.drew ?_) | (with_reducible refine below_drewN ?_ _))); all_goals (first | omega | (simp; done) | (simp; omega) | (simp [*]; done) | (simp at *; omega)))
  have HW1 := Lib.hid hw1
  clear hw1
  go_enter Try.func131, Try.ntmps131
  go_wp2_with fail
  go_loopw [5, 6] (fun x y wr => ∃ (p q : Int), x = .int .i64 p ∧ y = .int .i64 q ∧ gcdI p q = ga ∧ -4611686018427387904 ≤ p ∧ p ≤ 4611686018427387904 ∧ -4611686018427387904 ≤ q ∧ q ≤ 4611686018427387904 ∧ Grows w1 wr) (fun _ y _ => (intOf y).natAbs)
  case atStart => exact ⟨_, _, rfl, rfl, HGA.out, by omega, by omega, by omega, by omega, by rw [← HW1.out]; ((repeat' (first | with_reducible exact Below.refl _ _ | with_reducible assumption | (with_reducible refine Below.setCell ?_ ?_ _) | (with_reducible refine Below.alloc ?_ ?_ _) | (with_reducible refine Below.drew ?_) | (with_reducible refine below_drewN ?_ _))); all_goals (first | omega | (simp; done) | (simp; omega) | (simp [*]; done) | (simp at *; omega)))⟩
  case round =>
    obtain ⟨p, q, rfl, rfl, hgg, h1, h2, h3, h4, hgr⟩ := hrel
    have HG := Lib.hid hgg
    clear hgg
    by_cases hq : q = 0
    · subst hq
      have HL := fun W => l1Abs_c p W (by omega) (by omega)
      rw [show absI p = ga by rw [← gcdI_zero]; exact HG.out] at HL
      have HL' := Lib.hid HL
      clear HL
      go_wp2_with (go_at_call 96; refine (HL'.out _).mono ?_; rintro e w' ⟨rfl, rfl⟩)
      go_region_held3 (fun _ => True) (trivial) (fail)
      all_goals
        go_wp2_with fail
        refine (HR'.out _).mono ?_; rintro e w3 ⟨rfl, g3⟩
        have zr := mr.grows (w' := w3) (by (have bz0 := Below.size (g3); (try simp at bz0); have bz1 := Below.size (hgr); (try simp at bz1); (repeat' (first | with_reducible exact Below.refl _ _ | with_reducible assumption | (with_reducible refine Below.setCell ?_ ?_ _) | (with_reducible refine Below.alloc ?_ ?_ _) | (with_reducible refine Below.drew ?_) | (with_reducible refine below_drewN ?_ _) | (with_reducible refine Below.trans ?_ (Below.mono (g3) ?_)) | (with_reducible refine Below.trans ?_ (Below.mono (hgr) ?_)))); all_goals (first | omega | (simp; done) | (simp; omega) | (simp [*]; done) | (simp at *; omega))))
        have zrl := zr.lt
        have zrf := zr.fz
        have zn := (QBox.new_ wr ((-n.tdiv ga), (-d.tdiv ga)) 47 rfl).grows (w' := w3) (by (have bz0 := Below.size (g3); (try simp at bz0); (repeat' (first | with_reducible exact Below.refl _ _ | with_reducible assumption | (with_reducible refine Below.setCell ?_ ?_ _) | (with_reducible refine Below.alloc ?_ ?_ _) | (with_reducible refine Below.drew ?_) | (with_reducible refine below_drewN ?_ _) | (with_reducible refine Below.trans ?_ (Below.mono (g3) ?_)))); all_goals (first | omega | (simp; done) | (simp; omega) | (simp [*]; done) | (simp at *; omega))))
        obtain ⟨zn0, zn1⟩ := zn.cells
        obtain ⟨zr0, zr1⟩ := zr.cells
        cases ok
        · go_wp2_with fail
          refine bodyPost_ret (v := .agg #[.int .i64 0, .int .i64 0]) ?_ rfl ?_
          · simp [results, Try.results131, go_sem, zr0, zr1]
          · exact ⟨by rw [HRS.out]; rfl, by (have bz0 := Below.size (g3); (try simp at bz0); have bz1 := Below.size (hgr); (try simp at bz1); have bz2 := Below.size (g01); (try simp at bz2); (repeat' (first | with_reducible exact Below.refl _ _ | with_reducible assumption | (with_reducible refine Below.setCell ?_ ?_ _) | (with_reducible refine Below.alloc ?_ ?_ _) | (with_reducible refine Below.drew ?_) | (with_reducible refine below_drewN ?_ _) | (with_reducible refine Below.trans ?_ (Below.mono (g3) ?_)) | (with_reducible refine Below.trans ?_ (Below.mono (hgr) ?_)) | (with_reducible refine Below.trans ?_ (Below.mono (g01) ?_)))); all_goals (first | omega | (simp; done) | (simp; omega) | (simp [*]; done) | (simp at *; omega)))⟩
        · go_wp2_with fail
          refine bodyPost_ret (v := .agg #[.int .i64 (-n.tdiv ga), .int .i64 (-d.tdiv ga)]) ?_ rfl ?_
          · simp [results, Try.results131, go_sem, zr0, zr1]
          · exact ⟨by rw [HRS.out]; rfl, by (have bz0 := Below.size (g3); (try simp at bz0); have bz1 := Below.size (hgr); (try simp at bz1); have bz2 := Below.size (g01); (try simp at bz2); (repeat' (first | with_reducible exact Below.refl _ _ | with_reducible assumption | (with_reducible refine Below.setCell ?_ ?_ _) | (with_reducible refine Below.alloc ?_ ?_ _) | (with_reducible refine Below.drew ?_) | (with_reducible refine below_drewN ?_ _) | (with_reducible refine Below.trans ?_ (Below.mono (g3) ?_)) | (with_reducible refine Below.trans ?_ (Below.mono (hgr) ?_)) | (with_reducible refine Below.trans ?_ (Below.mono (g01) ?_)))); all_goals (first | omega | (simp; done) | (simp; omega) | (simp [*]; done) | (simp at *; omega)))⟩
    · have hq' : (q != 0) = true := by simpa using hq
      have hq2 : (q == 0) = false := by simpa using hq
      have hm := tmod_natAbs_lt p hq
      have HB := Lib.hid (show -4611686018427387904 ≤ p.tmod q ∧ p.tmod q ≤ 4611686018427387904 by omega)
      have HM := Lib.hid hm
      clear hm
      have HS := Lib.hid (gcdI_step p q)
      go_wp2_with fail
      go_quiet (fail)
      go_wp2_with fail
      go_round
      case rel => exact ⟨q, p.tmod q, rfl, rfl, by rw [HS.out, HG.out], by omega, by omega, HB.out.1, HB.out.2, by (have bz0 := Below.size (hgr); (try simp at bz0); (repeat' (first | with_reducible exact Below.refl _ _ | with_reducible assumption | (with_reducible refine Below.setCell ?_ ?_ _) | (with_reducible refine Below.alloc ?_ ?_ _) | (with_reducible refine Below.drew ?_) | (with_reducible refine below_drewN ?_ _) | (with_reducible refine Below.trans ?_ (Below.mono (hgr) ?_)))); all_goals (first | omega | (simp; done) | (simp; omega) | (simp [*]; done) | (simp at *; omega)))⟩
      case measure => have := HM.out; simpa [intOf] using this
theorem l2Make_pos (n d : Int) (w : World) (hd : 0 < d) (hn1 : -1000000000000000000 ≤ n) (hn2 : n ≤ 1000000000000000000) (hd1 : d ≤ 1000000000000000000) :
    Calls Try.prog 131 #[.int .i64 n, .int .i64 d] w (QRet (keepQ (n.tdiv (gcdI n d)) (d.tdiv (gcdI n d))) w) := by
  have hg : 0 < gcdI (n) (d) := gcdI_pos (by omega)
  have hgle : gcdI (n) (d) ≤ 1000000000000000000 := by
    have : (Int.gcd (n) (d) : Int) ≤ ((d).natAbs : Int) := Int.ofNat_le.2 (Int.gcd_le_natAbs_right (n) (by omega))
    unfold gcdI; omega
  have b1 := tdiv_le (n) hg
  have b2 := tdiv_le (d) hg
  have a1 : -1000000000000000000 ≤ (n).tdiv (gcdI (n) (d)) ∧ (n).tdiv (gcdI (n) (d)) ≤ 1000000000000000000 := by omega
  have a2 : -1000000000000000000 ≤ (d).tdiv (gcdI (n) (d)) ∧ (d).tdiv (gcdI (n) (d)) ≤ 1000000000000000000 := by omega
  obtain ⟨a11, a12⟩ := a1
  obtain ⟨a21, a22⟩ := a2
  have dne : (d == 0) = false := by rw [beq_eq_false_iff_ne]; omega
  clear b1 b2
  obtain ⟨RES, hRES⟩ : ∃ x, x = keepQ ((n).tdiv (gcdI (n) (d))) ((d).tdiv (gcdI (n) (d))) := ⟨_, rfl⟩
  rw [← hRES]
  unfold keepQ at hRES
  have HR := fun W => sIsRatio_c ((n).tdiv (gcdI (n) (d))) ((d).tdiv (gcdI (n) (d))) W
  generalize isRat ((n).tdiv (gcdI (n) (d))) ((d).tdiv (gcdI (n) (d))) = ok at *
  generalize hga : gcdI (n) (d) = ga at *
  (try rw [Int.neg_tdiv] at a11); (try rw [Int.neg_tdiv] at a12); (try rw [Int.neg_tdiv] at a21); (try rw [Int.neg_tdiv] at a22)
  (try rw [Int.neg_tdiv, Int.neg_tdiv] at hRES)
  (try simp only [Int.neg_tdiv] at HR)
  have HRS := Lib.hid hRES
  have HR' := Lib.hid HR
  clear HR hRES
  have HGA := Lib.hid hga
  have gz : ¬ ga = 0 := by omega
  have gne : (ga == 0) = false := by rw [beq_eq_false_iff_ne]; omega
  clear hga
  obtain ⟨w1, hw1⟩ : ∃ w1, w1 = w.alloc (.cells #[.int .i64 0, .int .i64 0] 47) := ⟨_, rfl⟩
  have mr : QBox w1 w.heap.size (0, 0) := by rw [hw1]; exact QBox.new_ _ (0, 0) _ rfl
  have g01 : Grows w w1 := by rw [hw1]; ((repeat' (first | with_reducible exact Below.refl _ _ | with_reducible assumption | (with_reducible refine Below.setCell ?_ ?_ _) | (with_reducible refine Below.alloc ?_ ?_ _) | (with_reducible refine Below.drew ?_) | (with_reducible refine below_drewN ?_ _))); all_goals (first | omega | (simp; done) | (simp; omega) | (simp [*]; done) | (simp at *; omega)))
  have HW1 := Lib.hid hw1
  clear hw1
  go_enter Try.func131, Try.ntmps131
  go_wp2_with fail
  go_loopw [5, 6] (fun x y wr => ∃ (p q : Int), x = .int .i64 p ∧ y = .int .i64 q ∧ gcdI p q = ga ∧ -4611686018427387904 ≤ p ∧ p ≤ 4611686018427387904 ∧ -4611686018427387904 ≤ q ∧ q ≤ 4611686018427387904 ∧ Grows w1 wr) (fun _ y _ => (intOf y).natAbs)
  case atStart => exact ⟨_, _, rfl, rfl, HGA.out, by omega, by omega, by omega, by omega, by rw [← HW1.out]; ((repeat' (first | with_reducible exact Below.refl _ _ | with_reducible assumption | (with_reducible refine Below.setCell ?_ ?_ _) | (with_reducible refine Below.alloc ?_ ?_ _) | (with_reducible refine Below.drew ?_) | (with_reducible refine below_drewN ?_ _))); all_goals (first | omega | (simp; done) | (simp; omega) | (simp [*]; done) | (simp at *; omega)))⟩
  case round =>
    obtain ⟨p, q, rfl, rfl, hgg, h1, h2, h3, h4, hgr⟩ := hrel
    have HG := Lib.hid hgg
    clear hgg
    by_cases hq : q = 0
    · subst hq
      have HL := fun W => l1Abs_c p W (by omega) (by omega)
      rw [show absI p = ga by rw [← gcdI_zero]; exact HG.out] at HL
      have HL' := Lib.hid HL
      clear HL
      go_wp2_with (go_at_call 96; refine (HL'.out _).mono ?_; rintro e w' ⟨rfl, rfl⟩)
      go_region_held3 (fun _ => True) (trivial) (fail)
      all_goals
        go_wp2_with fail
        refine (HR'.out _).mono ?_; rintro e w3 ⟨rfl, g3⟩
        have zr := mr.grows (w' := w3) (by (have bz0 := Below.size (g3); (try simp at bz0); have bz1 := Below.size (hgr); (try simp at bz1); (repeat' (first | with_reducible exact Below.refl _ _ | with_reducible assumption | (with_reducible refine Below.setCell ?_ ?_ _) | (with_reducible refine Below.alloc ?_ ?_ _) | (with_reducible refine Below.drew ?_) | (with_reducible refine below_drewN ?_ _) | (with_reducible refine Below.trans ?_ (Below.mono (g3) ?_)) | (with_reducible refine Below.trans ?_ (Below.mono (hgr) ?_)))); all_goals (first | omega | (simp; done) | (simp; omega) | (simp [*]; done) | (simp at *; omega))))
        have zrl := zr.lt
        have zrf := zr.fz
        have zn := (QBox.new_ wr ((n.tdiv ga), (d.tdiv ga)) 47 rfl).grows (w' := w3) (by (have bz0 := Below.size (g3); (try simp at bz0); (repeat' (first | with_reducible exact Below.refl _ _ | with_reducible assumption | (with_reducible refine Below.setCell ?_ ?_ _) | (with_reducible refine Below.alloc ?_ ?_ _) | (with_reducible refine Below.drew ?_) | (with_reducible refine below_drewN ?_ _) | (with_reducible refine Below.trans ?_ (Below.mono (g3) ?_)))); all_goals (first | omega | (simp; done) | (simp; omega) | (simp [*]; done) | (simp at *; omega))))
        obtain ⟨zn0, zn1⟩ := zn.cells
        obtain ⟨zr0, zr1⟩ := zr.cells
        cases ok
        · go_wp2_with fail
          refine bodyPost_ret (v := .agg #[.int .i64 0, .int .i64 0]) ?_ rfl ?_
          · simp [results, Try.results131, go_sem, zr0, zr1]
          · exact ⟨by rw [HRS.out]; rfl, by (have bz0 := Below.size (g3); (try simp at bz0); have bz1 := Below.size (hgr); (try simp at bz1); have bz2 := Below.size (g01); (try simp at bz2); (repeat' (first | with_reducible exact Below.refl _ _ | with_reducible assumption | (with_reducible refine Below.setCell ?_ ?_ _) | (with_reducible refine Below.alloc ?_ ?_ _) | (with_reducible refine Below.drew ?_) | (with_reducible refine below_drewN ?_ _) | (with_reducible refine Below.trans ?_ (Below.mono (g3) ?_)) | (with_reducible refine Below.trans ?_ (Below.mono (hgr) ?_)) | (with_reducible refine Below.trans ?_ (Below.mono (g01) ?_)))); all_goals (first | omega | (simp; done) | (simp; omega) | (simp [*]; done) | (simp at *; omega)))⟩
        · go_wp2_with fail
          refine bodyPost_ret (v := .agg #[.int .i64 (n.tdiv ga), .int .i64 (d.tdiv ga)]) ?_ rfl ?_
          · simp [results, Try.results131, go_sem, zr0, zr1]
          · exact ⟨by rw [HRS.out]; rfl, by (have bz0 := Below.size (g3); (try simp at bz0); have bz1 := Below.size (hgr); (try simp at bz1); have bz2 := Below.size (g01); (try simp at bz2); (repeat' (first | with_reducible exact Below.refl _ _ | with_reducible assumption | (with_reducible refine Below.setCell ?_ ?_ _) | (with_reducible refine Below.alloc ?_ ?_ _) | (with_reducible refine Below.drew ?_) | (with_reducible refine below_drewN ?_ _) | (with_reducible refine Below.trans ?_ (Below.mono (g3) ?_)) | (with_reducible refine Below.trans ?_ (Below.mono (hgr) ?_)) | (with_reducible refine Below.trans ?_ (Below.mono (g01) ?_)))); all_goals (first | omega | (simp; done) | (simp; omega) | (simp [*]; done) | (simp at *; omega)))⟩
    · have hq' : (q != 0) = true := by simpa using hq
      have hq2 : (q == 0) = false := by simpa using hq
      have hm := tmod_natAbs_lt p hq
      have HB := Lib.hid (show -4611686018427387904 ≤ p.tmod q ∧ p.tmod q ≤ 4611686018427387904 by omega)
      have HM := Lib.hid hm
      clear hm
      have HS := Lib.hid (gcdI_step p q)
      go_wp2_with fail
      go_quiet (fail)
      go_wp2_with fail
      go_round
      case rel => exact ⟨q, p.tmod q, rfl, rfl, by rw [HS.out, HG.out], by omega, by omega, HB.out.1, HB.out.2, by (have bz0 := Below.size (hgr); (try simp at bz0); (repeat' (first | with_reducible exact Below.refl _ _ | with_reducible assumption | (with_reducible refine Below.setCell ?_ ?_ _) | (with_reducible refine Below.alloc ?_ ?_ _) | (with_reducible refine Below.drew ?_) | (with_reducible refine below_drewN ?_ _) | (with_reducible refine Below.trans ?_ (Below.mono (hgr) ?_)))); all_goals (first | omega | (simp; done) | (simp; omega) | (simp [*]; done) | (simp at *; omega)))⟩
      case measure => have := HM.out; simpa [intOf] using this
theorem l2Make_zero (n : Int) (w : World) : Calls Try.prog 131 #[.int .i64 n, .int .i64 0] w (QRet (0, 0) w) := by
  have mr := QBox.new_ w (0, 0) 47 rfl
  obtain ⟨zr0, zr1⟩ := mr.cells
  go_enter Try.func131, Try.ntmps131
  go_wp2_with fail
  refine bodyPost_ret (v := .agg #[.int .i64 0, .int .i64 0]) ?_ rfl ?_
  · simp [results, Try.results131, go_sem]
  · exact ⟨rfl, by ((repeat' (first | with_reducible exact Below.refl _ _ | with_reducible assumption | (with_reducible refine Below.setCell ?_ ?_ _) | (with_reducible refine Below.alloc ?_ ?_ _) | (with_reducible refine Below.drew ?_) | (with_reducible refine below_drewN ?_ _))); all_goals (first | omega | (simp; done) | (simp; omega) | (simp [*]; done) | (simp at *; omega)))⟩
theorem l2Make_c (n d : Int) (w : World) (hn1 : -1000000000000000000 ≤ n) (hn2 : n ≤ 1000000000000000000) (hd1 : -1000000000000000000 ≤ d) (hd2 : d ≤ 1000000000000000000) :
    Calls Try.prog 131 #[.int .i64 n, .int .i64 d] w (QRet (mkQ n d) w) := by
  rcases Int.lt_trichotomy d 0 with h | h | h
  · rw [mkQ_neg h, ← gcdI_neg n d]
    exact l2Make_neg n d w h hn1 hn2 hd1
  · subst h
    exact l2Make_zero n w
  · rw [mkQ_pos h]
    exact l2Make_pos n d w h hn1 hn2 hd2
end
end Go.Proofs.Ytpfijhcjempfjaa
