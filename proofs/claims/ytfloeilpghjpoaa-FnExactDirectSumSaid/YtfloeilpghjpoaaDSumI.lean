/- Contracts: DirectSum, the program's. -/
import Derived.Test.YtfloeilpghjpoaaDSum
namespace Go.Proofs.Ytfloeilpghjpoaa
open Go.RowKit

section
set_option maxHeartbeats 2000000
theorem iDs_yes (N R R' : Nat) (hN : N = R + R') (A B : Option Addr) (a b : List Int) (n m ca cb : Nat) (w : World) (hn : a.length = n) (hm : b.length = m) (ha : Rd w A a) (hb : Rd w B b) (h1 : isGram R R a = true) (h2 : isGram R' R' b = true) (h3 : N ≤ 6) :
    Calls Try.prog 44 #[.agg #[.int .i64 R, .int .i64 R, .slice A n ca], .agg #[.int .i64 R', .int .i64 R', .slice B m cb]] w fun e w' =>
      ∃ v, e = .returned (.tuple #[.agg #[.int .i64 N, .int .i64 N, v], .bool true]) ∧ Own w' w.heap.size v (tab N N (dsF R R' a b)) ∧ Grows w w' := by
  subst hn
  subst hm
  obtain ⟨_, R1, e1, _, hR, la, _⟩ := isSq_nat (isGram_sq h1)
  obtain rfl : R = R1 := by omega
  obtain ⟨_, R1, e2, _, hR', lb, _⟩ := isSq_nat (isGram_sq h2)
  obtain rfl : R' = R1 := by omega
  have hRR : R * R ≤ 36 := Nat.mul_le_mul hR hR
  have hRR' : R' * R' ≤ 36 := Nat.mul_le_mul hR' hR'
  have hNN : N * N ≤ 36 := Nat.mul_le_mul h3 h3
  have C1 := fun W h => iIsGram_c R R A a a.length ca W rfl h (by omega)
  have C2 := fun W h => iIsGram_c R' R' B b b.length cb W rfl h (by omega)
  rw [h1] at C1
  rw [h2] at C2
  have HC1 := Lib.hid C1
  have HC2 := Lib.hid C2
  have HLA := Lib.hid la
  have HLB := Lib.hid lb
  have HNN := Lib.hid hN
  have HA := Lib.hid (rd_bound ha)
  have HB := Lib.hid (rd_bound hb)
  have e3 : IntKind.i64.wrap ((R : Int) + (R' : Int)) = (N : Int) := by rw [show (R : Int) + (R' : Int) = (N : Int) by omega]; exact IntWalk.i64_in _ (by omega)
  have hle : R ≤ N := by omega
  have e4 : ¬ ((6 : Int) < (N : Int)) := by omega
  clear C1 C2 h1 h2 la lb e1 e2 hN
  go_enter Try.func44, Try.ntmps44
  go_wp2_with fail
  refine (HC1.out _ (by exact (Rd.grows ha (by ((repeat' (first | with_reducible exact Below.refl _ _ | with_reducible assumption | (with_reducible refine Below.setCell ?_ ?_ _) | (with_reducible refine Below.alloc ?_ ?_ _) | (with_reducible refine Below.drew ?_) | (with_reducible refine below_drewN ?_ _))); all_goals (first | omega | (simp; done) | (simp; omega) | (simp [*]; done) | (simp at *; omega))))))).mono ?_; rintro e v1 ⟨rfl, g1⟩
  have z1 := Below.size g1; simp at z1
  have mb0 : MBox v1 w.heap.size R R (.slice A a.length ca) := (MBox.mk_ w R R (.slice A a.length ca) 40).grows (by (have bz0 := Below.size (g1); (try simp at bz0); (repeat' (first | with_reducible exact Below.refl _ _ | with_reducible assumption | (with_reducible refine Below.setCell ?_ ?_ _) | (with_reducible refine Below.alloc ?_ ?_ _) | (with_reducible refine Below.drew ?_) | (with_reducible refine below_drewN ?_ _) | (with_reducible refine Below.trans ?_ (Below.mono (g1) ?_)))); all_goals (first | omega | (simp; done) | (simp; omega) | (simp [*]; done) | (simp at *; omega))))
  have mb1 : MBox v1 (w.heap.size + 1) R' R' (.slice B b.length cb) := by have := (MBox.mk_ (w.alloc (.cells #[.int .i64 R, .int .i64 R, .slice A a.length ca] 40)) R' R' (.slice B b.length cb) 40).grows (w' := v1) (by (have bz0 := Below.size (g1); (try simp at bz0); (repeat' (first | with_reducible exact Below.refl _ _ | with_reducible assumption | (with_reducible refine Below.setCell ?_ ?_ _) | (with_reducible refine Below.alloc ?_ ?_ _) | (with_reducible refine Below.drew ?_) | (with_reducible refine below_drewN ?_ _) | (with_reducible refine Below.trans ?_ (Below.mono (g1) ?_)))); all_goals (first | omega | (simp; done) | (simp; omega) | (simp [*]; done) | (simp at *; omega)))); simpa using this
  have rb : MBox v1 (w.heap.size + 2) 0 0 (.slice none 0 0) := by have := (MBox.mk_ ((w.alloc (.cells #[.int .i64 R, .int .i64 R, .slice A a.length ca] 40)).alloc (.cells #[.int .i64 R', .int .i64 R', .slice B b.length cb] 40)) 0 0 (.slice none 0 0) 40).grows (w' := v1) (by (have bz0 := Below.size (g1); (try simp at bz0); (repeat' (first | with_reducible exact Below.refl _ _ | with_reducible assumption | (with_reducible refine Below.setCell ?_ ?_ _) | (with_reducible refine Below.alloc ?_ ?_ _) | (with_reducible refine Below.drew ?_) | (with_reducible refine below_drewN ?_ _) | (with_reducible refine Below.trans ?_ (Below.mono (g1) ?_)))); all_goals (first | omega | (simp; done) | (simp; omega) | (simp [*]; done) | (simp at *; omega)))); simpa using this
  have rda : Rd v1 A a := (Rd.grows ha (by (have bz0 := Below.size (g1); (try simp at bz0); (repeat' (first | with_reducible exact Below.refl _ _ | with_reducible assumption | (with_reducible refine Below.setCell ?_ ?_ _) | (with_reducible refine Below.alloc ?_ ?_ _) | (with_reducible refine Below.drew ?_) | (with_reducible refine below_drewN ?_ _) | (with_reducible refine Below.trans ?_ (Below.mono (g1) ?_)))); all_goals (first | omega | (simp; done) | (simp; omega) | (simp [*]; done) | (simp at *; omega)))))
  have rdb : Rd v1 B b := (Rd.grows hb (by (have bz0 := Below.size (g1); (try simp at bz0); (repeat' (first | with_reducible exact Below.refl _ _ | with_reducible assumption | (with_reducible refine Below.setCell ?_ ?_ _) | (with_reducible refine Below.alloc ?_ ?_ _) | (with_reducible refine Below.drew ?_) | (with_reducible refine below_drewN ?_ _) | (with_reducible refine Below.trans ?_ (Below.mono (g1) ?_)))); all_goals (first | omega | (simp; done) | (simp; omega) | (simp [*]; done) | (simp at *; omega)))))
  have gw : Grows w v1 := by (have bz0 := Below.size (g1); (try simp at bz0); (repeat' (first | with_reducible exact Below.refl _ _ | with_reducible assumption | (with_reducible refine Below.setCell ?_ ?_ _) | (with_reducible refine Below.alloc ?_ ?_ _) | (with_reducible refine Below.drew ?_) | (with_reducible refine below_drewN ?_ _) | (with_reducible refine Below.trans ?_ (Below.mono (g1) ?_)))); all_goals (first | omega | (simp; done) | (simp; omega) | (simp [*]; done) | (simp at *; omega)))
  clear g1 ha hb
  obtain ⟨b00, b01, b02⟩ := mb0.cells
  obtain ⟨b10, b11, b12⟩ := mb1.cells
  go_wp2_with fail
  refine (HC2.out _ (by exact (Rd.grows rdb (by ((repeat' (first | with_reducible exact Below.refl _ _ | with_reducible assumption | (with_reducible refine Below.setCell ?_ ?_ _) | (with_reducible refine Below.alloc ?_ ?_ _) | (with_reducible refine Below.drew ?_) | (with_reducible refine below_drewN ?_ _))); all_goals (first | omega | (simp; done) | (simp; omega) | (simp [*]; done) | (simp at *; omega))))))).mono ?_; rintro e v2 ⟨rfl, g1⟩
  have z2 := Below.size g1
  replace mb0 := mb0.grows g1
  replace mb1 := mb1.grows g1
  replace rb := rb.grows g1
  replace rda := rda.grows g1
  replace rdb := rdb.grows g1
  replace gw : Grows w v2 := Grows.trans gw g1
  clear g1 b00 b01 b02 b10 b11 b12
  obtain ⟨b00, b01, b02⟩ := mb0.cells
  obtain ⟨b10, b11, b12⟩ := mb1.cells
  go_wp2_with fail
  refine (newMatrix_c N N _ (by omega)).mono ?_; rintro e w2 ⟨g, rfl, ho, g2⟩
  obtain ⟨ho1, ho2⟩ := ho.lt
  have z3 := Below.size g2
  replace mb0 := mb0.grows g2
  replace mb1 := mb1.grows g2
  replace rb := rb.grows g2
  replace rda := rda.grows g2
  replace rdb := rdb.grows g2
  replace gw : Grows w w2 := Grows.trans gw g2
  replace ho := ho.less (show w.heap.size ≤ _ by omega)
  rw [U_zero N (dsF R R' a b)] at ho
  have lo : w.heap.size + 2 < g := by omega
  clear g2 ho1 z1 z2 z3 b00 b01 b02 b10 b11 b12
  obtain ⟨b00, b01, b02⟩ := mb0.cells
  obtain ⟨b10, b11, b12⟩ := mb1.cells
  go_wp2_with fail
  go_loopw [8] (fun i wr => ∃ (I : Nat), i = .int .i64 I ∧ I ≤ N ∧ Own wr w.heap.size (.slice (some ⟨g, 0, none⟩) (N * N) (N * N)) (U N (dsF R R' a b) I 0) ∧ Rd wr A a ∧ Rd wr B b ∧ Grows w wr ∧ MBox wr w.heap.size R R (.slice A a.length ca) ∧ MBox wr (w.heap.size + 1) R' R' (.slice B b.length cb) ∧ MBox wr (w.heap.size + 2) 0 0 (.slice none 0 0) ∧ MBox wr w2.heap.size N N (.slice (some ⟨g, 0, none⟩) (N * N) (N * N))) (fun i _ => N - (intOf i).toNat)
  case atStart => exact ⟨0, rfl, Nat.zero_le _, ho.alloc _, rda.alloc _, rdb.alloc _, by (have bz0 := Below.size (gw); (try simp at bz0); (repeat' (first | with_reducible exact Below.refl _ _ | with_reducible assumption | (with_reducible refine Below.setCell ?_ ?_ _) | (with_reducible refine Below.alloc ?_ ?_ _) | (with_reducible refine Below.drew ?_) | (with_reducible refine below_drewN ?_ _) | (with_reducible refine Below.trans ?_ (Below.mono (gw) ?_)))); all_goals (first | omega | (simp; done) | (simp; omega) | (simp [*]; done) | (simp at *; omega))), mb0.grows (by ((repeat' (first | with_reducible exact Below.refl _ _ | with_reducible assumption | (with_reducible refine Below.setCell ?_ ?_ _) | (with_reducible refine Below.alloc ?_ ?_ _) | (with_reducible refine Below.drew ?_) | (with_reducible refine below_drewN ?_ _))); all_goals (first | omega | (simp; done) | (simp; omega) | (simp [*]; done) | (simp at *; omega)))), mb1.grows (by ((repeat' (first | with_reducible exact Below.refl _ _ | with_reducible assumption | (with_reducible refine Below.setCell ?_ ?_ _) | (with_reducible refine Below.alloc ?_ ?_ _) | (with_reducible refine Below.drew ?_) | (with_reducible refine below_drewN ?_ _))); all_goals (first | omega | (simp; done) | (simp; omega) | (simp [*]; done) | (simp at *; omega)))), rb.grows (by ((repeat' (first | with_reducible exact Below.refl _ _ | with_reducible assumption | (with_reducible refine Below.setCell ?_ ?_ _) | (with_reducible refine Below.alloc ?_ ?_ _) | (with_reducible refine Below.drew ?_) | (with_reducible refine below_drewN ?_ _))); all_goals (first | omega | (simp; done) | (simp; omega) | (simp [*]; done) | (simp at *; omega)))), MBox.mk_ _ _ _ _ _⟩
  case round =>
    clear mb0 mb1 rb rda rdb gw ho b00 b01 b02 b10 b11 b12
    obtain ⟨I, rfl, hI, how, hra, hrb, hgr, hm0, hm1, hrr, hmo⟩ := hrel
    obtain ⟨o0, o1, o2⟩ := hmo.cells
    by_cases hlt : I < N
    · go_wp2_with fail
      obtain ⟨wo, rfl⟩ : ∃ wo : World, wo = wr := ⟨_, rfl⟩
      go_loopw [9] (fun j wr => ∃ (J : Nat), j = .int .i64 J ∧ J ≤ N ∧ Own wr w.heap.size (.slice (some ⟨g, 0, none⟩) (N * N) (N * N)) (U N (dsF R R' a b) I J) ∧ Rd wr A a ∧ Rd wr B b ∧ Grows w wr ∧ MBox wr w.heap.size R R (.slice A a.length ca) ∧ MBox wr (w.heap.size + 1) R' R' (.slice B b.length cb) ∧ MBox wr (w.heap.size + 2) 0 0 (.slice none 0 0) ∧ MBox wr w2.heap.size N N (.slice (some ⟨g, 0, none⟩) (N * N) (N * N))) (fun j _ => N - (intOf j).toNat)
      case atStart => exact ⟨0, rfl, Nat.zero_le _, how, hra, hrb, hgr, hm0, hm1, hrr, hmo⟩
      case round =>
        clear o0 o1 o2 how hra hrb hgr hm0 hm1 hrr hmo
        obtain ⟨J, rfl, hJ, how, hra, hrb, hgr, hm0, hm1, hrr, hmo⟩ := hrel
        by_cases hlt2 : J < N
        · have hi1 : I * N ≤ 36 := by have := Nat.mul_le_mul (Nat.le_of_lt hlt) (Nat.le_refl N); omega
          have hi2 : I * N + J < N * N := idx_lt hlt hlt2
          by_cases hIR : I < R
          · by_cases hJR : J < R
            · obtain ⟨o0, o1, o2⟩ := hmo.cells
              go_wp2_with fail
              clear o0 o1 o2
              obtain ⟨x0, x1, x2⟩ := hm0.ext
              obtain ⟨y0, y1, y2⟩ := hmo.ext
              have i1 := castMul I R
              have i2 : (I : Int) * (R : Int) ≤ ((1048576 : Nat) : Int) := castMulLe (by have := Nat.mul_le_mul (Nat.le_of_lt hIR) (Nat.le_refl R); omega)
              have i3 := castPos I R J
              have i4 : (I : Int) * (R : Int) + (J : Int) < (a.length : Int) := castLt (by rw [HLA.out]; exact idx_lt hIR hJR)
              ((refine wp_region_tail 7 (by kernel_rfl) (by kernel_rfl) ?_; simp only [List.take_succ_cons, List.take_zero, List.drop_succ_cons, List.drop_zero]); (repeat (go_big_quiet_step ((go_at_call 66; exact extC (at_c R R A a a.length ca I J _ rfl (Rd.ext hra _) (by omega) (by omega) (by omega) (by omega) (by have := HLA.out; omega)))))); refine wpQuiet_nil ?_; rintro w3 ⟨w30, hw30⟩; have g3 := grows_of_ext hw30; clear hw30 w30)
              go_wp2_with fail
              refine (set_c N N g (N * N) (N * N) w.heap.size _ I J _ w3 (U_length _ _ _ _) (how.grows g3) (by omega) hi2 (by omega)).mono ?_; rintro e w4 ⟨rfl, ho4, gb⟩
              have hs3 := Below.size hgr
              have hs4 := Below.size g3
              obtain ⟨o0, o1, o2⟩ := ((hmo.grows g3).only gb (by omega)).cells
              go_wp2_with fail
              go_round
              case rel =>
                exact ⟨J + 1, by go_num, by omega, by rw [← dsF_a (m := R') (b := b) hIR hJR, U_set hlt hlt2] at ho4; exact ho4, (hra.grows g3).only HA.out gb (by omega), (hrb.grows g3).only HB.out gb (by omega), below_only (Grows.trans hgr g3) gb (by omega) (by omega), (hm0.grows g3).only gb (by omega), (hm1.grows g3).only gb (by omega), (hrr.grows g3).only gb (by omega), (hmo.grows g3).only gb (by omega)⟩
              case measure => simp [intOf]; omega
            · obtain ⟨o0, o1, o2⟩ := hmo.cells
              go_wp2_with fail
              go_round
              case rel => exact ⟨J + 1, by go_num, by omega, by rw [U_skip (dsF_0 (by omega) (by omega))]; exact how, hra, hrb, hgr, hm0, hm1, hrr, hmo⟩
              case measure => simp [intOf]; omega
          · by_cases hJR : J < R
            · obtain ⟨o0, o1, o2⟩ := hmo.cells
              go_wp2_with fail
              go_round
              case rel => exact ⟨J + 1, by go_num, by omega, by rw [U_skip (dsF_0 (by omega) (by omega))]; exact how, hra, hrb, hgr, hm0, hm1, hrr, hmo⟩
              case measure => simp [intOf]; omega
            · obtain ⟨o0, o1, o2⟩ := hmo.cells
              go_wp2_with fail
              clear o0 o1 o2
              obtain ⟨x0, x1, x2⟩ := hm1.ext
              obtain ⟨y0, y1, y2⟩ := hmo.ext
              have hI2 : I - R < R' := by have := HNN.out; omega
              have hJ2 : J - R < R' := by have := HNN.out; omega
              have e5 : IntKind.i64.wrap ((I : Int) - (R : Int)) = ((I - R : Nat) : Int) := by rw [show (I : Int) - (R : Int) = ((I - R : Nat) : Int) by omega]; exact IntWalk.i64_in _ (by omega)
              have e6 : IntKind.i64.wrap ((J : Int) - (R : Int)) = ((J - R : Nat) : Int) := by rw [show (J : Int) - (R : Int) = ((J - R : Nat) : Int) by omega]; exact IntWalk.i64_in _ (by omega)
              have i1 := castMul (I - R) R'
              have i2 : ((I - R : Nat) : Int) * (R' : Int) ≤ ((1048576 : Nat) : Int) := castMulLe (by have := Nat.mul_le_mul (Nat.le_of_lt hI2) (Nat.le_refl R'); omega)
              have i3 := castPos (I - R) R' (J - R)
              have i4 : ((I - R : Nat) : Int) * (R' : Int) + ((J - R : Nat) : Int) < (b.length : Int) := castLt (by rw [HLB.out]; exact idx_lt hI2 hJ2)
              ((refine wp_region_tail 11 (by kernel_rfl) (by kernel_rfl) ?_; simp only [List.take_succ_cons, List.take_zero, List.drop_succ_cons, List.drop_zero]); (repeat (go_big_quiet_step ((go_at_call 66; exact extC (at_c R' R' B b b.length cb (I - R : Nat) (J - R : Nat) _ rfl (Rd.ext hrb _) (by omega) (by omega) (by omega) (by omega) (by have := HLB.out; omega)))))); refine wpQuiet_nil ?_; rintro w3 ⟨w30, hw30⟩; have g3 := grows_of_ext hw30; clear hw30 w30)
              go_wp2_with fail
              refine (set_c N N g (N * N) (N * N) w.heap.size _ I J _ w3 (U_length _ _ _ _) (how.grows g3) (by omega) hi2 (by omega)).mono ?_; rintro e w4 ⟨rfl, ho4, gb⟩
              have hs3 := Below.size hgr
              have hs4 := Below.size g3
              go_wp2_with fail
              go_round
              case rel =>
                exact ⟨J + 1, by go_num, by omega, by rw [← dsF_b (n := R) (m := R') (a := a) (b := b) (i := I) (j := J) (by omega) (by omega), U_set hlt hlt2] at ho4; exact ho4, (hra.grows g3).only HA.out gb (by omega), (hrb.grows g3).only HB.out gb (by omega), below_only (Grows.trans hgr g3) gb (by omega) (by omega), (hm0.grows g3).only gb (by omega), (hm1.grows g3).only gb (by omega), (hrr.grows g3).only gb (by omega), (hmo.grows g3).only gb (by omega)⟩
              case measure => simp [intOf]; omega
        · obtain rfl : J = N := by omega
          obtain ⟨o0, o1, o2⟩ := hmo.cells
          go_wp2_with fail
          go_round
          case rel =>
            exact ⟨I + 1, by go_num, by omega, by rw [U_row] at how; exact how, hra, hrb, hgr, hm0, hm1, hrr, hmo⟩
          case measure => simp [intOf]; omega
    · obtain rfl : I = N := by omega
      rw [U_all] at how
      obtain ⟨r0, r1, r2⟩ := hrr.cells
      have rf := hrr.fz
      go_wp2_with fail
      refine bodyPost_ret (v := .tuple #[.agg #[.int .i64 I, .int .i64 I, .slice (some ⟨g, 0, none⟩) (I * I) (I * I)], .bool true]) ?_ rfl ?_
      · simp [results, Try.results44, go_sem, r0, r1, r2]
      · have hs5 := Below.size hgr
        exact ⟨_, rfl, ((how.far (by intro k hk; simp [Value.ownBlock] at hk; simp; omega) _).far (by intro k hk; simp [Value.ownBlock] at hk; simp; omega) _).far (by intro k hk; simp [Value.ownBlock] at hk; simp; omega) _, by (have bz0 := Below.size (hgr); (try simp at bz0); (repeat' (first | with_reducible exact Below.refl _ _ | with_reducible assumption | (with_reducible refine Below.setCell ?_ ?_ _) | (with_reducible refine Below.alloc ?_ ?_ _) | (with_reducible refine Below.drew ?_) | (with_reducible refine below_drewN ?_ _) | (with_reducible refine Below.trans ?_ (Below.mono (hgr) ?_)))); all_goals (first | omega | (simp; done) | (simp; omega) | (simp [*]; done) | (simp at *; omega)))⟩
end
end Go.Proofs.Ytfloeilpghjpoaa
