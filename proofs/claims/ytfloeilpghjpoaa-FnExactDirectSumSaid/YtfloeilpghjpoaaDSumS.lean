/- Contracts: DirectSum, the reference's. -/
import Derived.Test.YtfloeilpghjpoaaDSum
namespace Go.Proofs.Ytfloeilpghjpoaa
open Go.RowKit

section
set_option maxHeartbeats 2000000
theorem sDs_yes (N R R' : Nat) (hN : N = R + R') (A B : Option Addr) (a b : List Int) (n m ca cb : Nat) (w : World) (hn : a.length = n) (hm : b.length = m) (ha : Rd w A a) (hb : Rd w B b) (h1 : isGram R R a = true) (h2 : isGram R' R' b = true) (h3 : N ≤ 6) :
    Calls Try.prog 43 #[.agg #[.int .i64 R, .int .i64 R, .slice A n ca], .agg #[.int .i64 R', .int .i64 R', .slice B m cb]] w fun e w' =>
      ∃ v, e = .returned (.tuple #[.agg #[.int .i64 N, .int .i64 N, v], .bool true]) ∧ Own w' w.heap.size v (tab N N (dsF R R' a b)) ∧ Grows w w' := by
  subst hn
  subst hm
  obtain ⟨_, R1, e1, _, hR, la, _⟩ := isSq_nat (isGram_sq h1)
  obtain rfl : R = R1 := by omega
  obtain ⟨_, R1, e2, _, hR', lb, _⟩ := isSq_nat (isGram_sq h2)
  obtain rfl : R' = R1 := by omega
  have hRR : R * R ≤ 36 := Nat.mul_le_mul hR hR
  have hRR' : R' * R' ≤ 36 := Nat.mul_le_mul hR' hR'
  have hNN : N * N ≤ 36 := Nat.mul_le_mul h3 h3
  have C1 := fun W h => sIsGram_c R R A a a.length ca W rfl h (by omega)
  have C2 := fun W h => sIsGram_c R' R' B b b.length cb W rfl h (by omega)
  rw [h1] at C1
  rw [h2] at C2
  have HC1 := Lib.hid C1
  have HC2 := Lib.hid C2
  have HLA := Lib.hid la
  have HLB := Lib.hid lb
  have HNN := Lib.hid hN
  have HA := Lib.hid (rd_bound ha)
  have HB := Lib.hid (rd_bound hb)
  have e3 : IntKind.i64.wrap ((R : Int) + (R' : Int)) = (N : Int) := by rw [show (R : Int) + (R' : Int) = (N : Int) by omega]; exact IntWalk.i64_in _ (by omega)
  have hle : R ≤ N := by omega
  have e4 : ¬ ((6 : Int) < (N : Int)) := by omega
  clear C1 C2 h1 h2 la lb e1 e2 hN
  go_enter Try.func43, Try.ntmps43
  go_wp2_with fail
  refine (HC1.out _ (by exact (Rd.grows ha (by ((repeat' (first | with_reducible exact Below.refl _ _ | with_reducible assumption | (with_reducible refine Below.setCell ?_ ?_ _) | (with_reducible refine Below.alloc ?_ ?_ _) | (with_reducible refine Below.drew ?_) | (with_reducible refine below_drewN ?_ _))); all_goals (first | omega | (simp; done) | (simp; omega) | (simp [*]; done) | (simp at *; omega))))))).mono ?_; rintro e v1 ⟨rfl, g1⟩
  have z1 := Below.size g1; simp at z1
  have mb0 : MBox v1 w.heap.size R R (.slice A a.length ca) := (MBox.mk_ w R R (.slice A a.length ca) 40).grows (by (have bz0 := Below.size (g1); (try simp at bz0); (repeat' (first | with_reducible exact Below.refl _ _ | with_reducible assumption | (with_reducible refine Below.setCell ?_ ?_ _) | (with_reducible refine Below.alloc ?_ ?_ _) | (with_reducible refine Below.drew ?_) | (with_reducible refine below_drewN ?_ _) | (with_reducible refine Below.trans ?_ (Below.mono (g1) ?_)))); all_goals (first | omega | (simp; done) | (simp; omega) | (simp [*]; done) | (simp at *; omega))))
  have mb1 : MBox v1 (w.heap.size + 1) R' R' (.slice B b.length cb) := by have := (MBox.mk_ (w.alloc (.cells #[.int .i64 R, .int .i64 R, .slice A a.length ca] 40)) R' R' (.slice B b.length cb) 40).grows (w' := v1) (by (have bz0 := Below.size (g1); (try simp at bz0); (repeat' (first | with_reducible exact Below.refl _ _ | with_reducible assumption | (with_reducible refine Below.setCell ?_ ?_ _) | (with_reducible refine Below.alloc ?_ ?_ _) | (with_reducible refine Below.drew ?_) | (with_reducible refine below_drewN ?_ _) | (with_reducible refine Below.trans ?_ (Below.mono (g1) ?_)))); all_goals (first | omega | (simp; done) | (simp; omega) | (simp [*]; done) | (simp at *; omega)))); simpa using this
  have rb : MBox v1 (w.heap.size + 2) 0 0 (.slice none 0 0) := by have := (MBox.mk_ ((w.alloc (.cells #[.int .i64 R, .int .i64 R, .slice A a.length ca] 40)).alloc (.cells #[.int .i64 R', .int .i64 R', .slice B b.length cb] 40)) 0 0 (.slice none 0 0) 40).grows (w' := v1) (by (have bz0 := Below.size (g1); (try simp at bz0); (repeat' (first | with_reducible exact Below.refl _ _ | with_reducible assumption | (with_reducible refine Below.setCell ?_ ?_ _) | (with_reducible refine Below.alloc ?_ ?_ _) | (with_reducible refine Below.drew ?_) | (with_reducible refine below_drewN ?_ _) | (with_reducible refine Below.trans ?_ (Below.mono (g1) ?_)))); all_goals (first | omega | (simp; done) | (simp; omega) | (simp [*]; done) | (simp at *; omega)))); simpa using this
  have rda : Rd v1 A a := (Rd.grows ha (by (have bz0 := Below.size (g1); (try simp at bz0); (repeat' (first | with_reducible exact Below.refl _ _ | with_reducible assumption | (with_reducible refine Below.setCell ?_ ?_ _) | (with_reducible refine Below.alloc ?_ ?_ _) | (with_reducible refine Below.drew ?_) | (with_reducible refine below_drewN ?_ _) | (with_reducible refine Below.trans ?_ (Below.mono (g1) ?_)))); all_goals (first | omega | (simp; done) | (simp; omega) | (simp [*]; done) | (simp at *; omega)))))
  have rdb : Rd v1 B b := (Rd.grows hb (by (have bz0 := Below.size (g1); (try simp at bz0); (repeat' (first | with_reducible exact Below.refl _ _ | with_reducible assumption | (with_reducible refine Below.setCell ?_ ?_ _) | (with_reducible refine Below.alloc ?_ ?_ _) | (with_reducible refine Below.drew ?_) | (with_reducible refine below_drewN ?_ _) | (with_reducible refine Below.trans ?_ (Below.mono (g1) ?_)))); all_goals (first | omega | (simp; done) | (simp; omega) | (simp [*]; done) | (simp at *; omega)))))
  have gw : Grows w v1 := by (have bz0 := Below.size (g1); (try simp at bz0); (repeat' (first | with_reducible exact Below.refl _ _ | with_reducible assumption | (with_reducible refine Below.setCell ?_ ?_ _) | (with_reducible refine Below.alloc ?_ ?_ _) | (with_reducible refine Below.drew ?_) | (with_reducible refine below_drewN ?_ _) | (with_reducible refine Below.trans ?_ (Below.mono (g1) ?_)))); all_goals (first | omega | (simp; done) | (simp; omega) | (simp [*]; done) | (simp at *; omega)))
  clear g1 ha hb
  obtain ⟨b00, b01, b02⟩ := mb0.cells
  obtain ⟨b10, b11, b12⟩ := mb1.cells
  go_wp2_with fail
  refine (HC2.out _ (by exact (Rd.grows rdb (by ((repeat' (first | with_reducible exact Below.refl _ _ | with_reducible assumption | (with_reducible refine Below.setCell ?_ ?_ _) | (with_reducible refine Below.alloc ?_ ?_ _) | (with_reducible refine Below.drew ?_) | (with_reducible refine below_drewN ?_ _))); all_goals (first | omega | (simp; done) | (simp; omega) | (simp [*]; done) | (simp at *; omega))))))).mono ?_; rintro e v2 ⟨rfl, g1⟩
  have z2 := Below.size g1
  replace mb0 := mb0.grows g1
  replace mb1 := mb1.grows g1
  replace rb := rb.grows g1
  replace rda := rda.grows g1
  replace rdb := rdb.grows g1
  replace gw : Grows w v2 := Grows.trans gw g1
  clear g1 b00 b01 b02 b10 b11 b12
  obtain ⟨b00, b01, b02⟩ := mb0.cells
  obtain ⟨b10, b11, b12⟩ := mb1.cells
  go_wp2_with fail
  refine (l3New_c N N _ (by omega)).mono ?_; rintro e w2 ⟨g, rfl, ho, g2⟩
  obtain ⟨ho1, ho2⟩ := ho.lt
  have z3 := Below.size g2
  replace mb0 := mb0.grows g2
  replace mb1 := mb1.grows g2
  replace rb := rb.grows g2
  replace rda := rda.grows g2
  replace rdb := rdb.grows g2
  replace gw : Grows w w2 := Grows.trans gw g2
  replace ho := ho.less (show w.heap.size ≤ _ by omega)
  rw [U_zero N (dsA R a)] at ho
  have lo : w.heap.size + 2 < g := by omega
  clear g2 ho1 z1 z2 z3 b00 b01 b02 b10 b11 b12
  obtain ⟨b00, b01, b02⟩ := mb0.cells
  obtain ⟨b10, b11, b12⟩ := mb1.cells
  go_wp2_with fail
  go_loopw [8] (fun i wr => ∃ (I : Nat), i = .int .i64 I ∧ I ≤ R ∧ Own wr w.heap.size (.slice (some ⟨g, 0, none⟩) (N * N) (N * N)) (U N (dsA R a) I 0) ∧ Rd wr A a ∧ Rd wr B b ∧ Grows w wr ∧ MBox wr w.heap.size R R (.slice A a.length ca) ∧ MBox wr (w.heap.size + 1) R' R' (.slice B b.length cb) ∧ MBox wr (w.heap.size + 2) 0 0 (.slice none 0 0) ∧ MBox wr w2.heap.size N N (.slice (some ⟨g, 0, none⟩) (N * N) (N * N))) (fun i _ => R - (intOf i).toNat)
  case atStart => exact ⟨0, rfl, Nat.zero_le _, ho.alloc _, rda.alloc _, rdb.alloc _, by (have bz0 := Below.size (gw); (try simp at bz0); (repeat' (first | with_reducible exact Below.refl _ _ | with_reducible assumption | (with_reducible refine Below.setCell ?_ ?_ _) | (with_reducible refine Below.alloc ?_ ?_ _) | (with_reducible refine Below.drew ?_) | (with_reducible refine below_drewN ?_ _) | (with_reducible refine Below.trans ?_ (Below.mono (gw) ?_)))); all_goals (first | omega | (simp; done) | (simp; omega) | (simp [*]; done) | (simp at *; omega))), mb0.grows (by ((repeat' (first | with_reducible exact Below.refl _ _ | with_reducible assumption | (with_reducible refine Below.setCell ?_ ?_ _) | (with_reducible refine Below.alloc ?_ ?_ _) | (with_reducible refine Below.drew ?_) | (with_reducible refine below_drewN ?_ _))); all_goals (first | omega | (simp; done) | (simp; omega) | (simp [*]; done) | (simp at *; omega)))), mb1.grows (by ((repeat' (first | with_reducible exact Below.refl _ _ | with_reducible assumption | (with_reducible refine Below.setCell ?_ ?_ _) | (with_reducible refine Below.alloc ?_ ?_ _) | (with_reducible refine Below.drew ?_) | (with_reducible refine below_drewN ?_ _))); all_goals (first | omega | (simp; done) | (simp; omega) | (simp [*]; done) | (simp at *; omega)))), rb.grows (by ((repeat' (first | with_reducible exact Below.refl _ _ | with_reducible assumption | (with_reducible refine Below.setCell ?_ ?_ _) | (with_reducible refine Below.alloc ?_ ?_ _) | (with_reducible refine Below.drew ?_) | (with_reducible refine below_drewN ?_ _))); all_goals (first | omega | (simp; done) | (simp; omega) | (simp [*]; done) | (simp at *; omega)))), MBox.mk_ _ _ _ _ _⟩
  case round =>
    clear mb0 mb1 rb rda rdb gw ho b00 b01 b02 b10 b11 b12
    obtain ⟨I, rfl, hI, how, hra, hrb, hgr, hm0, hm1, hrr, hmo⟩ := hrel
    obtain ⟨b00, b01, b02⟩ := hm0.cells
    by_cases hlt : I < R
    · go_wp2_with fail
      obtain ⟨wo, rfl⟩ : ∃ wo : World, wo = wr := ⟨_, rfl⟩
      go_loopw [9] (fun j wr => ∃ (J : Nat), j = .int .i64 J ∧ J ≤ R ∧ Own wr w.heap.size (.slice (some ⟨g, 0, none⟩) (N * N) (N * N)) (U N (dsA R a) I J) ∧ Rd wr A a ∧ Rd wr B b ∧ Grows w wr ∧ MBox wr w.heap.size R R (.slice A a.length ca) ∧ MBox wr (w.heap.size + 1) R' R' (.slice B b.length cb) ∧ MBox wr (w.heap.size + 2) 0 0 (.slice none 0 0) ∧ MBox wr w2.heap.size N N (.slice (some ⟨g, 0, none⟩) (N * N) (N * N))) (fun j _ => R - (intOf j).toNat)
      case atStart => exact ⟨0, rfl, Nat.zero_le _, how, hra, hrb, hgr, hm0, hm1, hrr, hmo⟩
      case round =>
        clear b00 b01 b02 how hra hrb hgr hm0 hm1 hrr hmo
        obtain ⟨J, rfl, hJ, how, hra, hrb, hgr, hm0, hm1, hrr, hmo⟩ := hrel
        obtain ⟨b00, b01, b02⟩ := hm0.cells
        by_cases hlt2 : J < R
        · have hi1 : I * N ≤ 36 := by have := Nat.mul_le_mul (show I ≤ 6 by omega) h3; omega
          have hi2 : I * N + J < N * N := idx_lt (by omega) (by omega)
          go_wp2_with fail
          clear b00 b01 b02
          obtain ⟨x0, x1, x2⟩ := hm0.ext
          obtain ⟨y0, y1, y2⟩ := hmo.ext
          have i1 := castMul I R
          have i2 : (I : Int) * (R : Int) ≤ ((1048576 : Nat) : Int) := castMulLe (by have := Nat.mul_le_mul (Nat.le_of_lt hlt) (Nat.le_refl R); omega)
          have i3 := castPos I R J
          have i4 : (I : Int) * (R : Int) + (J : Int) < (a.length : Int) := castLt (by rw [HLA.out]; exact idx_lt hlt hlt2)
          have i5 := castMul I N
          have i6 : (I : Int) * (N : Int) ≤ ((1048576 : Nat) : Int) := castMulLe (by omega)
          have i7 := castPos I N J
          have i8 : (I : Int) * (N : Int) + (J : Int) < ((N * N : Nat) : Int) := castLt hi2
          have i8' : (I : Int) * (N : Int) + (J : Int) < (N : Int) * (N : Int) := by rw [← Int.natCast_mul N N]; exact i8
          have q2 : ((I : Int) * (N : Int) + (J : Int)).toNat = I * N + J := castIdx I N J
          ((refine wp_region_tail 12 (by kernel_rfl) (by kernel_rfl) ?_; simp only [List.take_succ_cons, List.take_zero, List.drop_succ_cons, List.drop_zero]); (repeat (go_big_quiet_step ((go_at_call 62; exact extC (l12Cell_c R R A a a.length ca I J _ rfl (Rd.ext hra _) (by omega) (by omega) (by omega) (by omega) (by have := HLA.out; omega)))))); refine wpQuiet_nil ?_; rintro w3 ⟨w30, hw30⟩; have g3 := grows_of_ext hw30; clear hw30 w30)
          have k1 := (how.grows g3).cell (I * N + J) (by rw [U_length]; exact hi2)
          have k2 := (how.grows g3).free (I * N + J)
          have hs3 := Below.size hgr
          have hs4 := Below.size g3
          have gb : w3.grownBy (w3.setCell ⟨g, I * N + J, none⟩ (.int .i64 (nth a ((I : Int) * (R : Int) + (J : Int)).toNat))) (some g) := only_setCell (p := ⟨g, I * N + J, none⟩) (World.grownBy.refl w3 _) rfl _
          have ho4 : Own (w3.setCell ⟨g, I * N + J, none⟩ (.int .i64 (nth a ((I : Int) * (R : Int) + (J : Int)).toNat))) w.heap.size (.slice (some ⟨g, 0, none⟩) (N * N) (N * N)) (U N (dsA R a) I (J + 1)) := by
            have h1 := how.grows g3
            rw [← U_length N (dsA R a) I J] at h1
            have h2 := h1.set (I * N + J) (nth a ((I : Int) * (R : Int) + (J : Int)).toNat)
            rw [U_length] at h2
            rw [castIdx, ← dsA_a hlt hlt2, U_set (by omega) (by omega)] at h2; rw [castIdx, ← dsA_a hlt hlt2]; exact h2
          clear q2
          go_wp2_with fail
          go_round
          case rel => exact ⟨J + 1, by go_num, by omega, ho4, (hra.grows g3).only HA.out gb (by omega), (hrb.grows g3).only HB.out gb (by omega), below_only (Grows.trans hgr g3) gb (by omega) (by omega), (hm0.grows g3).only gb (by omega), (hm1.grows g3).only gb (by omega), (hrr.grows g3).only gb (by omega), (hmo.grows g3).only gb (by omega)⟩
          case measure => simp [intOf]; omega
        · obtain rfl : J = R := by omega
          go_wp2_with fail
          go_round
          case rel => exact ⟨I + 1, by go_num, by omega, by rw [U_rowz (fun j h1 _ => dsA_0 (by omega))] at how; exact how, hra, hrb, hgr, hm0, hm1, hrr, hmo⟩
          case measure => simp [intOf]; omega
    · obtain rfl : I = R := by omega
      have hcg : U N (dsA I a) I 0 = U N (dsF I R' a b) I 0 := U_congr fun i j hi => by
        by_cases hj : j < I
        · rw [dsA_a hi hj, dsF_a hi hj]
        · rw [dsA_0 (by omega), dsF_0 (by omega) (by omega)]
      rw [hcg] at how
      clear hcg
      obtain ⟨b10, b11, b12⟩ := hm1.cells
      go_wp2_with fail
      obtain ⟨wo, rfl⟩ : ∃ wo : World, wo = wr := ⟨_, rfl⟩
      go_loopw [10] (fun i wr => ∃ (K : Nat), i = .int .i64 K ∧ K ≤ R' ∧ Own wr w.heap.size (.slice (some ⟨g, 0, none⟩) (N * N) (N * N)) (U N (dsF I R' a b) (I + K) 0) ∧ Rd wr A a ∧ Rd wr B b ∧ Grows w wr ∧ MBox wr w.heap.size I I (.slice A a.length ca) ∧ MBox wr (w.heap.size + 1) R' R' (.slice B b.length cb) ∧ MBox wr (w.heap.size + 2) 0 0 (.slice none 0 0) ∧ MBox wr w2.heap.size N N (.slice (some ⟨g, 0, none⟩) (N * N) (N * N))) (fun i _ => R' - (intOf i).toNat)
      case atStart => exact ⟨0, rfl, Nat.zero_le _, how, hra, hrb, hgr, hm0, hm1, hrr, hmo⟩
      case round =>
        clear b00 b01 b02 b10 b11 b12 how hra hrb hgr hm0 hm1 hrr hmo
        obtain ⟨K, rfl, hK, how, hra, hrb, hgr, hm0, hm1, hrr, hmo⟩ := hrel
        obtain ⟨b10, b11, b12⟩ := hm1.cells
        by_cases hlt3 : K < R'
        · go_wp2_with fail
          obtain ⟨wi, rfl⟩ : ∃ wi : World, wi = wr := ⟨_, rfl⟩
          have how0 := how
          rw [← U_to (K := I) (fun j hj => dsF_0 (by omega) (by omega))] at how0
          clear how
          go_loopw [11] (fun j wr => ∃ (J : Nat), j = .int .i64 J ∧ J ≤ R' ∧ Own wr w.heap.size (.slice (some ⟨g, 0, none⟩) (N * N) (N * N)) (U N (dsF I R' a b) (I + K) (I + J)) ∧ Rd wr A a ∧ Rd wr B b ∧ Grows w wr ∧ MBox wr w.heap.size I I (.slice A a.length ca) ∧ MBox wr (w.heap.size + 1) R' R' (.slice B b.length cb) ∧ MBox wr (w.heap.size + 2) 0 0 (.slice none 0 0) ∧ MBox wr w2.heap.size N N (.slice (some ⟨g, 0, none⟩) (N * N) (N * N))) (fun j _ => R' - (intOf j).toNat)
          case atStart => exact ⟨0, rfl, Nat.zero_le _, how0, hra, hrb, hgr, hm0, hm1, hrr, hmo⟩
          case round =>
            clear b10 b11 b12 how0 hra hrb hgr hm0 hm1 hrr hmo
            obtain ⟨J, rfl, hJ, how, hra, hrb, hgr, hm0, hm1, hrr, hmo⟩ := hrel
            obtain ⟨b10, b11, b12⟩ := hm1.cells
            by_cases hlt4 : J < R'
            · have hN2 : N = I + R' := HNN.out
              have hi1 : (I + K) * N ≤ 36 := by have := Nat.mul_le_mul (show I + K ≤ 6 by omega) h3; omega
              have hi2 : (I + K) * N + (I + J) < N * N := idx_lt (by omega) (by omega)
              have hset := U_set (N := N) (I := I + K) (J := I + J) (f := dsF I R' a b) (by omega) (by omega)
              rw [dsF_b (by omega) (by omega), show I + K - I = K by omega, show I + J - I = J by omega] at hset
              obtain ⟨P1, hP1⟩ : ∃ P, P = I + K := ⟨_, rfl⟩
              obtain ⟨P2, hP2⟩ : ∃ P, P = P1 * N := ⟨_, rfl⟩
              obtain ⟨P3, hP3⟩ : ∃ P, P = P2 + I := ⟨_, rfl⟩
              obtain ⟨P4, hP4⟩ : ∃ P, P = P3 + J := ⟨_, rfl⟩
              have hPP : (I + K) * N + (I + J) = P4 := by rw [hP4, hP3, hP2, hP1]; omega
              rw [← hP1] at hi1
              rw [hPP] at hi2 hset
              have j1 : IntKind.i64.wrap ((I : Int) + (K : Int)) = (P1 : Int) := by rw [show (I : Int) + (K : Int) = (P1 : Int) by omega]; exact IntWalk.i64_in _ (by omega)
              have j2 : IntKind.i64.wrap ((P1 : Int) * (N : Int)) = (P2 : Int) := by rw [← Int.natCast_mul, ← hP2]; exact IntWalk.i64_in _ (by omega)
              have j3 : IntKind.i64.wrap ((P2 : Int) + (I : Int)) = (P3 : Int) := by rw [show (P2 : Int) + (I : Int) = (P3 : Int) by omega]; exact IntWalk.i64_in _ (by omega)
              have j4 : IntKind.i64.wrap ((P3 : Int) + (J : Int)) = (P4 : Int) := by rw [show (P3 : Int) + (J : Int) = (P4 : Int) by omega]; exact IntWalk.i64_in _ (by omega)
              have hI6 : I ≤ 6 := hR
              clear hP1 hP2 hP3 hP4 hPP hN2
              go_wp2_with fail
              clear b10 b11 b12
              obtain ⟨x0, x1, x2⟩ := hm1.ext
              obtain ⟨m0, m1, m2⟩ := hm0.ext
              obtain ⟨y0, y1, y2⟩ := hmo.ext
              have i1 := castMul K R'
              have i2 : (K : Int) * (R' : Int) ≤ ((1048576 : Nat) : Int) := castMulLe (by have := Nat.mul_le_mul (Nat.le_of_lt hlt3) (Nat.le_refl R'); omega)
              have i3 := castPos K R' J
              have i4 : (K : Int) * (R' : Int) + (J : Int) < (b.length : Int) := castLt (by rw [HLB.out]; exact idx_lt hlt3 hlt4)
              have i8 : (P4 : Int) < ((N * N : Nat) : Int) := by omega
              have i8' : (P4 : Int) < (N : Int) * (N : Int) := by rw [← Int.natCast_mul N N]; exact i8
              ((refine wp_region_tail 18 (by kernel_rfl) (by kernel_rfl) ?_; simp only [List.take_succ_cons, List.take_zero, List.drop_succ_cons, List.drop_zero]); (repeat (go_big_quiet_step ((go_at_call 62; exact extC (l12Cell_c R' R' B b b.length cb K J _ rfl (Rd.ext hrb _) (by omega) (by omega) (by omega) (by omega) (by have := HLB.out; omega)))))); refine wpQuiet_nil ?_; rintro w3 ⟨w30, hw30⟩; have g3 := grows_of_ext hw30; clear hw30 w30)
              have k1 := (how.grows g3).cell (P4) (by rw [U_length]; exact hi2)
              have k2 := (how.grows g3).free (P4)
              have hs3 := Below.size hgr
              have hs4 := Below.size g3
              have gb : w3.grownBy (w3.setCell ⟨g, P4, none⟩ (.int .i64 (nth b ((K : Int) * (R' : Int) + (J : Int)).toNat))) (some g) := only_setCell (p := ⟨g, P4, none⟩) (World.grownBy.refl w3 _) rfl _
              have ho4 : Own (w3.setCell ⟨g, P4, none⟩ (.int .i64 (nth b ((K : Int) * (R' : Int) + (J : Int)).toNat))) w.heap.size (.slice (some ⟨g, 0, none⟩) (N * N) (N * N)) (U N (dsF I R' a b) (I + K) (I + (J + 1))) := by
                have h1 := how.grows g3
                rw [← U_length N (dsF I R' a b) (I + K) (I + J)] at h1
                have h2 := h1.set (P4) (nth b ((K : Int) * (R' : Int) + (J : Int)).toNat)
                rw [U_length] at h2
                rw [castIdx, hset] at h2; rw [castIdx]; exact h2
              clear j1 j2 j3 j4
              go_wp2_with fail
              go_round
              case rel => exact ⟨J + 1, by go_num, by omega, ho4, (hra.grows g3).only HA.out gb (by omega), (hrb.grows g3).only HB.out gb (by omega), below_only (Grows.trans hgr g3) gb (by omega) (by omega), (hm0.grows g3).only gb (by omega), (hm1.grows g3).only gb (by omega), (hrr.grows g3).only gb (by omega), (hmo.grows g3).only gb (by omega)⟩
              case measure => simp [intOf]; omega
            · obtain rfl : J = R' := by omega
              go_wp2_with fail
              go_round
              case rel => exact ⟨K + 1, by go_num, by omega, by rw [← HNN.out, U_row] at how; exact how, hra, hrb, hgr, hm0, hm1, hrr, hmo⟩
              case measure => simp [intOf]; omega
        · obtain rfl : K = R' := by omega
          rw [← HNN.out, U_all] at how
          obtain ⟨y0, y1, y2⟩ := hmo.cells
          obtain ⟨r0, r1, r2⟩ := hrr.cells
          have rf := hrr.fz
          go_wp2_with fail
          refine bodyPost_ret (v := .tuple #[.agg #[.int .i64 N, .int .i64 N, .slice (some ⟨g, 0, none⟩) (N * N) (N * N)], .bool true]) ?_ rfl ?_
          · simp [results, Try.results43, go_sem, r0, r1, r2]
          · have hs5 := Below.size hgr
            exact ⟨_, rfl, ((how.far (by intro k hk; simp [Value.ownBlock] at hk; simp; omega) _).far (by intro k hk; simp [Value.ownBlock] at hk; simp; omega) _).far (by intro k hk; simp [Value.ownBlock] at hk; simp; omega) _, by (have bz0 := Below.size (hgr); (try simp at bz0); (repeat' (first | with_reducible exact Below.refl _ _ | with_reducible assumption | (with_reducible refine Below.setCell ?_ ?_ _) | (with_reducible refine Below.alloc ?_ ?_ _) | (with_reducible refine Below.drew ?_) | (with_reducible refine below_drewN ?_ _) | (with_reducible refine Below.trans ?_ (Below.mono (hgr) ?_)))); all_goals (first | omega | (simp; done) | (simp; omega) | (simp [*]; done) | (simp at *; omega)))⟩
end
end Go.Proofs.Ytfloeilpghjpoaa
