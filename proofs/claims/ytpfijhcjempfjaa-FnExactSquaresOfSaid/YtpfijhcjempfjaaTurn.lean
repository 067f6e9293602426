/- Contracts: the reference's transpose; valid matrices handed back. -/
import Derived.Test.YtpfijhcjempfjaaMat2
namespace Go.Proofs.Ytpfijhcjempfjaa
open Go.RowKit

section
set_option maxHeartbeats 1000000

theorem l3Turn_c (R C : Nat) (A : Option Addr) (l : List Int) (n cap : Nat) (w : World) (hn : l.length = n) (ha : Rd w A l) (hl : l.length = R * C) (hR : R ≤ 24) (hC : C ≤ 24) :
    Calls Try.prog 55 #[.agg #[.int .i64 R, .int .i64 C, .slice A n cap]] w fun e w' =>
      ∃ v, e = .returned (.agg #[.int .i64 C, .int .i64 R, v]) ∧ Own w' w.heap.size v (trL R C l) ∧ Grows w w' := by
  subst hn
  have hRC : C * R ≤ 576 := Nat.mul_le_mul hC hR
  have HL := Lib.hid hl
  have HA := Lib.hid (rd_bound ha)
  clear hl
  go_enter Try.func55, Try.ntmps55
  go_wp2_with fail
  refine (l3New_c C R _ (by omega)).mono ?_; rintro e w2 ⟨g, rfl, ho, g2⟩
  obtain ⟨ho1, ho2⟩ := ho.lt
  simp at ho1
  have z1 := Below.size g2; simp at z1
  have mb : MBox w2 w.heap.size R C (.slice A l.length cap) := (MBox.mk_ w R C (.slice A l.length cap) 26).grows (by (have bz0 := Below.size (g2); (try simp at bz0); (repeat' (first | with_reducible exact Below.refl _ _ | with_reducible assumption | (with_reducible refine Below.setCell ?_ ?_ _) | (with_reducible refine Below.alloc ?_ ?_ _) | (with_reducible refine Below.drew ?_) | (with_reducible refine below_drewN ?_ _) | (with_reducible refine Below.trans ?_ (Below.mono (g2) ?_)))); all_goals (first | omega | (simp; done) | (simp; omega) | (simp [*]; done) | (simp at *; omega))))
  have rb : MBox w2 (w.heap.size + 1) 0 0 (.slice none 0 0) := by have := (MBox.mk_ (w.alloc (.cells #[.int .i64 R, .int .i64 C, .slice A l.length cap] 26)) 0 0 (.slice none 0 0) 26).grows (w' := w2) (by (have bz0 := Below.size (g2); (try simp at bz0); (repeat' (first | with_reducible exact Below.refl _ _ | with_reducible assumption | (with_reducible refine Below.setCell ?_ ?_ _) | (with_reducible refine Below.alloc ?_ ?_ _) | (with_reducible refine Below.drew ?_) | (with_reducible refine below_drewN ?_ _) | (with_reducible refine Below.trans ?_ (Below.mono (g2) ?_)))); all_goals (first | omega | (simp; done) | (simp; omega) | (simp [*]; done) | (simp at *; omega)))); simpa using this
  have rd1 : Rd w2 A l := (Rd.grows ha (by (have bz0 := Below.size (g2); (try simp at bz0); (repeat' (first | with_reducible exact Below.refl _ _ | with_reducible assumption | (with_reducible refine Below.setCell ?_ ?_ _) | (with_reducible refine Below.alloc ?_ ?_ _) | (with_reducible refine Below.drew ?_) | (with_reducible refine below_drewN ?_ _) | (with_reducible refine Below.trans ?_ (Below.mono (g2) ?_)))); all_goals (first | omega | (simp; done) | (simp; omega) | (simp [*]; done) | (simp at *; omega)))))
  have gw1 : Grows w w2 := by (have bz0 := Below.size (g2); (try simp at bz0); (repeat' (first | with_reducible exact Below.refl _ _ | with_reducible assumption | (with_reducible refine Below.setCell ?_ ?_ _) | (with_reducible refine Below.alloc ?_ ?_ _) | (with_reducible refine Below.drew ?_) | (with_reducible refine below_drewN ?_ _) | (with_reducible refine Below.trans ?_ (Below.mono (g2) ?_)))); all_goals (first | omega | (simp; done) | (simp; omega) | (simp [*]; done) | (simp at *; omega)))
  replace ho := ho.less (show w.heap.size ≤ _ by simp; omega)
  have lo : w.heap.size + 1 < g := by omega
  clear g2 ho1 z1 ha
  obtain ⟨b0, b1, b2⟩ := mb.cells
  go_wp2_with fail
  go_loopw [4] (fun i wr => ∃ (I : Nat) (m : List Int), i = .int .i64 I ∧ I ≤ R ∧ m.length = C * R ∧ UptoC C R (fun j i => nth l (i * C + j)) I 0 m ∧ Own wr w.heap.size (.slice (some ⟨g, 0, none⟩) (C * R) (C * R)) m ∧ Rd wr A l ∧ Grows w wr ∧
      MBox wr w.heap.size R C (.slice A l.length cap) ∧ MBox wr (w.heap.size + 1) 0 0 (.slice none 0 0) ∧ MBox wr w2.heap.size C R (.slice (some ⟨g, 0, none⟩) (C * R) (C * R))) (fun i _ => R - (intOf i).toNat)
  case atStart =>
    exact ⟨0, _, rfl, Nat.zero_le _, by simp, UptoC.zero _ _ _ _, ho.alloc _, rd1.alloc _, by (have bz0 := Below.size (gw1); (try simp at bz0); (repeat' (first | with_reducible exact Below.refl _ _ | with_reducible assumption | (with_reducible refine Below.setCell ?_ ?_ _) | (with_reducible refine Below.alloc ?_ ?_ _) | (with_reducible refine Below.drew ?_) | (with_reducible refine below_drewN ?_ _) | (with_reducible refine Below.trans ?_ (Below.mono (gw1) ?_)))); all_goals (first | omega | (simp; done) | (simp; omega) | (simp [*]; done) | (simp at *; omega))), mb.grows (by ((repeat' (first | with_reducible exact Below.refl _ _ | with_reducible assumption | (with_reducible refine Below.setCell ?_ ?_ _) | (with_reducible refine Below.alloc ?_ ?_ _) | (with_reducible refine Below.drew ?_) | (with_reducible refine below_drewN ?_ _))); all_goals (first | omega | (simp; done) | (simp; omega) | (simp [*]; done) | (simp at *; omega)))), rb.grows (by ((repeat' (first | with_reducible exact Below.refl _ _ | with_reducible assumption | (with_reducible refine Below.setCell ?_ ?_ _) | (with_reducible refine Below.alloc ?_ ?_ _) | (with_reducible refine Below.drew ?_) | (with_reducible refine below_drewN ?_ _))); all_goals (first | omega | (simp; done) | (simp; omega) | (simp [*]; done) | (simp at *; omega)))), MBox.mk_ _ _ _ _ _⟩
  case round =>
    obtain ⟨I, m, rfl, hI, hml, hup, how, hrd, hgr, hmb, hrb, hob⟩ := hrel
    have HU := Lib.hid hup
    have HML := Lib.hid hml
    clear hup hml mb rb rd1 gw1 ho b0 b1 b2
    obtain ⟨b0, b1, b2⟩ := hmb.cells
    by_cases hlt : I < R
    · go_wp2_with fail
      obtain ⟨wo, rfl⟩ : ∃ wo : World, wo = wr := ⟨_, rfl⟩
      go_loopw [5] (fun j wr => ∃ (J : Nat) (m : List Int), j = .int .i64 J ∧ J ≤ C ∧ m.length = C * R ∧ UptoC C R (fun j i => nth l (i * C + j)) I J m ∧ Own wr w.heap.size (.slice (some ⟨g, 0, none⟩) (C * R) (C * R)) m ∧ Rd wr A l ∧ Grows w wr ∧
          MBox wr w.heap.size R C (.slice A l.length cap) ∧ MBox wr (w.heap.size + 1) 0 0 (.slice none 0 0) ∧ MBox wr w2.heap.size C R (.slice (some ⟨g, 0, none⟩) (C * R) (C * R))) (fun j _ => C - (intOf j).toNat)
      case atStart => exact ⟨0, m, rfl, Nat.zero_le _, HML.out, HU.out, how, hrd, hgr, hmb, hrb, hob⟩
      case round =>
        clear HU HML b0 b1 b2 how hrd hgr hmb hrb hob
        obtain ⟨J, m, rfl, hJ, hml, hup, how, hrd, hgr, hmb, hrb, hob⟩ := hrel
        have HU := Lib.hid hup
        have HML := Lib.hid hml
        clear hup hml
        by_cases hlt2 : J < C
        · obtain ⟨b0, b1, b2⟩ := hmb.cells
          go_wp2_with fail
          clear b0 b1 b2
          obtain ⟨x0, x1, x2⟩ := hmb.ext
          obtain ⟨y0, y1, y2⟩ := hob.ext
          have i1 := castMul I C
          have i2 : (I : Int) * (C : Int) ≤ ((1048576 : Nat) : Int) := castMulLe (by have := Nat.mul_le_mul (Nat.le_of_lt hlt) hC; omega)
          have i3 := castPos I C J
          have i4 : (I : Int) * (C : Int) + (J : Int) < (l.length : Int) := castLt (by rw [HL.out]; exact idx_lt hlt hlt2)
          have i5 := castMul J R
          have i6 : (J : Int) * (R : Int) ≤ ((1048576 : Nat) : Int) := castMulLe (by have := Nat.mul_le_mul (Nat.le_of_lt hlt2) hR; omega)
          have i7 := castPos J R I
          have i8 : (J : Int) * (R : Int) + (I : Int) < ((C * R : Nat) : Int) := castLt (idx_lt hlt2 hlt)
          have i8' : (J : Int) * (R : Int) + (I : Int) < (C : Int) * (R : Int) := by rw [← Int.natCast_mul C R]; exact i8
          obtain ⟨b, off, rfl, hbs, hcell⟩ := hrd.at_ (I * C + J) (by rw [HL.out]; exact idx_lt hlt hlt2)
          have x3 := ext_is hcell
          have q1 : ((I : Int) * (C : Int) + (J : Int)).toNat = I * C + J := castIdx I C J
          have q2 : ((J : Int) * (R : Int) + (I : Int)).toNat = J * R + I := castIdx J R I
          ((refine wp_region_tail 19 (by kernel_rfl) (by kernel_rfl) ?_; simp only [List.take_succ_cons, List.take_zero, List.drop_succ_cons, List.drop_zero]); (repeat (go_big_quiet_step ((fail)))); refine wpQuiet_nil ?_; rintro w3 ⟨w30, hw30⟩; have g3 := grows_of_ext hw30; clear hw30 w30)
          have hi2 : J * R + I < C * R := idx_lt hlt2 hlt
          have k1 := (how.grows g3).cell (J * R + I) (by rw [HML.out]; exact hi2)
          have k2 := (how.grows g3).free (J * R + I)
          have hs3 := Below.size hgr
          have hs4 := Below.size g3
          have gb : w3.grownBy (w3.setCell ⟨g, J * R + I, none⟩ (.int .i64 (nth l (I * C + J)))) (some g) := only_setCell (p := ⟨g, J * R + I, none⟩) (World.grownBy.refl w3 _) rfl _
          have ho4 : Own (w3.setCell ⟨g, J * R + I, none⟩ (.int .i64 (nth l (I * C + J)))) w.heap.size (.slice (some ⟨g, 0, none⟩) (C * R) (C * R)) (m.set (J * R + I) (nth l (I * C + J))) := by
            have := how.grows g3
            rw [← HML.out] at this ⊢
            exact this.set _ _
          clear q1 q2
          go_wp2_with fail
          go_round
          case rel =>
            exact ⟨J + 1, _, by go_num, by omega, by rw [List.length_set]; exact HML.out, UptoC.set HU.out HML.out hlt2 hlt, ho4, (hrd.grows g3).only HA.out gb (by omega), below_only (Grows.trans hgr g3) gb (by omega) (by omega), (hmb.grows g3).only gb (by omega), (hrb.grows g3).only gb (by omega), (hob.grows g3).only gb (by omega)⟩
          case measure => simp [intOf]; omega
        · obtain rfl : J = C := by omega
          obtain ⟨b0, b1, b2⟩ := hmb.cells
          go_wp2_with fail
          go_round
          case rel =>
            exact ⟨I + 1, m, by go_num, by omega, HML.out, UptoC.col HU.out, how, hrd, hgr, hmb, hrb, hob⟩
          case measure => simp [intOf]; omega
    · obtain rfl : I = R := by omega
      have hfin : m = trL I C l := UptoC.all HU.out HML.out
      subst hfin
      obtain ⟨y0, y1, y2⟩ := hob.cells
      obtain ⟨r0, r1, r2⟩ := hrb.cells
      have rf := hrb.fz
      go_wp2_with fail
      refine bodyPost_ret (v := .agg #[.int .i64 C, .int .i64 I, .slice (some ⟨g, 0, none⟩) (C * I) (C * I)]) ?_ rfl ?_
      · simp [results, Try.results55, go_sem, r0, r1, r2]
      · have hs5 := Below.size hgr
        exact ⟨_, rfl, ((how.far (by intro k hk; simp [Value.ownBlock] at hk; simp; omega) _).far (by intro k hk; simp [Value.ownBlock] at hk; simp; omega) _).far (by intro k hk; simp [Value.ownBlock] at hk; simp; omega) _, by (have bz0 := Below.size (hgr); (try simp at bz0); (repeat' (first | with_reducible exact Below.refl _ _ | with_reducible assumption | (with_reducible refine Below.setCell ?_ ?_ _) | (with_reducible refine Below.alloc ?_ ?_ _) | (with_reducible refine Below.drew ?_) | (with_reducible refine below_drewN ?_ _) | (with_reducible refine Below.trans ?_ (Below.mono (hgr) ?_)))); all_goals (first | omega | (simp; done) | (simp; omega) | (simp [*]; done) | (simp at *; omega)))⟩

theorem checked_yes (r c : Int) (A : Option Addr) (l : List Int) (n cap : Nat) (w : World) (hn : l.length = n) (ha : Rd w A l) (hl : n ≤ 1099511627776) (hm : isMat r c l = true) :
    Calls Try.prog 68 #[.agg #[.int .i64 r, .int .i64 c, .slice A n cap]] w fun e w' => e = .returned (.tuple #[.agg #[.int .i64 r, .int .i64 c, .slice A n cap], .bool true]) ∧ Grows w w' := by
  have HM := Lib.hid fun w h => iIsMatrix_c r c A l n cap w hn h hl
  rw [hm] at HM
  have HM' := Lib.hid HM.out
  clear hm HM hn
  go_enter Try.func68, Try.ntmps68
  go_wp2_with fail
  refine (HM'.out _ (by exact (Rd.grows ha (by ((repeat' (first | with_reducible exact Below.refl _ _ | with_reducible assumption | (with_reducible refine Below.setCell ?_ ?_ _) | (with_reducible refine Below.alloc ?_ ?_ _) | (with_reducible refine Below.drew ?_) | (with_reducible refine below_drewN ?_ _))); all_goals (first | omega | (simp; done) | (simp; omega) | (simp [*]; done) | (simp at *; omega))))))).mono ?_; rintro e w1 ⟨rfl, g1⟩
  have mb : MBox w1 w.heap.size r c (.slice A n cap) := (MBox.mk_ w r c (.slice A n cap) 26).grows (by (have bz0 := Below.size (g1); (try simp at bz0); (repeat' (first | with_reducible exact Below.refl _ _ | with_reducible assumption | (with_reducible refine Below.setCell ?_ ?_ _) | (with_reducible refine Below.alloc ?_ ?_ _) | (with_reducible refine Below.drew ?_) | (with_reducible refine below_drewN ?_ _) | (with_reducible refine Below.trans ?_ (Below.mono (g1) ?_)))); all_goals (first | omega | (simp; done) | (simp; omega) | (simp [*]; done) | (simp at *; omega))))
  have rb : MBox w1 (w.heap.size + 1) 0 0 (.slice none 0 0) := by have := (MBox.mk_ (w.alloc (.cells #[.int .i64 r, .int .i64 c, .slice A n cap] 26)) 0 0 (.slice none 0 0) 26).grows (w' := w1) (by (have bz0 := Below.size (g1); (try simp at bz0); (repeat' (first | with_reducible exact Below.refl _ _ | with_reducible assumption | (with_reducible refine Below.setCell ?_ ?_ _) | (with_reducible refine Below.alloc ?_ ?_ _) | (with_reducible refine Below.drew ?_) | (with_reducible refine below_drewN ?_ _) | (with_reducible refine Below.trans ?_ (Below.mono (g1) ?_)))); all_goals (first | omega | (simp; done) | (simp; omega) | (simp [*]; done) | (simp at *; omega)))); simpa using this
  obtain ⟨b0, b1, b2⟩ := mb.cells
  obtain ⟨r0, r1, r2⟩ := rb.cells
  have rf := rb.fz
  go_wp2_with fail
  refine bodyPost_ret (v := .tuple #[.agg #[.int .i64 r, .int .i64 c, .slice A n cap], .bool true]) ?_ rfl ?_
  · simp [results, Try.results68, go_sem, r0, r1, r2]
  · exact ⟨rfl, by (have bz0 := Below.size (g1); (try simp at bz0); (repeat' (first | with_reducible exact Below.refl _ _ | with_reducible assumption | (with_reducible refine Below.setCell ?_ ?_ _) | (with_reducible refine Below.alloc ?_ ?_ _) | (with_reducible refine Below.drew ?_) | (with_reducible refine below_drewN ?_ _) | (with_reducible refine Below.trans ?_ (Below.mono (g1) ?_)))); all_goals (first | omega | (simp; done) | (simp; omega) | (simp [*]; done) | (simp at *; omega)))⟩

theorem checked_no (r c : Int) (A : Option Addr) (l : List Int) (n cap : Nat) (w : World) (hn : l.length = n) (ha : Rd w A l) (hl : n ≤ 1099511627776) (hm : isMat r c l = false) :
    Calls Try.prog 68 #[.agg #[.int .i64 r, .int .i64 c, .slice A n cap]] w fun e w' => e = .returned (.tuple #[.agg #[.int .i64 0, .int .i64 0, .slice none 0 0], .bool false]) ∧ Grows w w' := by
  have HM := Lib.hid fun w h => iIsMatrix_c r c A l n cap w hn h hl
  rw [hm] at HM
  have HM' := Lib.hid HM.out
  clear hm HM hn
  go_enter Try.func68, Try.ntmps68
  go_wp2_with fail
  refine (HM'.out _ (by exact (Rd.grows ha (by ((repeat' (first | with_reducible exact Below.refl _ _ | with_reducible assumption | (with_reducible refine Below.setCell ?_ ?_ _) | (with_reducible refine Below.alloc ?_ ?_ _) | (with_reducible refine Below.drew ?_) | (with_reducible refine below_drewN ?_ _))); all_goals (first | omega | (simp; done) | (simp; omega) | (simp [*]; done) | (simp at *; omega))))))).mono ?_; rintro e w1 ⟨rfl, g1⟩
  have rb : MBox w1 (w.heap.size + 1) 0 0 (.slice none 0 0) := by have := (MBox.mk_ (w.alloc (.cells #[.int .i64 r, .int .i64 c, .slice A n cap] 26)) 0 0 (.slice none 0 0) 26).grows (w' := w1) (by (have bz0 := Below.size (g1); (try simp at bz0); (repeat' (first | with_reducible exact Below.refl _ _ | with_reducible assumption | (with_reducible refine Below.setCell ?_ ?_ _) | (with_reducible refine Below.alloc ?_ ?_ _) | (with_reducible refine Below.drew ?_) | (with_reducible refine below_drewN ?_ _) | (with_reducible refine Below.trans ?_ (Below.mono (g1) ?_)))); all_goals (first | omega | (simp; done) | (simp; omega) | (simp [*]; done) | (simp at *; omega)))); simpa using this
  obtain ⟨r0, r1, r2⟩ := rb.cells
  have rf := rb.fz
  go_wp2_with fail
  refine bodyPost_ret (v := .tuple #[.agg #[.int .i64 0, .int .i64 0, .slice none 0 0], .bool false]) ?_ rfl ?_
  · simp [results, Try.results68, go_sem, r0, r1, r2]
  · exact ⟨rfl, by (have bz0 := Below.size (g1); (try simp at bz0); (repeat' (first | with_reducible exact Below.refl _ _ | with_reducible assumption | (with_reducible refine Below.setCell ?_ ?_ _) | (with_reducible refine Below.alloc ?_ ?_ _) | (with_reducible refine Below.drew ?_) | (with_reducible refine below_drewN ?_ _) | (with_reducible refine Below.trans ?_ (Below.mono (g1) ?_)))); all_goals (first | omega | (simp; done) | (simp; omega) | (simp [*]; done) | (simp at *; omega)))⟩

theorem l3Done_yes (r c : Int) (A : Option Addr) (l : List Int) (n cap : Nat) (w : World) (hn : l.length = n) (ha : Rd w A l) (hl : n ≤ 1099511627776) (hm : isMat r c l = true) :
    Calls Try.prog 106 #[.agg #[.int .i64 r, .int .i64 c, .slice A n cap]] w fun e w' => e = .returned (.tuple #[.agg #[.int .i64 r, .int .i64 c, .slice A n cap], .bool true]) ∧ Grows w w' := by
  have HM := Lib.hid fun w h => sIsMatrix_c r c A l n cap w hn h hl
  rw [hm] at HM
  have HM' := Lib.hid HM.out
  clear hm HM hn
  go_enter Try.func106, Try.ntmps106
  go_wp2_with fail
  refine (HM'.out _ (by exact (Rd.grows ha (by ((repeat' (first | with_reducible exact Below.refl _ _ | with_reducible assumption | (with_reducible refine Below.setCell ?_ ?_ _) | (with_reducible refine Below.alloc ?_ ?_ _) | (with_reducible refine Below.drew ?_) | (with_reducible refine below_drewN ?_ _))); all_goals (first | omega | (simp; done) | (simp; omega) | (simp [*]; done) | (simp at *; omega))))))).mono ?_; rintro e w1 ⟨rfl, g1⟩
  have mb : MBox w1 w.heap.size r c (.slice A n cap) := (MBox.mk_ w r c (.slice A n cap) 26).grows (by (have bz0 := Below.size (g1); (try simp at bz0); (repeat' (first | with_reducible exact Below.refl _ _ | with_reducible assumption | (with_reducible refine Below.setCell ?_ ?_ _) | (with_reducible refine Below.alloc ?_ ?_ _) | (with_reducible refine Below.drew ?_) | (with_reducible refine below_drewN ?_ _) | (with_reducible refine Below.trans ?_ (Below.mono (g1) ?_)))); all_goals (first | omega | (simp; done) | (simp; omega) | (simp [*]; done) | (simp at *; omega))))
  have rb : MBox w1 (w.heap.size + 1) 0 0 (.slice none 0 0) := by have := (MBox.mk_ (w.alloc (.cells #[.int .i64 r, .int .i64 c, .slice A n cap] 26)) 0 0 (.slice none 0 0) 26).grows (w' := w1) (by (have bz0 := Below.size (g1); (try simp at bz0); (repeat' (first | with_reducible exact Below.refl _ _ | with_reducible assumption | (with_reducible refine Below.setCell ?_ ?_ _) | (with_reducible refine Below.alloc ?_ ?_ _) | (with_reducible refine Below.drew ?_) | (with_reducible refine below_drewN ?_ _) | (with_reducible refine Below.trans ?_ (Below.mono (g1) ?_)))); all_goals (first | omega | (simp; done) | (simp; omega) | (simp [*]; done) | (simp at *; omega)))); simpa using this
  obtain ⟨b0, b1, b2⟩ := mb.cells
  obtain ⟨r0, r1, r2⟩ := rb.cells
  have rf := rb.fz
  go_wp2_with fail
  refine bodyPost_ret (v := .tuple #[.agg #[.int .i64 r, .int .i64 c, .slice A n cap], .bool true]) ?_ rfl ?_
  · simp [results, Try.results106, go_sem, r0, r1, r2]
  · exact ⟨rfl, by (have bz0 := Below.size (g1); (try simp at bz0); (repeat' (first | with_reducible exact Below.refl _ _ | with_reducible assumption | (with_reducible refine Below.setCell ?_ ?_ _) | (with_reducible refine Below.alloc ?_ ?_ _) | (with_reducible refine Below.drew ?_) | (with_reducible refine below_drewN ?_ _) | (with_reducible refine Below.trans ?_ (Below.mono (g1) ?_)))); all_goals (first | omega | (simp; done) | (simp; omega) | (simp [*]; done) | (simp at *; omega)))⟩

theorem l3Done_no (r c : Int) (A : Option Addr) (l : List Int) (n cap : Nat) (w : World) (hn : l.length = n) (ha : Rd w A l) (hl : n ≤ 1099511627776) (hm : isMat r c l = false) :
    Calls Try.prog 106 #[.agg #[.int .i64 r, .int .i64 c, .slice A n cap]] w fun e w' => e = .returned (.tuple #[.agg #[.int .i64 0, .int .i64 0, .slice none 0 0], .bool false]) ∧ Grows w w' := by
  have HM := Lib.hid fun w h => sIsMatrix_c r c A l n cap w hn h hl
  rw [hm] at HM
  have HM' := Lib.hid HM.out
  clear hm HM hn
  go_enter Try.func106, Try.ntmps106
  go_wp2_with fail
  refine (HM'.out _ (by exact (Rd.grows ha (by ((repeat' (first | with_reducible exact Below.refl _ _ | with_reducible assumption | (with_reducible refine Below.setCell ?_ ?_ _) | (with_reducible refine Below.alloc ?_ ?_ _) | (with_reducible refine Below.drew ?_) | (with_reducible refine below_drewN ?_ _))); all_goals (first | omega | (simp; done) | (simp; omega) | (simp [*]; done) | (simp at *; omega))))))).mono ?_; rintro e w1 ⟨rfl, g1⟩
  have rb : MBox w1 (w.heap.size + 1) 0 0 (.slice none 0 0) := by have := (MBox.mk_ (w.alloc (.cells #[.int .i64 r, .int .i64 c, .slice A n cap] 26)) 0 0 (.slice none 0 0) 26).grows (w' := w1) (by (have bz0 := Below.size (g1); (try simp at bz0); (repeat' (first | with_reducible exact Below.refl _ _ | with_reducible assumption | (with_reducible refine Below.setCell ?_ ?_ _) | (with_reducible refine Below.alloc ?_ ?_ _) | (with_reducible refine Below.drew ?_) | (with_reducible refine below_drewN ?_ _) | (with_reducible refine Below.trans ?_ (Below.mono (g1) ?_)))); all_goals (first | omega | (simp; done) | (simp; omega) | (simp [*]; done) | (simp at *; omega)))); simpa using this
  obtain ⟨r0, r1, r2⟩ := rb.cells
  have rf := rb.fz
  go_wp2_with fail
  refine bodyPost_ret (v := .tuple #[.agg #[.int .i64 0, .int .i64 0, .slice none 0 0], .bool false]) ?_ rfl ?_
  · simp [results, Try.results106, go_sem, r0, r1, r2]
  · exact ⟨rfl, by (have bz0 := Below.size (g1); (try simp at bz0); (repeat' (first | with_reducible exact Below.refl _ _ | with_reducible assumption | (with_reducible refine Below.setCell ?_ ?_ _) | (with_reducible refine Below.alloc ?_ ?_ _) | (with_reducible refine Below.drew ?_) | (with_reducible refine below_drewN ?_ _) | (with_reducible refine Below.trans ?_ (Below.mono (g1) ?_)))); all_goals (first | omega | (simp; done) | (simp; omega) | (simp [*]; done) | (simp at *; omega)))⟩
end
end Go.Proofs.Ytpfijhcjempfjaa
