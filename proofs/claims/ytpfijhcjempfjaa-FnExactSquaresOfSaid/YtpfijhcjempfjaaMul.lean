/- Contracts: products of matrices. -/
import Derived.Test.YtpfijhcjempfjaaTurn
import Derived.Test.YtpfijhcjempfjaaGram
namespace Go.Proofs.Ytpfijhcjempfjaa
open Go.RowKit

/-! ### plain -/
/-- The first t products of row i of a (K columns) and column j of b (C columns), added up. -/
def dotTo (a b : List Int) (K C i j : Nat) : Nat → Int
  | 0 => 0
  | t + 1 => dotTo a b K C i j t + nth a (i * K + t) * nth b (t * C + j)
def mulL (R K C : Nat) (a b : List Int) : List Int := tab R C fun i j => dotTo a b K C i j K
def mulOk (r c : Int) (a : List Int) (r' c' : Int) (b : List Int) : Bool := isMat r c a && isMat r' c' b && (c == r') && allNum (mulL r.toNat c.toNat c'.toNat a b)
def mulR (r c : Int) (a : List Int) (r' c' : Int) (b : List Int) : Int := if mulOk r c a r' c' b then r else 0
def mulC (r c : Int) (a : List Int) (r' c' : Int) (b : List Int) : Int := if mulOk r c a r' c' b then c' else 0
def mulV (r c : Int) (a : List Int) (r' c' : Int) (b : List Int) : List Int := if mulOk r c a r' c' b then mulL r.toNat c.toNat c'.toNat a b else []
theorem mulL_length (R K C : Nat) (a b : List Int) : (mulL R K C a b).length = R * C := tab_length _ _ _
theorem mulV_length (r c : Int) (a : List Int) (r' c' : Int) (b : List Int) : (mulV r c a r' c' b).length ≤ 576 := by
  unfold mulV
  split
  · rename_i h
    unfold mulOk at h
    simp only [Bool.and_eq_true] at h
    obtain ⟨R, C, rfl, rfl, hR, _, _, _⟩ := isMat_nat h.1.1.1
    obtain ⟨R', C', rfl, rfl, _, hC', _, _⟩ := isMat_nat h.1.1.2
    rw [mulL_length]
    simp only [Int.toNat_natCast]
    exact Nat.mul_le_mul hR hC'
  · simp
theorem dot_bd {a b : List Int} {R K C i j : Nat} (ha : ∀ t, t < a.length → isNum (nth a t) = true) (hb : ∀ t, t < b.length → isNum (nth b t) = true) (la : a.length = R * K) (lb : b.length = K * C) (hi : i < R) (hj : j < C) :
    ∀ t, t ≤ K → -160000000000000000 * (t : Int) ≤ dotTo a b K C i j t ∧ dotTo a b K C i j t ≤ 160000000000000000 * (t : Int)
  | 0, _ => by simp [dotTo]
  | t + 1, h => by
    have ih := dot_bd ha hb la lb hi hj t (by omega)
    have h1 := ha (i * K + t) (by rw [la]; exact idx_lt hi (by omega))
    have h2 := hb (t * C + j) (by rw [lb]; exact idx_lt (by omega) hj)
    have := mul_bd h1 h2
    simp only [dotTo]
    omega
theorem mulOk_no1 {r c : Int} {a : List Int} {r' c' : Int} {b : List Int} (h : isMat r c a = false) : mulOk r c a r' c' b = false := by unfold mulOk; rw [h]; simp
theorem mulOk_no2 {r c : Int} {a : List Int} {r' c' : Int} {b : List Int} (h : isMat r' c' b = false) : mulOk r c a r' c' b = false := by unfold mulOk; rw [h]; simp
theorem mulOk_no3 {r c : Int} {a : List Int} {r' c' : Int} {b : List Int} (h : (c == r') = false) : mulOk r c a r' c' b = false := by unfold mulOk; rw [h]; simp
theorem mul_no {r c : Int} {a : List Int} {r' c' : Int} {b : List Int} (h : mulOk r c a r' c' b = false) : mulR r c a r' c' b = 0 ∧ mulC r c a r' c' b = 0 ∧ mulV r c a r' c' b = [] := by simp [mulR, mulC, mulV, h]
theorem mulOk_nat {R K C : Nat} {a b : List Int} (h1 : isMat R K a = true) (h2 : isMat K C b = true) : mulOk R K a K C b = allNum (mulL R K C a b) := by
  unfold mulOk
  rw [h1, h2]
  simp
theorem mul_yes {R K C : Nat} {a b : List Int} (h : mulOk R K a K C b = true) : mulR R K a K C b = R ∧ mulC R K a K C b = C ∧ mulV R K a K C b = mulL R K C a b := by simp [mulR, mulC, mulV, h]
theorem isMat_made {R C : Nat} {l : List Int} (hR : R ≤ 24) (hC : C ≤ 24) (hl : l.length = R * C) : isMat R C l = allNum l := by
  unfold isMat
  rw [(inB_iff _ 0 24).2 ⟨by omega, by omega⟩, (inB_iff _ 0 24).2 ⟨by omega, by omega⟩, hl]
  simp

section
set_option maxHeartbeats 2000000
theorem Own.rd_ {w : World} {B n c : Nat} {A : Option Addr} {l : List Int} (h : Own w B (.slice A n c) l) : Rd w A l := by
  obtain ⟨A', c', e, hr, _⟩ := h.val
  injection e with e1 _ _
  rw [e1]; exact hr

theorem l3Mul_c (R K C : Nat) (A B : Option Addr) (a b : List Int) (n m ca cb : Nat) (w : World) (hn : a.length = n) (hm : b.length = m) (ha : Rd w A a) (hb : Rd w B b) (h1 : isMat R K a = true) (h2 : isMat K C b = true) :
    Calls Try.prog 107 #[.agg #[.int .i64 R, .int .i64 K, .slice A n ca], .agg #[.int .i64 K, .int .i64 C, .slice B m cb]] w fun e w' =>
      ∃ v, e = .returned (.agg #[.int .i64 R, .int .i64 C, v]) ∧ Own w' w.heap.size v (mulL R K C a b) ∧ Grows w w' := by
  subst hn
  subst hm
  obtain ⟨R', K', e1, e2, hR, hK, la, na⟩ := isMat_nat h1
  obtain rfl : R = R' := by omega
  obtain rfl : K = K' := by omega
  obtain ⟨K', C', e3, e4, _, hC, lb, nb⟩ := isMat_nat h2
  obtain rfl : K = K' := by omega
  obtain rfl : C = C' := by omega
  have HD := Lib.hid (fun I J T (hI : I < R) (hJ : J < C) (hT : T ≤ K) => dot_bd na nb la lb hI hJ T hT)
  have HLA := Lib.hid la
  have HLB := Lib.hid lb
  have HNA := Lib.hid na
  have HNB := Lib.hid nb
  have HA := Lib.hid (rd_bound ha)
  have HB := Lib.hid (rd_bound hb)
  have hRC : R * C ≤ 576 := Nat.mul_le_mul hR hC
  clear la lb na nb e1 e2 e3 e4 h1 h2
  go_enter Try.func107, Try.ntmps107
  go_wp2_with fail
  refine (l3New_c R C _ (by omega)).mono ?_; rintro e w2 ⟨g, rfl, ho, g2⟩
  obtain ⟨ho1, ho2⟩ := ho.lt
  simp at ho1
  have z1 := Below.size g2; simp at z1
  have mb0 : MBox w2 w.heap.size R K (.slice A a.length ca) := (MBox.mk_ w R K (.slice A a.length ca) 26).grows (by (have bz0 := Below.size (g2); (try simp at bz0); (repeat' (first | with_reducible exact Below.refl _ _ | with_reducible assumption | (with_reducible refine Below.setCell ?_ ?_ _) | (with_reducible refine Below.alloc ?_ ?_ _) | (with_reducible refine Below.drew ?_) | (with_reducible refine below_drewN ?_ _) | (with_reducible refine Below.trans ?_ (Below.mono (g2) ?_)))); all_goals (first | omega | (simp; done) | (simp; omega) | (simp [*]; done) | (simp at *; omega))))
  have mb1 : MBox w2 (w.heap.size + 1) K C (.slice B b.length cb) := by have := (MBox.mk_ (w.alloc (.cells #[.int .i64 R, .int .i64 K, .slice A a.length ca] 26)) K C (.slice B b.length cb) 26).grows (w' := w2) (by (have bz0 := Below.size (g2); (try simp at bz0); (repeat' (first | with_reducible exact Below.refl _ _ | with_reducible assumption | (with_reducible refine Below.setCell ?_ ?_ _) | (with_reducible refine Below.alloc ?_ ?_ _) | (with_reducible refine Below.drew ?_) | (with_reducible refine below_drewN ?_ _) | (with_reducible refine Below.trans ?_ (Below.mono (g2) ?_)))); all_goals (first | omega | (simp; done) | (simp; omega) | (simp [*]; done) | (simp at *; omega)))); simpa using this
  have rb : MBox w2 (w.heap.size + 2) 0 0 (.slice none 0 0) := by have := (MBox.mk_ ((w.alloc (.cells #[.int .i64 R, .int .i64 K, .slice A a.length ca] 26)).alloc (.cells #[.int .i64 K, .int .i64 C, .slice B b.length cb] 26)) 0 0 (.slice none 0 0) 26).grows (w' := w2) (by (have bz0 := Below.size (g2); (try simp at bz0); (repeat' (first | with_reducible exact Below.refl _ _ | with_reducible assumption | (with_reducible refine Below.setCell ?_ ?_ _) | (with_reducible refine Below.alloc ?_ ?_ _) | (with_reducible refine Below.drew ?_) | (with_reducible refine below_drewN ?_ _) | (with_reducible refine Below.trans ?_ (Below.mono (g2) ?_)))); all_goals (first | omega | (simp; done) | (simp; omega) | (simp [*]; done) | (simp at *; omega)))); simpa using this
  have rda : Rd w2 A a := (Rd.grows ha (by (have bz0 := Below.size (g2); (try simp at bz0); (repeat' (first | with_reducible exact Below.refl _ _ | with_reducible assumption | (with_reducible refine Below.setCell ?_ ?_ _) | (with_reducible refine Below.alloc ?_ ?_ _) | (with_reducible refine Below.drew ?_) | (with_reducible refine below_drewN ?_ _) | (with_reducible refine Below.trans ?_ (Below.mono (g2) ?_)))); all_goals (first | omega | (simp; done) | (simp; omega) | (simp [*]; done) | (simp at *; omega)))))
  have rdb : Rd w2 B b := (Rd.grows hb (by (have bz0 := Below.size (g2); (try simp at bz0); (repeat' (first | with_reducible exact Below.refl _ _ | with_reducible assumption | (with_reducible refine Below.setCell ?_ ?_ _) | (with_reducible refine Below.alloc ?_ ?_ _) | (with_reducible refine Below.drew ?_) | (with_reducible refine below_drewN ?_ _) | (with_reducible refine Below.trans ?_ (Below.mono (g2) ?_)))); all_goals (first | omega | (simp; done) | (simp; omega) | (simp [*]; done) | (simp at *; omega)))))
  have gw : Grows w w2 := by (have bz0 := Below.size (g2); (try simp at bz0); (repeat' (first | with_reducible exact Below.refl _ _ | with_reducible assumption | (with_reducible refine Below.setCell ?_ ?_ _) | (with_reducible refine Below.alloc ?_ ?_ _) | (with_reducible refine Below.drew ?_) | (with_reducible refine below_drewN ?_ _) | (with_reducible refine Below.trans ?_ (Below.mono (g2) ?_)))); all_goals (first | omega | (simp; done) | (simp; omega) | (simp [*]; done) | (simp at *; omega)))
  replace ho := ho.less (show w.heap.size ≤ _ by simp; omega)
  have lo : w.heap.size + 2 < g := by omega
  clear g2 ho1 z1 ha hb
  obtain ⟨b00, b01, b02⟩ := mb0.cells
  obtain ⟨b10, b11, b12⟩ := mb1.cells
  go_wp2_with fail
  go_loopw [6] (fun i wr => ∃ (I : Nat) (m : List Int), i = .int .i64 I ∧ I ≤ R ∧ m.length = R * C ∧ Upto C (fun i j => dotTo a b K C i j K) I 0 m ∧ Own wr w.heap.size (.slice (some ⟨g, 0, none⟩) (R * C) (R * C)) m ∧ Rd wr A a ∧ Rd wr B b ∧ Grows w wr ∧ MBox wr w.heap.size R K (.slice A a.length ca) ∧ MBox wr (w.heap.size + 1) K C (.slice B b.length cb) ∧ MBox wr (w.heap.size + 2) 0 0 (.slice none 0 0) ∧ MBox wr w2.heap.size R C (.slice (some ⟨g, 0, none⟩) (R * C) (R * C))) (fun i _ => R - (intOf i).toNat)
  case atStart => exact ⟨0, _, rfl, Nat.zero_le _, by simp, Upto.zero _ _ _, ho.alloc _, rda.alloc _, rdb.alloc _, by (have bz0 := Below.size (gw); (try simp at bz0); (repeat' (first | with_reducible exact Below.refl _ _ | with_reducible assumption | (with_reducible refine Below.setCell ?_ ?_ _) | (with_reducible refine Below.alloc ?_ ?_ _) | (with_reducible refine Below.drew ?_) | (with_reducible refine below_drewN ?_ _) | (with_reducible refine Below.trans ?_ (Below.mono (gw) ?_)))); all_goals (first | omega | (simp; done) | (simp; omega) | (simp [*]; done) | (simp at *; omega))), mb0.grows (by ((repeat' (first | with_reducible exact Below.refl _ _ | with_reducible assumption | (with_reducible refine Below.setCell ?_ ?_ _) | (with_reducible refine Below.alloc ?_ ?_ _) | (with_reducible refine Below.drew ?_) | (with_reducible refine below_drewN ?_ _))); all_goals (first | omega | (simp; done) | (simp; omega) | (simp [*]; done) | (simp at *; omega)))), mb1.grows (by ((repeat' (first | with_reducible exact Below.refl _ _ | with_reducible assumption | (with_reducible refine Below.setCell ?_ ?_ _) | (with_reducible refine Below.alloc ?_ ?_ _) | (with_reducible refine Below.drew ?_) | (with_reducible refine below_drewN ?_ _))); all_goals (first | omega | (simp; done) | (simp; omega) | (simp [*]; done) | (simp at *; omega)))), rb.grows (by ((repeat' (first | with_reducible exact Below.refl _ _ | with_reducible assumption | (with_reducible refine Below.setCell ?_ ?_ _) | (with_reducible refine Below.alloc ?_ ?_ _) | (with_reducible refine Below.drew ?_) | (with_reducible refine below_drewN ?_ _))); all_goals (first | omega | (simp; done) | (simp; omega) | (simp [*]; done) | (simp at *; omega)))), MBox.mk_ _ _ _ _ _⟩
  case round =>
    clear mb0 mb1 rb rda rdb gw ho b00 b01 b02 b10 b11 b12
    obtain ⟨I, m, rfl, hI, hml, hup, how, hra, hrb, hgr, hm0, hm1, hrr, hmo⟩ := hrel
    have HU := Lib.hid hup
    have HML := Lib.hid hml
    clear hup hml
    obtain ⟨b00, b01, b02⟩ := hm0.cells
    obtain ⟨b10, b11, b12⟩ := hm1.cells
    by_cases hlt : I < R
    · go_wp2_with fail
      obtain ⟨wo, rfl⟩ : ∃ wo : World, wo = wr := ⟨_, rfl⟩
      go_loopw [7] (fun j wr => ∃ (J : Nat) (m : List Int), j = .int .i64 J ∧ J ≤ C ∧ m.length = R * C ∧ Upto C (fun i j => dotTo a b K C i j K) I J m ∧ Own wr w.heap.size (.slice (some ⟨g, 0, none⟩) (R * C) (R * C)) m ∧ Rd wr A a ∧ Rd wr B b ∧ Grows w wr ∧ MBox wr w.heap.size R K (.slice A a.length ca) ∧ MBox wr (w.heap.size + 1) K C (.slice B b.length cb) ∧ MBox wr (w.heap.size + 2) 0 0 (.slice none 0 0) ∧ MBox wr w2.heap.size R C (.slice (some ⟨g, 0, none⟩) (R * C) (R * C))) (fun j _ => C - (intOf j).toNat)
      case atStart => exact ⟨0, m, rfl, Nat.zero_le _, HML.out, HU.out, how, hra, hrb, hgr, hm0, hm1, hrr, hmo⟩
      case round =>
        clear HU HML b00 b01 b02 b10 b11 b12 how hra hrb hgr hm0 hm1 hrr hmo
        obtain ⟨J, m, rfl, hJ, hml, hup, how, hra, hrb, hgr, hm0, hm1, hrr, hmo⟩ := hrel
        have HU := Lib.hid hup
        have HML := Lib.hid hml
        clear hup hml
        obtain ⟨b00, b01, b02⟩ := hm0.cells
        obtain ⟨b10, b11, b12⟩ := hm1.cells
        by_cases hlt2 : J < C
        · go_wp2_with fail
          obtain ⟨wi, rfl⟩ : ∃ wi : World, wi = wr := ⟨_, rfl⟩
          go_loopw [8, 9] (fun s t wr => ∃ (T : Nat), t = .int .i64 T ∧ T ≤ K ∧ s = .int .i64 (dotTo a b K C I J T) ∧ Own wr w.heap.size (.slice (some ⟨g, 0, none⟩) (R * C) (R * C)) m ∧ Rd wr A a ∧ Rd wr B b ∧ Grows w wr ∧ MBox wr w.heap.size R K (.slice A a.length ca) ∧ MBox wr (w.heap.size + 1) K C (.slice B b.length cb) ∧ MBox wr (w.heap.size + 2) 0 0 (.slice none 0 0) ∧ MBox wr w2.heap.size R C (.slice (some ⟨g, 0, none⟩) (R * C) (R * C))) (fun _ t _ => K - (intOf t).toNat)
          case atStart => exact ⟨0, rfl, Nat.zero_le _, rfl, how, hra, hrb, hgr, hm0, hm1, hrr, hmo⟩
          case round =>
            clear b00 b01 b02 b10 b11 b12 how hra hrb hgr hm0 hm1 hrr hmo
            obtain ⟨T, rfl, hT, rfl, how, hra, hrb, hgr, hm0, hm1, hrr, hmo⟩ := hrel
            by_cases hlt3 : T < K
            · have d0 := HD.out I J T hlt hlt2 (by omega)
              have d1 := HD.out I J (T + 1) hlt hlt2 (by omega)
              simp only [dotTo] at d1
              have hmul := mul_bd (HNA.out (I * K + T) (by rw [HLA.out]; exact idx_lt hlt hlt3)) (HNB.out (T * C + J) (by rw [HLB.out]; exact idx_lt hlt3 hlt2))
              obtain ⟨b00, b01, b02⟩ := hm0.cells
              obtain ⟨b10, b11, b12⟩ := hm1.cells
              have i1 := castMul I K
              have i2 : (I : Int) * (K : Int) ≤ ((1048576 : Nat) : Int) := castMulLe (by have := Nat.mul_le_mul (Nat.le_of_lt hlt) hK; have := Nat.mul_le_mul hR (Nat.le_refl 24); omega)
              have i3 := castPos I K T
              have i4 : (I : Int) * (K : Int) + (T : Int) < (a.length : Int) := castLt (by rw [HLA.out]; exact idx_lt hlt hlt3)
              have k1 := castMul T C
              have k2 : (T : Int) * (C : Int) ≤ ((1048576 : Nat) : Int) := castMulLe (by have := Nat.mul_le_mul (Nat.le_of_lt hlt3) hC; have := Nat.mul_le_mul hK (Nat.le_refl 24); omega)
              have k3 := castPos T C J
              have k4 : (T : Int) * (C : Int) + (J : Int) < (b.length : Int) := castLt (by rw [HLB.out]; exact idx_lt hlt3 hlt2)
              have la5 : a.length ≤ 1099511627776 := by have := HLA.out; have := Nat.mul_le_mul hR hK; omega
              have lb5 : b.length ≤ 1099511627776 := by have := HLB.out; have := Nat.mul_le_mul hK hC; omega
              have e1 : IntKind.i64.wrap (nth a (I * K + T) * nth b (T * C + J)) = nth a (I * K + T) * nth b (T * C + J) := IntWalk.i64_in _ (by omega)
              have e2 : IntKind.i64.wrap (dotTo a b K C I J T + nth a (I * K + T) * nth b (T * C + J)) = dotTo a b K C I J T + nth a (I * K + T) * nth b (T * C + J) := IntWalk.i64_in _ (by omega)
              obtain ⟨ba, oa, rfl, hba, hca⟩ := hra.at_ (I * K + T) (by rw [HLA.out]; exact idx_lt hlt hlt3)
              obtain ⟨bb, ob, rfl, hbb, hcb⟩ := hrb.at_ (T * C + J) (by rw [HLB.out]; exact idx_lt hlt3 hlt2)
              go_wp2_with fail
              clear b00 b01 b02 b10 b11 b12
              obtain ⟨x0, x1, x2⟩ := hm0.ext
              obtain ⟨y0, y1, y2⟩ := hm1.ext
              have x3 := ext_is hca
              have y3 := ext_is hcb
              have q1 : ((I : Int) * (K : Int) + (T : Int)).toNat = I * K + T := castIdx I K T
              have q2 : ((T : Int) * (C : Int) + (J : Int)).toNat = T * C + J := castIdx T C J
              ((refine wp_region_ext (by kernel_rfl) (by kernel_rfl) ?_); (repeat (go_big_quiet_step ((fail)))); refine wpQuiet_nil ?_; rintro w3 ⟨w30, hw30⟩; have g3 := grows_of_ext hw30; clear hw30 w30)
              clear q1 q2
              clear e1 e2
              go_wp2_with fail
              go_round
              case rel => exact ⟨T + 1, by go_num, by omega, rfl, how.grows g3, hra.grows g3, hrb.grows g3, Grows.trans hgr g3, hm0.grows g3, hm1.grows g3, hrr.grows g3, hmo.grows g3⟩
              case measure => simp [intOf]; omega
            · obtain rfl : T = K := by omega
              obtain ⟨b00, b01, b02⟩ := hm0.cells
              obtain ⟨b10, b11, b12⟩ := hm1.cells
              obtain ⟨bo0, bo1, bo2⟩ := hmo.cells
              have hi2 : I * C + J < R * C := idx_lt hlt hlt2
              have k1 := how.cell (I * C + J) (by rw [HML.out]; exact hi2)
              have k2 := how.free (I * C + J)
              have hs3 := Below.size hgr
              have i1 := castMul I C
              have i2 : (I : Int) * (C : Int) ≤ ((1048576 : Nat) : Int) := castMulLe (by omega)
              have i3 := castPos I C J
              have i4 : (I : Int) * (C : Int) + (J : Int) < ((R * C : Nat) : Int) := castLt hi2
              have i4' : (I : Int) * (C : Int) + (J : Int) < (R : Int) * (C : Int) := by rw [← Int.natCast_mul R C]; exact i4
              have gb : wr.grownBy (wr.setCell ⟨g, I * C + J, none⟩ (.int .i64 (dotTo a b T C I J T))) (some g) := only_setCell (p := ⟨g, I * C + J, none⟩) (World.grownBy.refl wr _) rfl _
              have ho4 : Own (wr.setCell ⟨g, I * C + J, none⟩ (.int .i64 (dotTo a b T C I J T))) w.heap.size (.slice (some ⟨g, 0, none⟩) (R * C) (R * C)) (m.set (I * C + J) (dotTo a b T C I J T)) := by
                have := how
                rw [← HML.out] at this ⊢
                exact this.set _ _
              go_wp2_with fail
              go_round
              case rel => exact ⟨J + 1, _, by go_num, by omega, by rw [List.length_set]; exact HML.out, Upto.set HU.out HML.out hlt hlt2, ho4, hra.only HA.out gb (by omega), hrb.only HB.out gb (by omega), below_only hgr gb (by omega) (by omega), hm0.only gb (by omega), hm1.only gb (by omega), hrr.only gb (by omega), hmo.only gb (by omega)⟩
              case measure => simp [intOf]; omega
        · obtain rfl : J = C := by omega
          go_wp2_with fail
          go_round
          case rel => exact ⟨I + 1, m, by go_num, by omega, HML.out, Upto.row HU.out, how, hra, hrb, hgr, hm0, hm1, hrr, hmo⟩
          case measure => simp [intOf]; omega
    · obtain rfl : I = R := by omega
      have hfin : m = mulL I K C a b := Upto.all HU.out HML.out
      subst hfin
      obtain ⟨bo0, bo1, bo2⟩ := hmo.cells
      obtain ⟨r0, r1, r2⟩ := hrr.cells
      have rf := hrr.fz
      go_wp2_with fail
      refine bodyPost_ret (v := .agg #[.int .i64 I, .int .i64 C, .slice (some ⟨g, 0, none⟩) (I * C) (I * C)]) ?_ rfl ?_
      · simp [results, Try.results107, go_sem, r0, r1, r2]
      · have hs5 := Below.size hgr
        exact ⟨_, rfl, ((how.far (by intro k hk; simp [Value.ownBlock] at hk; simp; omega) _).far (by intro k hk; simp [Value.ownBlock] at hk; simp; omega) _).far (by intro k hk; simp [Value.ownBlock] at hk; simp; omega) _, by (have bz0 := Below.size (hgr); (try simp at bz0); (repeat' (first | with_reducible exact Below.refl _ _ | with_reducible assumption | (with_reducible refine Below.setCell ?_ ?_ _) | (with_reducible refine Below.alloc ?_ ?_ _) | (with_reducible refine Below.drew ?_) | (with_reducible refine below_drewN ?_ _) | (with_reducible refine Below.trans ?_ (Below.mono (hgr) ?_)))); all_goals (first | omega | (simp; done) | (simp; omega) | (simp [*]; done) | (simp at *; omega)))⟩

theorem iMul_yes (ok : Bool) (R K C : Nat) (A B : Option Addr) (a b : List Int) (n m ca cb : Nat) (w : World) (hn : a.length = n) (hm : b.length = m) (ha : Rd w A a) (hb : Rd w B b) (h1 : isMat R K a = true) (h2 : isMat K C b = true) (hok : allNum (mulL R K C a b) = ok) :
    Calls Try.prog 58 #[.agg #[.int .i64 R, .int .i64 K, .slice A n ca], .agg #[.int .i64 K, .int .i64 C, .slice B m cb]] w fun e w' =>
      ∃ v, e = .returned (.tuple #[.agg #[.int .i64 (if ok then R else 0), .int .i64 (if ok then C else 0), v], .bool ok]) ∧ Own w' w.heap.size v (if ok then mulL R K C a b else []) ∧ Grows w w' := by
  subst hn
  subst hm
  obtain ⟨R', K', e1, e2, hR, hK, la, na⟩ := isMat_nat h1
  obtain rfl : R = R' := by omega
  obtain rfl : K = K' := by omega
  obtain ⟨K', C', e3, e4, _, hC, lb, nb⟩ := isMat_nat h2
  obtain rfl : K = K' := by omega
  obtain rfl : C = C' := by omega
  have HD := Lib.hid (fun I J T (hI : I < R) (hJ : J < C) (hT : T ≤ K) => dot_bd na nb la lb hI hJ T hT)
  have HLA := Lib.hid la
  have HLB := Lib.hid lb
  have HNA := Lib.hid na
  have HNB := Lib.hid nb
  have HA := Lib.hid (rd_bound ha)
  have HB := Lib.hid (rd_bound hb)
  have hRC : R * C ≤ 576 := Nat.mul_le_mul hR hC
  have la5 : a.length ≤ 1099511627776 := by have := Nat.mul_le_mul hR hK; omega
  have lb5 : b.length ≤ 1099511627776 := by have := Nat.mul_le_mul hK hC; omega
  have C1 := fun W h => iIsMatrix_c R K A a a.length ca W rfl h la5
  have C2 := fun W h => iIsMatrix_c K C B b b.length cb W rfl h lb5
  rw [h1] at C1
  rw [h2] at C2
  have HC1 := Lib.hid C1
  have HC2 := Lib.hid C2
  have HOK := Lib.hid hok
  clear la lb na nb e1 e2 e3 e4 h1 h2 C1 C2 hok
  go_enter Try.func58, Try.ntmps58
  go_wp2_with fail
  refine (HC1.out _ (by exact (Rd.grows ha (by ((repeat' (first | with_reducible exact Below.refl _ _ | with_reducible assumption | (with_reducible refine Below.setCell ?_ ?_ _) | (with_reducible refine Below.alloc ?_ ?_ _) | (with_reducible refine Below.drew ?_) | (with_reducible refine below_drewN ?_ _))); all_goals (first | omega | (simp; done) | (simp; omega) | (simp [*]; done) | (simp at *; omega))))))).mono ?_; rintro e v1 ⟨rfl, g1⟩
  have z1 := Below.size g1; simp at z1
  have mb0 : MBox v1 w.heap.size R K (.slice A a.length ca) := (MBox.mk_ w R K (.slice A a.length ca) 26).grows (by (have bz0 := Below.size (g1); (try simp at bz0); (repeat' (first | with_reducible exact Below.refl _ _ | with_reducible assumption | (with_reducible refine Below.setCell ?_ ?_ _) | (with_reducible refine Below.alloc ?_ ?_ _) | (with_reducible refine Below.drew ?_) | (with_reducible refine below_drewN ?_ _) | (with_reducible refine Below.trans ?_ (Below.mono (g1) ?_)))); all_goals (first | omega | (simp; done) | (simp; omega) | (simp [*]; done) | (simp at *; omega))))
  have mb1 : MBox v1 (w.heap.size + 1) K C (.slice B b.length cb) := by have := (MBox.mk_ (w.alloc (.cells #[.int .i64 R, .int .i64 K, .slice A a.length ca] 26)) K C (.slice B b.length cb) 26).grows (w' := v1) (by (have bz0 := Below.size (g1); (try simp at bz0); (repeat' (first | with_reducible exact Below.refl _ _ | with_reducible assumption | (with_reducible refine Below.setCell ?_ ?_ _) | (with_reducible refine Below.alloc ?_ ?_ _) | (with_reducible refine Below.drew ?_) | (with_reducible refine below_drewN ?_ _) | (with_reducible refine Below.trans ?_ (Below.mono (g1) ?_)))); all_goals (first | omega | (simp; done) | (simp; omega) | (simp [*]; done) | (simp at *; omega)))); simpa using this
  have rb : MBox v1 (w.heap.size + 2) 0 0 (.slice none 0 0) := by have := (MBox.mk_ ((w.alloc (.cells #[.int .i64 R, .int .i64 K, .slice A a.length ca] 26)).alloc (.cells #[.int .i64 K, .int .i64 C, .slice B b.length cb] 26)) 0 0 (.slice none 0 0) 26).grows (w' := v1) (by (have bz0 := Below.size (g1); (try simp at bz0); (repeat' (first | with_reducible exact Below.refl _ _ | with_reducible assumption | (with_reducible refine Below.setCell ?_ ?_ _) | (with_reducible refine Below.alloc ?_ ?_ _) | (with_reducible refine Below.drew ?_) | (with_reducible refine below_drewN ?_ _) | (with_reducible refine Below.trans ?_ (Below.mono (g1) ?_)))); all_goals (first | omega | (simp; done) | (simp; omega) | (simp [*]; done) | (simp at *; omega)))); simpa using this
  have rda : Rd v1 A a := (Rd.grows ha (by (have bz0 := Below.size (g1); (try simp at bz0); (repeat' (first | with_reducible exact Below.refl _ _ | with_reducible assumption | (with_reducible refine Below.setCell ?_ ?_ _) | (with_reducible refine Below.alloc ?_ ?_ _) | (with_reducible refine Below.drew ?_) | (with_reducible refine below_drewN ?_ _) | (with_reducible refine Below.trans ?_ (Below.mono (g1) ?_)))); all_goals (first | omega | (simp; done) | (simp; omega) | (simp [*]; done) | (simp at *; omega)))))
  have rdb : Rd v1 B b := (Rd.grows hb (by (have bz0 := Below.size (g1); (try simp at bz0); (repeat' (first | with_reducible exact Below.refl _ _ | with_reducible assumption | (with_reducible refine Below.setCell ?_ ?_ _) | (with_reducible refine Below.alloc ?_ ?_ _) | (with_reducible refine Below.drew ?_) | (with_reducible refine below_drewN ?_ _) | (with_reducible refine Below.trans ?_ (Below.mono (g1) ?_)))); all_goals (first | omega | (simp; done) | (simp; omega) | (simp [*]; done) | (simp at *; omega)))))
  have gw : Grows w v1 := by (have bz0 := Below.size (g1); (try simp at bz0); (repeat' (first | with_reducible exact Below.refl _ _ | with_reducible assumption | (with_reducible refine Below.setCell ?_ ?_ _) | (with_reducible refine Below.alloc ?_ ?_ _) | (with_reducible refine Below.drew ?_) | (with_reducible refine below_drewN ?_ _) | (with_reducible refine Below.trans ?_ (Below.mono (g1) ?_)))); all_goals (first | omega | (simp; done) | (simp; omega) | (simp [*]; done) | (simp at *; omega)))
  clear g1 ha hb
  obtain ⟨b00, b01, b02⟩ := mb0.cells
  obtain ⟨b10, b11, b12⟩ := mb1.cells
  go_wp2_with fail
  refine (HC2.out _ (by exact (Rd.grows rdb (by ((repeat' (first | with_reducible exact Below.refl _ _ | with_reducible assumption | (with_reducible refine Below.setCell ?_ ?_ _) | (with_reducible refine Below.alloc ?_ ?_ _) | (with_reducible refine Below.drew ?_) | (with_reducible refine below_drewN ?_ _))); all_goals (first | omega | (simp; done) | (simp; omega) | (simp [*]; done) | (simp at *; omega))))))).mono ?_; rintro e v2 ⟨rfl, g1⟩
  have z2 := Below.size g1
  replace mb0 := mb0.grows g1
  replace mb1 := mb1.grows g1
  replace rb := rb.grows g1
  replace rda := rda.grows g1
  replace rdb := rdb.grows g1
  replace gw : Grows w v2 := Grows.trans gw g1
  clear g1 b00 b01 b02 b10 b11 b12
  obtain ⟨b00, b01, b02⟩ := mb0.cells
  obtain ⟨b10, b11, b12⟩ := mb1.cells
  go_wp2_with fail
  refine (newMatrix_c R C _ (by omega)).mono ?_; rintro e w2 ⟨g, rfl, ho, g2⟩
  obtain ⟨ho1, ho2⟩ := ho.lt
  have z3 := Below.size g2
  replace mb0 := mb0.grows g2
  replace mb1 := mb1.grows g2
  replace rb := rb.grows g2
  replace rda := rda.grows g2
  replace rdb := rdb.grows g2
  replace gw : Grows w w2 := Grows.trans gw g2
  replace ho := ho.less (show w.heap.size ≤ _ by omega)
  have lo : w.heap.size + 2 < g := by omega
  clear g2 ho1 z1 z2 z3 b00 b01 b02 b10 b11 b12
  obtain ⟨b00, b01, b02⟩ := mb0.cells
  obtain ⟨b10, b11, b12⟩ := mb1.cells
  go_wp2_with fail
  go_loopw [7] (fun i wr => ∃ (I : Nat) (m : List Int), i = .int .i64 I ∧ I ≤ R ∧ m.length = R * C ∧ Upto C (fun i j => dotTo a b K C i j K) I 0 m ∧ Own wr w.heap.size (.slice (some ⟨g, 0, none⟩) (R * C) (R * C)) m ∧ Rd wr A a ∧ Rd wr B b ∧ Grows w wr ∧ MBox wr w.heap.size R K (.slice A a.length ca) ∧ MBox wr (w.heap.size + 1) K C (.slice B b.length cb) ∧ MBox wr (w.heap.size + 2) 0 0 (.slice none 0 0) ∧ MBox wr w2.heap.size R C (.slice (some ⟨g, 0, none⟩) (R * C) (R * C))) (fun i _ => R - (intOf i).toNat)
  case atStart => exact ⟨0, _, rfl, Nat.zero_le _, by simp, Upto.zero _ _ _, ho.alloc _, rda.alloc _, rdb.alloc _, by (have bz0 := Below.size (gw); (try simp at bz0); (repeat' (first | with_reducible exact Below.refl _ _ | with_reducible assumption | (with_reducible refine Below.setCell ?_ ?_ _) | (with_reducible refine Below.alloc ?_ ?_ _) | (with_reducible refine Below.drew ?_) | (with_reducible refine below_drewN ?_ _) | (with_reducible refine Below.trans ?_ (Below.mono (gw) ?_)))); all_goals (first | omega | (simp; done) | (simp; omega) | (simp [*]; done) | (simp at *; omega))), mb0.grows (by ((repeat' (first | with_reducible exact Below.refl _ _ | with_reducible assumption | (with_reducible refine Below.setCell ?_ ?_ _) | (with_reducible refine Below.alloc ?_ ?_ _) | (with_reducible refine Below.drew ?_) | (with_reducible refine below_drewN ?_ _))); all_goals (first | omega | (simp; done) | (simp; omega) | (simp [*]; done) | (simp at *; omega)))), mb1.grows (by ((repeat' (first | with_reducible exact Below.refl _ _ | with_reducible assumption | (with_reducible refine Below.setCell ?_ ?_ _) | (with_reducible refine Below.alloc ?_ ?_ _) | (with_reducible refine Below.drew ?_) | (with_reducible refine below_drewN ?_ _))); all_goals (first | omega | (simp; done) | (simp; omega) | (simp [*]; done) | (simp at *; omega)))), rb.grows (by ((repeat' (first | with_reducible exact Below.refl _ _ | with_reducible assumption | (with_reducible refine Below.setCell ?_ ?_ _) | (with_reducible refine Below.alloc ?_ ?_ _) | (with_reducible refine Below.drew ?_) | (with_reducible refine below_drewN ?_ _))); all_goals (first | omega | (simp; done) | (simp; omega) | (simp [*]; done) | (simp at *; omega)))), MBox.mk_ _ _ _ _ _⟩
  case round =>
    clear mb0 mb1 rb rda rdb gw ho b00 b01 b02 b10 b11 b12
    obtain ⟨I, m, rfl, hI, hml, hup, how, hra, hrb, hgr, hm0, hm1, hrr, hmo⟩ := hrel
    have HU := Lib.hid hup
    have HML := Lib.hid hml
    clear hup hml
    obtain ⟨b00, b01, b02⟩ := hm0.cells
    obtain ⟨b10, b11, b12⟩ := hm1.cells
    by_cases hlt : I < R
    · go_wp2_with fail
      obtain ⟨wo, rfl⟩ : ∃ wo : World, wo = wr := ⟨_, rfl⟩
      go_loopw [8] (fun j wr => ∃ (J : Nat) (m : List Int), j = .int .i64 J ∧ J ≤ C ∧ m.length = R * C ∧ Upto C (fun i j => dotTo a b K C i j K) I J m ∧ Own wr w.heap.size (.slice (some ⟨g, 0, none⟩) (R * C) (R * C)) m ∧ Rd wr A a ∧ Rd wr B b ∧ Grows w wr ∧ MBox wr w.heap.size R K (.slice A a.length ca) ∧ MBox wr (w.heap.size + 1) K C (.slice B b.length cb) ∧ MBox wr (w.heap.size + 2) 0 0 (.slice none 0 0) ∧ MBox wr w2.heap.size R C (.slice (some ⟨g, 0, none⟩) (R * C) (R * C))) (fun j _ => C - (intOf j).toNat)
      case atStart => exact ⟨0, m, rfl, Nat.zero_le _, HML.out, HU.out, how, hra, hrb, hgr, hm0, hm1, hrr, hmo⟩
      case round =>
        clear HU HML b00 b01 b02 b10 b11 b12 how hra hrb hgr hm0 hm1 hrr hmo
        obtain ⟨J, m, rfl, hJ, hml, hup, how, hra, hrb, hgr, hm0, hm1, hrr, hmo⟩ := hrel
        have HU := Lib.hid hup
        have HML := Lib.hid hml
        clear hup hml
        obtain ⟨b00, b01, b02⟩ := hm0.cells
        obtain ⟨b10, b11, b12⟩ := hm1.cells
        by_cases hlt2 : J < C
        · go_wp2_with fail
          obtain ⟨wi, rfl⟩ : ∃ wi : World, wi = wr := ⟨_, rfl⟩
          go_loopw [9, 10] (fun s t wr => ∃ (T : Nat), t = .int .i64 T ∧ T ≤ K ∧ s = .int .i64 (dotTo a b K C I J T) ∧ Own wr w.heap.size (.slice (some ⟨g, 0, none⟩) (R * C) (R * C)) m ∧ Rd wr A a ∧ Rd wr B b ∧ Grows w wr ∧ MBox wr w.heap.size R K (.slice A a.length ca) ∧ MBox wr (w.heap.size + 1) K C (.slice B b.length cb) ∧ MBox wr (w.heap.size + 2) 0 0 (.slice none 0 0) ∧ MBox wr w2.heap.size R C (.slice (some ⟨g, 0, none⟩) (R * C) (R * C))) (fun _ t _ => K - (intOf t).toNat)
          case atStart => exact ⟨0, rfl, Nat.zero_le _, rfl, how, hra, hrb, hgr, hm0, hm1, hrr, hmo⟩
          case round =>
            clear b00 b01 b02 b10 b11 b12 how hra hrb hgr hm0 hm1 hrr hmo
            obtain ⟨T, rfl, hT, rfl, how, hra, hrb, hgr, hm0, hm1, hrr, hmo⟩ := hrel
            by_cases hlt3 : T < K
            · have d0 := HD.out I J T hlt hlt2 (by omega)
              have d1 := HD.out I J (T + 1) hlt hlt2 (by omega)
              simp only [dotTo] at d1
              have hmul := mul_bd (HNA.out (I * K + T) (by rw [HLA.out]; exact idx_lt hlt hlt3)) (HNB.out (T * C + J) (by rw [HLB.out]; exact idx_lt hlt3 hlt2))
              obtain ⟨b00, b01, b02⟩ := hm0.cells
              obtain ⟨b10, b11, b12⟩ := hm1.cells
              have i1 := castMul I K
              have i2 : (I : Int) * (K : Int) ≤ ((1048576 : Nat) : Int) := castMulLe (by have := Nat.mul_le_mul (Nat.le_of_lt hlt) hK; have := Nat.mul_le_mul hR (Nat.le_refl 24); omega)
              have i3 := castPos I K T
              have i4 : (I : Int) * (K : Int) + (T : Int) < (a.length : Int) := castLt (by rw [HLA.out]; exact idx_lt hlt hlt3)
              have k1 := castMul T C
              have k2 : (T : Int) * (C : Int) ≤ ((1048576 : Nat) : Int) := castMulLe (by have := Nat.mul_le_mul (Nat.le_of_lt hlt3) hC; have := Nat.mul_le_mul hK (Nat.le_refl 24); omega)
              have k3 := castPos T C J
              have k4 : (T : Int) * (C : Int) + (J : Int) < (b.length : Int) := castLt (by rw [HLB.out]; exact idx_lt hlt3 hlt2)
              have la5 : a.length ≤ 1099511627776 := by have := HLA.out; have := Nat.mul_le_mul hR hK; omega
              have lb5 : b.length ≤ 1099511627776 := by have := HLB.out; have := Nat.mul_le_mul hK hC; omega
              have e1 : IntKind.i64.wrap (nth a (I * K + T) * nth b (T * C + J)) = nth a (I * K + T) * nth b (T * C + J) := IntWalk.i64_in _ (by omega)
              have e2 : IntKind.i64.wrap (dotTo a b K C I J T + nth a (I * K + T) * nth b (T * C + J)) = dotTo a b K C I J T + nth a (I * K + T) * nth b (T * C + J) := IntWalk.i64_in _ (by omega)
              have C1 := Lib.hid fun W => at_c R K A a a.length ca I T (ext wr W) rfl (Rd.ext hra W) (by omega) (by omega) (by omega) (by omega) la5
              have C2 := Lib.hid fun W => at_c K C B b b.length cb T J (ext wr W) rfl (Rd.ext hrb W) (by omega) (by omega) (by omega) (by omega) lb5
              rw [castIdx] at C1 C2
              have D1 := Lib.hid C1.out
              have D2 := Lib.hid C2.out
              clear C1 C2
              go_wp2_with fail
              clear b00 b01 b02 b10 b11 b12
              obtain ⟨x0, x1, x2⟩ := hm0.ext
              obtain ⟨y0, y1, y2⟩ := hm1.ext
              ((refine wp_region_ext (by kernel_rfl) (by kernel_rfl) ?_); (repeat (go_big_quiet_step ((first | (go_at_call 78; with_reducible exact extC (D1.out _)) | (go_at_call 78; with_reducible exact extC (D2.out _)))))); refine wpQuiet_nil ?_; rintro w3 ⟨w30, hw30⟩; have g3 := grows_of_ext hw30; clear hw30 w30)
              clear e1 e2
              go_wp2_with fail
              go_round
              case rel => exact ⟨T + 1, by go_num, by omega, rfl, how.grows g3, hra.grows g3, hrb.grows g3, Grows.trans hgr g3, hm0.grows g3, hm1.grows g3, hrr.grows g3, hmo.grows g3⟩
              case measure => simp [intOf]; omega
            · obtain rfl : T = K := by omega
              obtain ⟨b00, b01, b02⟩ := hm0.cells
              obtain ⟨b10, b11, b12⟩ := hm1.cells
              obtain ⟨bo0, bo1, bo2⟩ := hmo.cells
              have hi2 : I * C + J < R * C := idx_lt hlt hlt2
              have hs3 := Below.size hgr
              go_wp2_with fail
              have hRC2 : I * C ≤ 1048576 := by omega
              refine (set_c R C g (R * C) (R * C) w.heap.size m I J _ wr HML.out how hRC2 hi2 (by omega)).mono ?_; rintro e w4 ⟨rfl, ho4, gb⟩
              go_wp2_with fail
              go_round
              case rel => exact ⟨J + 1, _, by go_num, by omega, by rw [List.length_set]; exact HML.out, Upto.set HU.out HML.out hlt hlt2, ho4, hra.only HA.out gb (by omega), hrb.only HB.out gb (by omega), below_only hgr gb (by omega) (by omega), hm0.only gb (by omega), hm1.only gb (by omega), hrr.only gb (by omega), hmo.only gb (by omega)⟩
              case measure => simp [intOf]; omega
        · obtain rfl : J = C := by omega
          go_wp2_with fail
          go_round
          case rel => exact ⟨I + 1, m, by go_num, by omega, HML.out, Upto.row HU.out, how, hra, hrb, hgr, hm0, hm1, hrr, hmo⟩
          case measure => simp [intOf]; omega
    · obtain rfl : I = R := by omega
      have hfin : m = mulL I K C a b := Upto.all HU.out HML.out
      subst hfin
      obtain ⟨bo0, bo1, bo2⟩ := hmo.cells
      obtain ⟨r0, r1, r2⟩ := hrr.cells
      have rf := hrr.fz
      go_wp2_with fail
      have hmm := isMat_made hR hC (mulL_length I K C a b)
      rw [HOK.out] at hmm
      have ln := mulL_length I K C a b
      have hs5 := Below.size hgr
      have hrd := how.rd_
      have HLN := Lib.hid ln
      clear ln
      cases ok
      · refine (checked_no I C _ (mulL I K C a b) _ _ wr HLN.out hrd (by omega) hmm).mono ?_; rintro e w5 ⟨rfl, g5⟩
        clear hmm r0 r1 r2 rf
        obtain ⟨r0, r1, r2⟩ := (hrr.grows g5).cells
        have rf := (hrr.grows g5).fz
        go_wp2_with fail
        refine bodyPost_ret (v := .tuple #[.agg #[.int .i64 0, .int .i64 0, .slice none 0 0], .bool false]) ?_ rfl ?_
        · simp [results, Try.results58, go_sem, r0, r1, r2]
        · exact ⟨_, rfl, Own.nil _ _, by (have bz0 := Below.size (g5); (try simp at bz0); have bz1 := Below.size (hgr); (try simp at bz1); (repeat' (first | with_reducible exact Below.refl _ _ | with_reducible assumption | (with_reducible refine Below.setCell ?_ ?_ _) | (with_reducible refine Below.alloc ?_ ?_ _) | (with_reducible refine Below.drew ?_) | (with_reducible refine below_drewN ?_ _) | (with_reducible refine Below.trans ?_ (Below.mono (g5) ?_)) | (with_reducible refine Below.trans ?_ (Below.mono (hgr) ?_)))); all_goals (first | omega | (simp; done) | (simp; omega) | (simp [*]; done) | (simp at *; omega)))⟩
      · refine (checked_yes I C _ (mulL I K C a b) _ _ wr HLN.out hrd (by omega) hmm).mono ?_; rintro e w5 ⟨rfl, g5⟩
        clear hmm r0 r1 r2 rf
        obtain ⟨r0, r1, r2⟩ := (hrr.grows g5).cells
        have rf := (hrr.grows g5).fz
        go_wp2_with fail
        refine bodyPost_ret (v := .tuple #[.agg #[.int .i64 I, .int .i64 C, .slice (some ⟨g, 0, none⟩) (I * C) (I * C)], .bool true]) ?_ rfl ?_
        · simp [results, Try.results58, go_sem, r0, r1, r2]
        · have how5 := how.grows g5
          refine ⟨_, rfl, ?_, by (have bz0 := Below.size (g5); (try simp at bz0); have bz1 := Below.size (hgr); (try simp at bz1); (repeat' (first | with_reducible exact Below.refl _ _ | with_reducible assumption | (with_reducible refine Below.setCell ?_ ?_ _) | (with_reducible refine Below.alloc ?_ ?_ _) | (with_reducible refine Below.drew ?_) | (with_reducible refine below_drewN ?_ _) | (with_reducible refine Below.trans ?_ (Below.mono (g5) ?_)) | (with_reducible refine Below.trans ?_ (Below.mono (hgr) ?_)))); all_goals (first | omega | (simp; done) | (simp; omega) | (simp [*]; done) | (simp at *; omega)))⟩
          exact ((how5.far (by intro k hk; simp [Value.ownBlock] at hk; simp; omega) _).far (by intro k hk; simp [Value.ownBlock] at hk; simp; omega) _).far (by intro k hk; simp [Value.ownBlock] at hk; simp; omega) _
end
end Go.Proofs.Ytpfijhcjempfjaa

