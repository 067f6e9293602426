/- Contracts: is a matrix a Gram matrix? -/
import Derived.Test.YtpfijhcjempfjaaMat2
namespace Go.Proofs.Ytpfijhcjempfjaa
open Go.RowKit

/-! ### plain -/
theorem isMat_nat {r c : Int} {l : List Int} (h : isMat r c l = true) : ∃ R C : Nat, r = (R : Int) ∧ c = (C : Int) ∧ R ≤ 24 ∧ C ≤ 24 ∧ l.length = R * C ∧ ∀ i, i < l.length → isNum (nth l i) = true := by
  obtain ⟨⟨h1, h2⟩, ⟨h3, h4⟩, h5, h6⟩ := (isMat_iff _ _ _).1 h
  refine ⟨r.toNat, c.toNat, by omega, by omega, by omega, by omega, ?_, (allNum_iff l).1 h6⟩
  have : ((r.toNat : Nat) : Int) * ((c.toNat : Nat) : Int) = r * c := by rw [Int.toNat_of_nonneg h1, Int.toNat_of_nonneg h3]
  rw [← Int.natCast_mul] at this
  omega
theorem isSq_nat {r c : Int} {l : List Int} (h : isSq r c l = true) : isMat r c l = true ∧ ∃ R : Nat, r = (R : Int) ∧ c = (R : Int) ∧ R ≤ 6 ∧ l.length = R * R ∧ ∀ i, i < l.length → isNum (nth l i) = true := by
  unfold isSq at h
  simp only [Bool.and_eq_true, beq_iff_eq, decide_eq_true_eq] at h
  obtain ⟨⟨h1, rfl⟩, h3⟩ := h
  obtain ⟨R, C, e1, e2, _, _, h4, h5⟩ := isMat_nat h1
  obtain rfl : R = C := by omega
  exact ⟨h1, R, e1, e1, by omega, h4, h5⟩
theorem isSq_mat {r c : Int} {l : List Int} (h : isMat r c l = false) : isSq r c l = false := by unfold isSq; rw [h]; simp
def symB (R : Nat) (l : List Int) : Bool := eqL (trL R R l) l
theorem symB_iff {R : Nat} {l : List Int} (hl : l.length = R * R) : symB R l = true ↔ ∀ i j, i < R → j < i → nth l (i * R + j) = nth l (j * R + i) := by
  unfold symB eqL
  rw [decide_eq_true_eq]
  constructor
  · intro h i j hi hj
    have := tab_nth (R := R) (C := R) (fun j i => nth l (i * R + j)) hi (show j < R by omega)
    rw [show tab R R (fun j i => nth l (i * R + j)) = trL R R l from rfl, h] at this
    exact this
  · intro h
    refine (tab_ext hl fun i j hi hj => ?_).symm
    rcases Nat.lt_trichotomy i j with e | e | e
    · exact (h j i hj e).symm
    · rw [e]
    · exact h i j hi e
def isGram (r c : Int) (l : List Int) : Bool := isSq r c l && symB r.toNat l
theorem isGram_no {r c : Int} {l : List Int} (h : isSq r c l = false) : isGram r c l = false := by unfold isGram; rw [h]; simp
theorem isGram_nat {R : Nat} {l : List Int} (h : isSq R R l = true) : isGram R R l = symB R l := by unfold isGram; rw [h]; simp
theorem isGram_sq {r c : Int} {l : List Int} (h : isGram r c l = true) : isSq r c l = true := by
  unfold isGram at h
  simp only [Bool.and_eq_true] at h
  exact h.1

section
set_option maxHeartbeats 1000000
theorem iIsGram_c (r c : Int) (A : Option Addr) (l : List Int) (n cap : Nat) (w : World) (hn : l.length = n) (ha : Rd w A l) (hl : n ≤ 1099511627776) :
    Calls Try.prog 57 #[.agg #[.int .i64 r, .int .i64 c, .slice A n cap]] w fun e w' => e = .returned (.bool (isGram r c l)) ∧ Grows w w' := by
  cases hm : isMat r c l
  · rw [isGram_no (isSq_mat hm)]
    have HM := Lib.hid fun w h => iTransposeOf_no r c A l n cap w hn h hl hm
    clear hm hn
    go_enter Try.func57, Try.ntmps57
    go_wp2_with fail
    refine (HM.out _ (by exact (Rd.grows ha (by ((repeat' (first | with_reducible exact Below.refl _ _ | with_reducible assumption | (with_reducible refine Below.setCell ?_ ?_ _) | (with_reducible refine Below.alloc ?_ ?_ _) | (with_reducible refine Below.drew ?_) | (with_reducible refine below_drewN ?_ _))); all_goals (first | omega | (simp; done) | (simp; omega) | (simp [*]; done) | (simp at *; omega))))))).mono ?_; rintro e w1 ⟨rfl, g1⟩
    go_wp2_with fail
    go_ret
    exact ⟨rfl, by (have bz0 := Below.size (g1); (try simp at bz0); (repeat' (first | with_reducible exact Below.refl _ _ | with_reducible assumption | (with_reducible refine Below.setCell ?_ ?_ _) | (with_reducible refine Below.alloc ?_ ?_ _) | (with_reducible refine Below.drew ?_) | (with_reducible refine below_drewN ?_ _) | (with_reducible refine Below.trans ?_ (Below.mono (g1) ?_)))); all_goals (first | omega | (simp; done) | (simp; omega) | (simp [*]; done) | (simp at *; omega)))⟩
  · obtain ⟨R, C, rfl, rfl, hR, hC, hlen, hnum⟩ := isMat_nat hm
    have HM := Lib.hid fun w h => iTransposeOf_yes R C A l n cap w hn h hm
    have HS := Lib.hid fun w h => iIsSquare_c R C A l n cap w hn h hl
    have hgr : isGram R C l = (isSq R C l && eqMat C R (trL R C l) R C l) := by
      cases hq : isSq R C l
      · rw [isGram_no hq]; simp
      · obtain ⟨_, R', e1, e2, _, _, _⟩ := isSq_nat hq
        obtain rfl : R = R' := by omega
        obtain rfl : C = R := by omega
        rw [isGram_nat hq]
        simp [eqMat, symB]
    rw [hgr]
    clear hgr
    have hRC : C * R ≤ 576 := Nat.mul_le_mul hC hR
    have htl : (trL R C l).length = C * R := tab_length _ _ _
    generalize trL R C l = t at *
    generalize isSq R C l = q at *
    have HL := Lib.hid htl
    have Hn := Lib.hid hn
    clear hm hlen hnum htl hn
    cases q
    · go_enter Try.func57, Try.ntmps57
      go_wp2_with fail
      refine (HM.out _ (by exact (Rd.grows ha (by ((repeat' (first | with_reducible exact Below.refl _ _ | with_reducible assumption | (with_reducible refine Below.setCell ?_ ?_ _) | (with_reducible refine Below.alloc ?_ ?_ _) | (with_reducible refine Below.drew ?_) | (with_reducible refine below_drewN ?_ _))); all_goals (first | omega | (simp; done) | (simp; omega) | (simp [*]; done) | (simp at *; omega))))))).mono ?_; rintro e w1 ⟨v, rfl, ho, g1⟩
      obtain ⟨A2, c2, rfl, hr2, _⟩ := ho.val
      have mb : MBox w1 w.heap.size R C (.slice A n cap) := (MBox.mk_ w R C (.slice A n cap) 26).grows g1
      obtain ⟨b0, b1, b2⟩ := mb.cells
      have bl := mb.lt
      go_wp2_with fail
      refine (HS.out _ (by exact (Rd.grows ha (by (have bz0 := Below.size (g1); (try simp at bz0); (repeat' (first | with_reducible exact Below.refl _ _ | with_reducible assumption | (with_reducible refine Below.setCell ?_ ?_ _) | (with_reducible refine Below.alloc ?_ ?_ _) | (with_reducible refine Below.drew ?_) | (with_reducible refine below_drewN ?_ _) | (with_reducible refine Below.trans ?_ (Below.mono (g1) ?_)))); all_goals (first | omega | (simp; done) | (simp; omega) | (simp [*]; done) | (simp at *; omega))))))).mono ?_; rintro e w2 ⟨rfl, g2⟩
      go_wp2_with fail
      go_ret
      exact ⟨by simp, by (have bz0 := Below.size (g2); (try simp at bz0); have bz1 := Below.size (g1); (try simp at bz1); (repeat' (first | with_reducible exact Below.refl _ _ | with_reducible assumption | (with_reducible refine Below.setCell ?_ ?_ _) | (with_reducible refine Below.alloc ?_ ?_ _) | (with_reducible refine Below.drew ?_) | (with_reducible refine below_drewN ?_ _) | (with_reducible refine Below.trans ?_ (Below.mono (g2) ?_)) | (with_reducible refine Below.trans ?_ (Below.mono (g1) ?_)))); all_goals (first | omega | (simp; done) | (simp; omega) | (simp [*]; done) | (simp at *; omega)))⟩
    · go_enter Try.func57, Try.ntmps57
      go_wp2_with fail
      refine (HM.out _ (by exact (Rd.grows ha (by ((repeat' (first | with_reducible exact Below.refl _ _ | with_reducible assumption | (with_reducible refine Below.setCell ?_ ?_ _) | (with_reducible refine Below.alloc ?_ ?_ _) | (with_reducible refine Below.drew ?_) | (with_reducible refine below_drewN ?_ _))); all_goals (first | omega | (simp; done) | (simp; omega) | (simp [*]; done) | (simp at *; omega))))))).mono ?_; rintro e w1 ⟨v, rfl, ho, g1⟩
      obtain ⟨A2, c2, rfl, hr2, _⟩ := ho.val
      have mb : MBox w1 w.heap.size R C (.slice A n cap) := (MBox.mk_ w R C (.slice A n cap) 26).grows g1
      obtain ⟨b0, b1, b2⟩ := mb.cells
      have bl := mb.lt
      go_wp2_with fail
      refine (HS.out _ (by exact (Rd.grows ha (by (have bz0 := Below.size (g1); (try simp at bz0); (repeat' (first | with_reducible exact Below.refl _ _ | with_reducible assumption | (with_reducible refine Below.setCell ?_ ?_ _) | (with_reducible refine Below.alloc ?_ ?_ _) | (with_reducible refine Below.drew ?_) | (with_reducible refine below_drewN ?_ _) | (with_reducible refine Below.trans ?_ (Below.mono (g1) ?_)))); all_goals (first | omega | (simp; done) | (simp; omega) | (simp [*]; done) | (simp at *; omega))))))).mono ?_; rintro e w2 ⟨rfl, g2⟩
      have mc : MBox w2 w1.heap.size C R (.slice A2 t.length c2) := (MBox.mk_ w1 C R (.slice A2 t.length c2) 26).grows g2
      obtain ⟨d0, d1, d2⟩ := mc.cells
      clear b0 b1 b2 bl
      replace mb := mb.grows (w' := w2) (by (have bz0 := Below.size (g2); (try simp at bz0); (repeat' (first | with_reducible exact Below.refl _ _ | with_reducible assumption | (with_reducible refine Below.setCell ?_ ?_ _) | (with_reducible refine Below.alloc ?_ ?_ _) | (with_reducible refine Below.drew ?_) | (with_reducible refine below_drewN ?_ _) | (with_reducible refine Below.trans ?_ (Below.mono (g2) ?_)))); all_goals (first | omega | (simp; done) | (simp; omega) | (simp [*]; done) | (simp at *; omega))))
      obtain ⟨b0, b1, b2⟩ := mb.cells
      go_wp2_with fail
      refine (sameMatrix_c C R R C A2 A t l t.length n c2 cap _ rfl Hn.out (by exact (Rd.grows hr2 (by (have bz0 := Below.size (g2); (try simp at bz0); (repeat' (first | with_reducible exact Below.refl _ _ | with_reducible assumption | (with_reducible refine Below.setCell ?_ ?_ _) | (with_reducible refine Below.alloc ?_ ?_ _) | (with_reducible refine Below.drew ?_) | (with_reducible refine below_drewN ?_ _) | (with_reducible refine Below.trans ?_ (Below.mono (g2) ?_)))); all_goals (first | omega | (simp; done) | (simp; omega) | (simp [*]; done) | (simp at *; omega)))))) (by exact (Rd.grows ha (by (have bz0 := Below.size (g2); (try simp at bz0); have bz1 := Below.size (g1); (try simp at bz1); (repeat' (first | with_reducible exact Below.refl _ _ | with_reducible assumption | (with_reducible refine Below.setCell ?_ ?_ _) | (with_reducible refine Below.alloc ?_ ?_ _) | (with_reducible refine Below.drew ?_) | (with_reducible refine below_drewN ?_ _) | (with_reducible refine Below.trans ?_ (Below.mono (g2) ?_)) | (with_reducible refine Below.trans ?_ (Below.mono (g1) ?_)))); all_goals (first | omega | (simp; done) | (simp; omega) | (simp [*]; done) | (simp at *; omega)))))) (by have := HL.out; omega) hl).mono ?_; rintro e w3 ⟨rfl, g3⟩
      go_wp2_with fail
      go_ret
      exact ⟨by simp, by (have bz0 := Below.size (g3); (try simp at bz0); have bz1 := Below.size (g2); (try simp at bz1); have bz2 := Below.size (g1); (try simp at bz2); (repeat' (first | with_reducible exact Below.refl _ _ | with_reducible assumption | (with_reducible refine Below.setCell ?_ ?_ _) | (with_reducible refine Below.alloc ?_ ?_ _) | (with_reducible refine Below.drew ?_) | (with_reducible refine below_drewN ?_ _) | (with_reducible refine Below.trans ?_ (Below.mono (g3) ?_)) | (with_reducible refine Below.trans ?_ (Below.mono (g2) ?_)) | (with_reducible refine Below.trans ?_ (Below.mono (g1) ?_)))); all_goals (first | omega | (simp; done) | (simp; omega) | (simp [*]; done) | (simp at *; omega)))⟩

theorem sym_no {R : Nat} {l : List Int} (hl : l.length = R * R) {i j : Nat} (hi : i < R) (hj : j < i) (h : nth l (i * R + j) ≠ nth l (j * R + i)) : symB R l = false := by
  cases e : symB R l
  · rfl
  · exact absurd ((symB_iff hl).1 e i j hi hj) h

theorem sIsGram_c (r c : Int) (A : Option Addr) (l : List Int) (n cap : Nat) (w : World) (hn : l.length = n) (ha : Rd w A l) (hl : n ≤ 1099511627776) :
    Calls Try.prog 53 #[.agg #[.int .i64 r, .int .i64 c, .slice A n cap]] w fun e w' => e = .returned (.bool (isGram r c l)) ∧ Grows w w' := by
  have HS := Lib.hid fun w h => sIsSquare_c r c A l n cap w hn h hl
  cases hq : isSq r c l
  · rw [isGram_no hq]
    rw [hq] at HS
    have HS' := Lib.hid HS.out
    clear HS hq hn
    by_cases hr : 0 < r
    all_goals
      go_enter Try.func53, Try.ntmps53
      go_wp2_with fail
      refine wp_loop_rounds 1 ?_; rw [rounds_succ]
      go_wp2_with fail
    · refine (HS'.out _ (by exact (Rd.grows ha (by ((repeat' (first | with_reducible exact Below.refl _ _ | with_reducible assumption | (with_reducible refine Below.setCell ?_ ?_ _) | (with_reducible refine Below.alloc ?_ ?_ _) | (with_reducible refine Below.drew ?_) | (with_reducible refine below_drewN ?_ _))); all_goals (first | omega | (simp; done) | (simp; omega) | (simp [*]; done) | (simp at *; omega))))))).mono ?_; rintro e w1 ⟨rfl, g1⟩
      obtain ⟨cg1, fg1⟩ := bcell g1; have zg10 : w.heap.size < w1.heap.size := by (have := g1.size; (try simp at this); omega)
      go_wp2_with fail
      refine (HS'.out _ (by exact (Rd.grows ha (by (have bz0 := Below.size (g1); (try simp at bz0); (repeat' (first | with_reducible exact Below.refl _ _ | with_reducible assumption | (with_reducible refine Below.setCell ?_ ?_ _) | (with_reducible refine Below.alloc ?_ ?_ _) | (with_reducible refine Below.drew ?_) | (with_reducible refine below_drewN ?_ _) | (with_reducible refine Below.trans ?_ (Below.mono (g1) ?_)))); all_goals (first | omega | (simp; done) | (simp; omega) | (simp [*]; done) | (simp at *; omega))))))).mono ?_; rintro e w2 ⟨rfl, g2⟩
      go_wp2_with fail
      go_ret
      exact ⟨rfl, by (have bz0 := Below.size (g2); (try simp at bz0); have bz1 := Below.size (g1); (try simp at bz1); (repeat' (first | with_reducible exact Below.refl _ _ | with_reducible assumption | (with_reducible refine Below.setCell ?_ ?_ _) | (with_reducible refine Below.alloc ?_ ?_ _) | (with_reducible refine Below.drew ?_) | (with_reducible refine below_drewN ?_ _) | (with_reducible refine Below.trans ?_ (Below.mono (g2) ?_)) | (with_reducible refine Below.trans ?_ (Below.mono (g1) ?_)))); all_goals (first | omega | (simp; done) | (simp; omega) | (simp [*]; done) | (simp at *; omega)))⟩
    · refine (HS'.out _ (by exact (Rd.grows ha (by ((repeat' (first | with_reducible exact Below.refl _ _ | with_reducible assumption | (with_reducible refine Below.setCell ?_ ?_ _) | (with_reducible refine Below.alloc ?_ ?_ _) | (with_reducible refine Below.drew ?_) | (with_reducible refine below_drewN ?_ _))); all_goals (first | omega | (simp; done) | (simp; omega) | (simp [*]; done) | (simp at *; omega))))))).mono ?_; rintro e w1 ⟨rfl, g1⟩
      go_wp2_with fail
      go_ret
      exact ⟨rfl, by (have bz0 := Below.size (g1); (try simp at bz0); (repeat' (first | with_reducible exact Below.refl _ _ | with_reducible assumption | (with_reducible refine Below.setCell ?_ ?_ _) | (with_reducible refine Below.alloc ?_ ?_ _) | (with_reducible refine Below.drew ?_) | (with_reducible refine below_drewN ?_ _) | (with_reducible refine Below.trans ?_ (Below.mono (g1) ?_)))); all_goals (first | omega | (simp; done) | (simp; omega) | (simp [*]; done) | (simp at *; omega)))⟩
  · obtain ⟨_, R, rfl, rfl, hR, hlen, hnum⟩ := isSq_nat hq
    have hgrm : isGram R R l = symB R l := isGram_nat hq
    rw [hgrm]
    rw [hq] at HS
    have HS' := Lib.hid HS.out
    subst hn
    have HL := Lib.hid hlen
    clear HS hq hlen hnum hgrm
    go_enter Try.func53, Try.ntmps53
    go_wp2_with fail
    go_loopw [3] (fun i wr => ∃ (I : Nat), i = .int .i64 I ∧ I ≤ R ∧ (∀ i j, i < I → j < i → nth l (i * R + j) = nth l (j * R + i)) ∧ Rd wr A l ∧ Grows w wr ∧ MBox wr w.heap.size R R (.slice A l.length cap)) (fun i _ => R - (intOf i).toNat)
    case atStart => exact ⟨0, rfl, Nat.zero_le _, fun i j h => by omega, ha.alloc _, by ((repeat' (first | with_reducible exact Below.refl _ _ | with_reducible assumption | (with_reducible refine Below.setCell ?_ ?_ _) | (with_reducible refine Below.alloc ?_ ?_ _) | (with_reducible refine Below.drew ?_) | (with_reducible refine below_drewN ?_ _))); all_goals (first | omega | (simp; done) | (simp; omega) | (simp [*]; done) | (simp at *; omega))), MBox.mk_ _ _ _ _ _⟩
    case round =>
      obtain ⟨I, rfl, hI, hsy, hrd, hgr, hmb⟩ := hrel
      have HY := Lib.hid hsy
      clear hsy
      obtain ⟨b0, b1, b2⟩ := hmb.cells
      by_cases hlt : I < R
      · go_wp2_with fail
        refine (HS'.out _ hrd).mono ?_; rintro e w1 ⟨rfl, g1⟩
        replace hrd := hrd.grows g1
        replace hgr : Grows w w1 := by (have bz0 := Below.size (g1); (try simp at bz0); have bz1 := Below.size (hgr); (try simp at bz1); (repeat' (first | with_reducible exact Below.refl _ _ | with_reducible assumption | (with_reducible refine Below.setCell ?_ ?_ _) | (with_reducible refine Below.alloc ?_ ?_ _) | (with_reducible refine Below.drew ?_) | (with_reducible refine below_drewN ?_ _) | (with_reducible refine Below.trans ?_ (Below.mono (g1) ?_)) | (with_reducible refine Below.trans ?_ (Below.mono (hgr) ?_)))); all_goals (first | omega | (simp; done) | (simp; omega) | (simp [*]; done) | (simp at *; omega)))
        replace hmb := hmb.grows g1
        clear g1 b0 b1 b2
        go_wp2_with fail
        obtain ⟨wo, rfl⟩ : ∃ wo : World, wo = w1 := ⟨_, rfl⟩
        go_loopw [4] (fun j w2 => ∃ (J : Nat), j = .int .i64 J ∧ J ≤ I ∧ (∀ j, j < J → nth l (I * R + j) = nth l (j * R + I)) ∧ Rd w2 A l ∧ Grows w w2 ∧ MBox w2 w.heap.size R R (.slice A l.length cap)) (fun j _ => I - (intOf j).toNat)
        case atStart => exact ⟨0, rfl, Nat.zero_le _, fun j h => by omega, hrd, hgr, hmb⟩
        case round =>
          clear hrd hgr hmb
          obtain ⟨J, rfl, hJ, hrow, hrd, hgr, hmb⟩ := hrel
          have HW := Lib.hid hrow
          clear hrow
          by_cases hlt2 : J < I
          · obtain ⟨x0, x1, x2⟩ := hmb.ext
            have i1 := castMul I R
            have i2 : (I : Int) * (R : Int) ≤ ((1048576 : Nat) : Int) := castMulLe (by have := Nat.mul_le_mul (Nat.le_of_lt hlt) hR; omega)
            have i3 := castPos I R J
            have i4 : (I : Int) * (R : Int) + (J : Int) < (l.length : Int) := castLt (by rw [HL.out]; exact idx_lt hlt (by omega))
            have k1 := castMul J R
            have k2 : (J : Int) * (R : Int) ≤ ((1048576 : Nat) : Int) := castMulLe (by have := Nat.mul_le_mul (Nat.le_of_lt (Nat.lt_trans hlt2 hlt)) hR; omega)
            have k3 := castPos J R I
            have k4 : (J : Int) * (R : Int) + (I : Int) < (l.length : Int) := castLt (by rw [HL.out]; exact idx_lt (by omega) hlt)
            have hl5 : l.length ≤ 1099511627776 := by omega
            have C1 := Lib.hid fun W => l12Cell_c R R A l l.length cap I J (ext wr W) rfl (Rd.ext hrd W) (by omega) (by omega) (by omega) (by omega) hl5
            have C2 := Lib.hid fun W => l12Cell_c R R A l l.length cap J I (ext wr W) rfl (Rd.ext hrd W) (by omega) (by omega) (by omega) (by omega) hl5
            by_cases hx : nth l (I * R + J) = nth l (J * R + I)
            · have HX := Lib.hid hx
              have hx' : (nth l ((I : Int) * (R : Int) + (J : Int)).toNat != nth l ((J : Int) * (R : Int) + (I : Int)).toNat) = false := by rw [castIdx, castIdx]; simpa using hx
              have hx'' : (nth l (I * R + J) != nth l (J * R + I)) = false := by simpa using hx
              clear hx
              go_wp2_with fail
              ((refine wp_region_ext (by kernel_rfl) (by kernel_rfl) ?_); (repeat (go_big_quiet_step ((first | (go_at_call 74; with_reducible exact extC (C1.out _)) | (go_at_call 74; with_reducible exact extC (C2.out _)))))); refine wpQuiet_nil ?_; rintro w3 ⟨w30, hw30⟩; have g3 := grows_of_ext hw30; clear hw30 w30)
              go_wp2_with fail
              go_round
              case rel => exact ⟨J + 1, by go_num, by omega, fun t ht => by (by_cases e : t = J); (· subst e; exact HX.out); (· exact HW.out t (by omega)), hrd.grows g3, by (have bz0 := Below.size (g3); (try simp at bz0); have bz1 := Below.size (hgr); (try simp at bz1); (repeat' (first | with_reducible exact Below.refl _ _ | with_reducible assumption | (with_reducible refine Below.setCell ?_ ?_ _) | (with_reducible refine Below.alloc ?_ ?_ _) | (with_reducible refine Below.drew ?_) | (with_reducible refine below_drewN ?_ _) | (with_reducible refine Below.trans ?_ (Below.mono (g3) ?_)) | (with_reducible refine Below.trans ?_ (Below.mono (hgr) ?_)))); all_goals (first | omega | (simp; done) | (simp; omega) | (simp [*]; done) | (simp at *; omega))), hmb.grows g3⟩
              case measure => simp [intOf]; omega
            · have HX := Lib.hid (sym_no HL.out hlt hlt2 hx)
              have hx' : (nth l ((I : Int) * (R : Int) + (J : Int)).toNat != nth l ((J : Int) * (R : Int) + (I : Int)).toNat) = true := by rw [castIdx, castIdx]; simpa using hx
              have hx'' : (nth l (I * R + J) != nth l (J * R + I)) = true := by simpa using hx
              clear hx
              go_wp2_with fail
              ((refine wp_region_ext (by kernel_rfl) (by kernel_rfl) ?_); (repeat (go_big_quiet_step ((first | (go_at_call 74; with_reducible exact extC (C1.out _)) | (go_at_call 74; with_reducible exact extC (C2.out _)))))); refine wpQuiet_nil ?_; rintro w3 ⟨w30, hw30⟩; have g3 := grows_of_ext hw30; clear hw30 w30)
              go_wp2_with fail
              go_ret
              exact ⟨by rw [HX.out]; rfl, by (have bz0 := Below.size (g3); (try simp at bz0); have bz1 := Below.size (hgr); (try simp at bz1); (repeat' (first | with_reducible exact Below.refl _ _ | with_reducible assumption | (with_reducible refine Below.setCell ?_ ?_ _) | (with_reducible refine Below.alloc ?_ ?_ _) | (with_reducible refine Below.drew ?_) | (with_reducible refine below_drewN ?_ _) | (with_reducible refine Below.trans ?_ (Below.mono (g3) ?_)) | (with_reducible refine Below.trans ?_ (Below.mono (hgr) ?_)))); all_goals (first | omega | (simp; done) | (simp; omega) | (simp [*]; done) | (simp at *; omega)))⟩
          · obtain rfl : J = I := by omega
            go_wp2_with fail
            go_round
            case rel => exact ⟨J + 1, by go_num, by omega, fun i j hi hj => by (by_cases e : i = J); (· subst e; exact HW.out j hj); (· exact HY.out i j (by omega) hj), hrd, hgr, hmb⟩
            case measure => simp [intOf]; omega
      · obtain rfl : I = R := by omega
        have HX := Lib.hid ((symB_iff HL.out).2 (fun i j hi hj => HY.out i j hi hj))
        go_wp2_with fail
        refine (HS'.out _ hrd).mono ?_; rintro e w1 ⟨rfl, g1⟩
        go_wp2_with fail
        go_ret
        exact ⟨by rw [HX.out]; rfl, by (have bz0 := Below.size (g1); (try simp at bz0); have bz1 := Below.size (hgr); (try simp at bz1); (repeat' (first | with_reducible exact Below.refl _ _ | with_reducible assumption | (with_reducible refine Below.setCell ?_ ?_ _) | (with_reducible refine Below.alloc ?_ ?_ _) | (with_reducible refine Below.drew ?_) | (with_reducible refine below_drewN ?_ _) | (with_reducible refine Below.trans ?_ (Below.mono (g1) ?_)) | (with_reducible refine Below.trans ?_ (Below.mono (hgr) ?_)))); all_goals (first | omega | (simp; done) | (simp; omega) | (simp [*]; done) | (simp at *; omega)))⟩
end
end Go.Proofs.Ytpfijhcjempfjaa
