/- Contracts and lemmas, put together. -/
import Derived.Test.YtncncepekcnbmaaGreatPkB
/- Contracts: is a form even? -/
namespace Go.Proofs.YtncncepekcnbmaaGreat
set_option linter.unusedSimpArgs false
set_option linter.unusedVariables false
open Go.RowKit

open Classical in
noncomputable def evB (r c : Int) (l : List Int) : Bool := isGram r c l && decide (∀ i, i < r.toNat → (nth l (i * r.toNat + i)).tmod 2 = 0)
theorem evB_no {r c : Int} {l : List Int} (h : isGram r c l = false) : evB r c l = false := by unfold evB; rw [h]; simp
theorem evB_at {R : Nat} {l : List Int} (h : isGram R R l = true) {i : Nat} (hi : i < R) (h2 : ¬ (nth l (i * R + i)).tmod 2 = 0) : evB R R l = false := by
  unfold evB
  rw [h, Bool.true_and, decide_eq_false_iff_not]
  exact fun q => h2 (q i hi)
theorem evB_all {R : Nat} {l : List Int} (h : isGram R R l = true) (h2 : ∀ i, i < R → (nth l (i * R + i)).tmod 2 = 0) : evB R R l = true := by
  unfold evB
  rw [h, Bool.true_and, decide_eq_true_eq]
  exact h2

section
set_option maxHeartbeats 1000000
theorem iIsEven_c (r c : Int) (A : Option Addr) (l : List Int) (n cap : Nat) (w : World) (hn : l.length = n) (ha : Rd w A l) (hl : n ≤ 1099511627776) :
    Calls Tryz.prog 12 #[.agg #[.int .i64 r, .int .i64 c, .slice A n cap]] w fun e w' => e = .returned (.bool (evB r c l)) ∧ Grows w w' := by
  have HS := Lib.hid fun w h => iIsGram_c r c A l n cap w hn h hl
  cases hq : isGram r c l
  · rw [evB_no hq]
    rw [hq] at HS
    have HS' := Lib.hid HS.out
    clear HS hq hn
    by_cases hr : 0 < r
    all_goals
      go_enter Tryz.func12, Tryz.ntmps12
      go_wp2_with fail
      refine wp_loop_rounds 1 ?_; rw [rounds_succ]
      go_wp2_with fail
    all_goals
      refine (HS'.out _ (by exact (Rd.grows ha (by exact bel0)))).mono ?_; rintro e w1 ⟨rfl, g1⟩
      obtain ⟨cg1, fg1⟩ := bcell g1; have zg10 : w.heap.size < w1.heap.size := by (have := g1.size; (try simp at this); omega)
      go_wp2_with fail
      refine (HS'.out _ (by exact (Rd.grows ha (by exact bel1 g1)))).mono ?_; rintro e w2 ⟨rfl, g2⟩
      go_wp2_with fail
      go_ret
      exact ⟨rfl, by exact bel2 g2 g1⟩
  · obtain ⟨_, R, rfl, rfl, hR, hlen, hnum⟩ := isSq_nat (isGram_sq hq)
    have HE := Lib.hid (fun (i : Nat) (hi : i < R) h => evB_at (l := l) hq hi h)
    have HA := Lib.hid (evB_all (l := l) hq)
    rw [hq] at HS
    have HS' := Lib.hid HS.out
    subst hn
    have HL := Lib.hid hlen
    clear HS hq hlen hnum
    go_enter Tryz.func12, Tryz.ntmps12
    go_wp2_with fail
    go_loopw [3] (fun i wr => ∃ (I : Nat), i = .int .i64 I ∧ I ≤ R ∧ (∀ i, i < I → (nth l (i * R + i)).tmod 2 = 0) ∧ Rd wr A l ∧ Grows w wr ∧ MBox wr w.heap.size R R (.slice A l.length cap)) (fun i _ => R - (intOf i).toNat)
    case atStart => exact ⟨0, rfl, Nat.zero_le _, fun i h => by omega, ha.alloc _, by exact bel0, MBox.mk_ _ _ _ _ _⟩
    case round =>
      obtain ⟨I, rfl, hI, hsy, hrd, hgr, hmb⟩ := hrel
      have HY := Lib.hid hsy
      clear hsy
      obtain ⟨b0, b1, b2⟩ := hmb.cells
      by_cases hlt : I < R
      · go_wp2_with fail
        refine (HS'.out _ hrd).mono ?_; rintro e w1 ⟨rfl, g1⟩
        replace hrd := hrd.grows g1
        replace hgr : Grows w w1 := by exact bel2 g1 hgr
        replace hmb := hmb.grows g1
        clear g1 b0 b1 b2
        obtain ⟨b0, b1, b2⟩ := hmb.cells
        go_wp2_with fail
        have i1 := castMul I R
        have i2 : (I : Int) * (R : Int) ≤ ((1048576 : Nat) : Int) := castMulLe (by have := Nat.mul_le_mul (Nat.le_of_lt hlt) hR; omega)
        have i3 := castPos I R I
        have i4 : (I : Int) * (R : Int) + (I : Int) < (l.length : Int) := castLt (by rw [HL.out]; exact idx_lt hlt hlt)
        refine (at_c R R A l l.length cap I I _ rfl hrd (by omega) (by omega) (by omega) (by omega) (by omega)).mono ?_; rintro e w2 ⟨rfl, g2⟩
        replace hrd := hrd.grows g2
        replace hgr : Grows w w2 := by exact bel2 g2 hgr
        replace hmb := hmb.grows g2
        clear b0 b1 b2
        by_cases hx : (nth l (I * R + I)).tmod 2 = 0
        · have HX := Lib.hid hx
          have hx' : ((nth l ((I : Int) * (R : Int) + (I : Int)).toNat).tmod 2 != 0) = false := by rw [castIdx]; simpa using hx
          have hx'' : ((nth l (I * R + I)).tmod 2 != 0) = false := by simpa using hx
          clear hx
          go_wp2_with fail
          go_round
          case rel => exact ⟨I + 1, by go_num, by omega, fun t ht => by (by_cases e : t = I); (· subst e; exact HX.out); (· exact HY.out t (by omega)), hrd, hgr, hmb⟩
          case measure => simp [intOf]; omega
        · have HX := Lib.hid (HE.out I hlt hx)
          have hx' : ((nth l ((I : Int) * (R : Int) + (I : Int)).toNat).tmod 2 != 0) = true := by rw [castIdx]; simpa using hx
          have hx'' : ((nth l (I * R + I)).tmod 2 != 0) = true := by simpa using hx
          clear hx
          go_wp2_with fail
          go_ret
          exact ⟨by rw [HX.out]; rfl, hgr⟩
      · obtain rfl : I = R := by omega
        have HX := Lib.hid (HA.out HY.out)
        go_wp2_with fail
        refine (HS'.out _ hrd).mono ?_; rintro e w1 ⟨rfl, g1⟩
        replace hrd := hrd.grows g1
        replace hgr : Grows w w1 := by exact bel2 g1 hgr
        replace hmb := hmb.grows g1
        clear g1 b0 b1 b2
        obtain ⟨b0, b1, b2⟩ := hmb.cells
        go_wp2_with fail
        refine (HS'.out _ hrd).mono ?_; rintro e w2 ⟨rfl, g2⟩
        go_wp2_with fail
        go_ret
        exact ⟨by rw [HX.out]; rfl, by exact bel2 g2 hgr⟩

end
end Go.Proofs.YtncncepekcnbmaaGreat
