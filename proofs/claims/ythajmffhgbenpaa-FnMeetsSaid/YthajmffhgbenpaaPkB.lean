/- Contracts and lemmas, put together. -/
import Derived.Deep.DeepCutAuto
import Derived.Deep.RegionHeld3
import Derived.IntWalk
import Derived.Test.YthajmffhgbenpaaPkA
/- Contracts: is a matrix a Gram matrix? -/
namespace Go.Proofs.Ythajmffhgbenpaa
set_option linter.unusedSimpArgs false
set_option linter.unusedVariables false
open Go.RowKit

/-! ### plain -/
theorem isMat_nat {r c : Int} {l : List Int} (h : isMat r c l = true) : ∃ R C : Nat, r = (R : Int) ∧ c = (C : Int) ∧ R ≤ 24 ∧ C ≤ 24 ∧ l.length = R * C ∧ ∀ i, i < l.length → isNum (nth l i) = true := by
  obtain ⟨⟨h1, h2⟩, ⟨h3, h4⟩, h5, h6⟩ := (isMat_iff _ _ _).1 h
  refine ⟨r.toNat, c.toNat, by omega, by omega, by omega, by omega, ?_, (allNum_iff l).1 h6⟩
  have : ((r.toNat : Nat) : Int) * ((c.toNat : Nat) : Int) = r * c := by rw [Int.toNat_of_nonneg h1, Int.toNat_of_nonneg h3]
  rw [← Int.natCast_mul] at this
  omega
theorem isSq_nat {r c : Int} {l : List Int} (h : isSq r c l = true) : isMat r c l = true ∧ ∃ R : Nat, r = (R : Int) ∧ c = (R : Int) ∧ R ≤ 6 ∧ l.length = R * R ∧ ∀ i, i < l.length → isNum (nth l i) = true := by
  unfold isSq at h
  simp only [Bool.and_eq_true, beq_iff_eq, decide_eq_true_eq] at h
  obtain ⟨⟨h1, rfl⟩, h3⟩ := h
  obtain ⟨R, C, e1, e2, _, _, h4, h5⟩ := isMat_nat h1
  obtain rfl : R = C := by omega
  exact ⟨h1, R, e1, e1, by omega, h4, h5⟩
theorem isSq_mat {r c : Int} {l : List Int} (h : isMat r c l = false) : isSq r c l = false := by unfold isSq; rw [h]; simp
def symB (R : Nat) (l : List Int) : Bool := eqL (trL R R l) l
theorem symB_iff {R : Nat} {l : List Int} (hl : l.length = R * R) : symB R l = true ↔ ∀ i j, i < R → j < i → nth l (i * R + j) = nth l (j * R + i) := by
  unfold symB eqL
  rw [decide_eq_true_eq]
  constructor
  · intro h i j hi hj
    have := tab_nth (R := R) (C := R) (fun j i => nth l (i * R + j)) hi (show j < R by omega)
    rw [show tab R R (fun j i => nth l (i * R + j)) = trL R R l from rfl, h] at this
    exact this
  · intro h
    refine (tab_ext hl fun i j hi hj => ?_).symm
    rcases Nat.lt_trichotomy i j with e | e | e
    · exact (h j i hj e).symm
    · rw [e]
    · exact h i j hi e
def isGram (r c : Int) (l : List Int) : Bool := isSq r c l && symB r.toNat l
theorem isGram_no {r c : Int} {l : List Int} (h : isSq r c l = false) : isGram r c l = false := by unfold isGram; rw [h]; simp
theorem isGram_nat {R : Nat} {l : List Int} (h : isSq R R l = true) : isGram R R l = symB R l := by unfold isGram; rw [h]; simp
theorem isGram_sq {r c : Int} {l : List Int} (h : isGram r c l = true) : isSq r c l = true := by
  unfold isGram at h
  simp only [Bool.and_eq_true] at h
  exact h.1

section
set_option maxHeartbeats 1000000
theorem iIsGram_c (r c : Int) (A : Option Addr) (l : List Int) (n cap : Nat) (w : World) (hn : l.length = n) (ha : Rd w A l) (hl : n ≤ 1099511627776) :
    Calls Try.prog 129 #[.agg #[.int .i64 r, .int .i64 c, .slice A n cap]] w fun e w' => e = .returned (.bool (isGram r c l)) ∧ Grows w w' := by
  cases hm : isMat r c l
  · rw [isGram_no (isSq_mat hm)]
    have HM := Lib.hid fun w h => iTransposeOf_no r c A l n cap w hn h hl hm
    clear hm hn
    go_enter Try.func129, Try.ntmps129
    go_wp2_with fail
    refine (HM.out _ (by exact (Rd.grows ha (by exact bel0)))).mono ?_; rintro e w1 ⟨rfl, g1⟩
    go_wp2_with fail
    go_ret
    exact ⟨rfl, by exact bel1 g1⟩
  · obtain ⟨R, C, rfl, rfl, hR, hC, hlen, hnum⟩ := isMat_nat hm
    have HM := Lib.hid fun w h => iTransposeOf_yes R C A l n cap w hn h hm
    have HS := Lib.hid fun w h => iIsSquare_c R C A l n cap w hn h hl
    have hgr : isGram R C l = (isSq R C l && eqMat C R (trL R C l) R C l) := by
      cases hq : isSq R C l
      · rw [isGram_no hq]; simp
      · obtain ⟨_, R', e1, e2, _, _, _⟩ := isSq_nat hq
        obtain rfl : R = R' := by omega
        obtain rfl : C = R := by omega
        rw [isGram_nat hq]
        simp [eqMat, symB]
    rw [hgr]
    clear hgr
    have hRC : C * R ≤ 576 := Nat.mul_le_mul hC hR
    have htl : (trL R C l).length = C * R := tab_length _ _ _
    generalize trL R C l = t at *
    generalize isSq R C l = q at *
    have HL := Lib.hid htl
    have Hn := Lib.hid hn
    clear hm hlen hnum htl hn
    cases q
    · go_enter Try.func129, Try.ntmps129
      go_wp2_with fail
      refine (HM.out _ (by exact (Rd.grows ha (by exact bel0)))).mono ?_; rintro e w1 ⟨v, rfl, ho, g1⟩
      obtain ⟨A2, c2, rfl, hr2, _⟩ := ho.val
      have mb : MBox w1 w.heap.size R C (.slice A n cap) := (MBox.mk_ w R C (.slice A n cap) 26).grows g1
      obtain ⟨b0, b1, b2⟩ := mb.cells
      have bl := mb.lt
      go_wp2_with fail
      refine (HS.out _ (by exact (Rd.grows ha (by exact bel1 g1)))).mono ?_; rintro e w2 ⟨rfl, g2⟩
      go_wp2_with fail
      go_ret
      exact ⟨by simp, by exact bel2 g2 g1⟩
    · go_enter Try.func129, Try.ntmps129
      go_wp2_with fail
      refine (HM.out _ (by exact (Rd.grows ha (by exact bel0)))).mono ?_; rintro e w1 ⟨v, rfl, ho, g1⟩
      obtain ⟨A2, c2, rfl, hr2, _⟩ := ho.val
      have mb : MBox w1 w.heap.size R C (.slice A n cap) := (MBox.mk_ w R C (.slice A n cap) 26).grows g1
      obtain ⟨b0, b1, b2⟩ := mb.cells
      have bl := mb.lt
      go_wp2_with fail
      refine (HS.out _ (by exact (Rd.grows ha (by exact bel1 g1)))).mono ?_; rintro e w2 ⟨rfl, g2⟩
      have mc : MBox w2 w1.heap.size C R (.slice A2 t.length c2) := (MBox.mk_ w1 C R (.slice A2 t.length c2) 26).grows g2
      obtain ⟨d0, d1, d2⟩ := mc.cells
      clear b0 b1 b2 bl
      replace mb := mb.grows (w' := w2) (by exact bel1 g2)
      obtain ⟨b0, b1, b2⟩ := mb.cells
      go_wp2_with fail
      refine (sameMatrix_c C R R C A2 A t l t.length n c2 cap _ rfl Hn.out (by exact (Rd.grows hr2 (by exact bel1 g2))) (by exact (Rd.grows ha (by exact bel2 g2 g1))) (by have := HL.out; omega) hl).mono ?_; rintro e w3 ⟨rfl, g3⟩
      go_wp2_with fail
      go_ret
      exact ⟨by simp, by exact bel3 g3 g2 g1⟩

theorem sym_no {R : Nat} {l : List Int} (hl : l.length = R * R) {i j : Nat} (hi : i < R) (hj : j < i) (h : nth l (i * R + j) ≠ nth l (j * R + i)) : symB R l = false := by
  cases e : symB R l
  · rfl
  · exact absurd ((symB_iff hl).1 e i j hi hj) h

theorem sIsGram_c (r c : Int) (A : Option Addr) (l : List Int) (n cap : Nat) (w : World) (hn : l.length = n) (ha : Rd w A l) (hl : n ≤ 1099511627776) :
    Calls Try.prog 137 #[.agg #[.int .i64 r, .int .i64 c, .slice A n cap]] w fun e w' => e = .returned (.bool (isGram r c l)) ∧ Grows w w' := by
  have HS := Lib.hid fun w h => sIsSquare_c r c A l n cap w hn h hl
  cases hq : isSq r c l
  · rw [isGram_no hq]
    rw [hq] at HS
    have HS' := Lib.hid HS.out
    clear HS hq hn
    by_cases hr : 0 < r
    all_goals
      go_enter Try.func137, Try.ntmps137
      go_wp2_with fail
      refine wp_loop_rounds 1 ?_; rw [rounds_succ]
      go_wp2_with fail
    · refine (HS'.out _ (by exact (Rd.grows ha (by exact bel0)))).mono ?_; rintro e w1 ⟨rfl, g1⟩
      obtain ⟨cg1, fg1⟩ := bcell g1; have zg10 : w.heap.size < w1.heap.size := by (have := g1.size; (try simp at this); omega)
      go_wp2_with fail
      refine (HS'.out _ (by exact (Rd.grows ha (by exact bel1 g1)))).mono ?_; rintro e w2 ⟨rfl, g2⟩
      go_wp2_with fail
      go_ret
      exact ⟨rfl, by exact bel2 g2 g1⟩
    · refine (HS'.out _ (by exact (Rd.grows ha (by exact bel0)))).mono ?_; rintro e w1 ⟨rfl, g1⟩
      go_wp2_with fail
      go_ret
      exact ⟨rfl, by exact bel1 g1⟩
  · obtain ⟨_, R, rfl, rfl, hR, hlen, hnum⟩ := isSq_nat hq
    have hgrm : isGram R R l = symB R l := isGram_nat hq
    rw [hgrm]
    rw [hq] at HS
    have HS' := Lib.hid HS.out
    subst hn
    have HL := Lib.hid hlen
    clear HS hq hlen hnum hgrm
    go_enter Try.func137, Try.ntmps137
    go_wp2_with fail
    go_loopw [3] (fun i wr => ∃ (I : Nat), i = .int .i64 I ∧ I ≤ R ∧ (∀ i j, i < I → j < i → nth l (i * R + j) = nth l (j * R + i)) ∧ Rd wr A l ∧ Grows w wr ∧ MBox wr w.heap.size R R (.slice A l.length cap)) (fun i _ => R - (intOf i).toNat)
    case atStart => exact ⟨0, rfl, Nat.zero_le _, fun i j h => by omega, ha.alloc _, by exact bel0, MBox.mk_ _ _ _ _ _⟩
    case round =>
      obtain ⟨I, rfl, hI, hsy, hrd, hgr, hmb⟩ := hrel
      have HY := Lib.hid hsy
      clear hsy
      obtain ⟨b0, b1, b2⟩ := hmb.cells
      by_cases hlt : I < R
      · go_wp2_with fail
        refine (HS'.out _ hrd).mono ?_; rintro e w1 ⟨rfl, g1⟩
        replace hrd := hrd.grows g1
        replace hgr : Grows w w1 := by exact bel2 g1 hgr
        replace hmb := hmb.grows g1
        clear g1 b0 b1 b2
        go_wp2_with fail
        obtain ⟨wo, rfl⟩ : ∃ wo : World, wo = w1 := ⟨_, rfl⟩
        go_loopw [4] (fun j w2 => ∃ (J : Nat), j = .int .i64 J ∧ J ≤ I ∧ (∀ j, j < J → nth l (I * R + j) = nth l (j * R + I)) ∧ Rd w2 A l ∧ Grows w w2 ∧ MBox w2 w.heap.size R R (.slice A l.length cap)) (fun j _ => I - (intOf j).toNat)
        case atStart => exact ⟨0, rfl, Nat.zero_le _, fun j h => by omega, hrd, hgr, hmb⟩
        case round =>
          clear hrd hgr hmb
          obtain ⟨J, rfl, hJ, hrow, hrd, hgr, hmb⟩ := hrel
          have HW := Lib.hid hrow
          clear hrow
          by_cases hlt2 : J < I
          · obtain ⟨x0, x1, x2⟩ := hmb.ext
            have i1 := castMul I R
            have i2 : (I : Int) * (R : Int) ≤ ((1048576 : Nat) : Int) := castMulLe (by have := Nat.mul_le_mul (Nat.le_of_lt hlt) hR; omega)
            have i3 := castPos I R J
            have i4 : (I : Int) * (R : Int) + (J : Int) < (l.length : Int) := castLt (by rw [HL.out]; exact idx_lt hlt (by omega))
            have k1 := castMul J R
            have k2 : (J : Int) * (R : Int) ≤ ((1048576 : Nat) : Int) := castMulLe (by have := Nat.mul_le_mul (Nat.le_of_lt (Nat.lt_trans hlt2 hlt)) hR; omega)
            have k3 := castPos J R I
            have k4 : (J : Int) * (R : Int) + (I : Int) < (l.length : Int) := castLt (by rw [HL.out]; exact idx_lt (by omega) hlt)
            have hl5 : l.length ≤ 1099511627776 := by omega
            have C1 := Lib.hid fun W => l12Cell_c R R A l l.length cap I J (ext wr W) rfl (Rd.ext hrd W) (by omega) (by omega) (by omega) (by omega) hl5
            have C2 := Lib.hid fun W => l12Cell_c R R A l l.length cap J I (ext wr W) rfl (Rd.ext hrd W) (by omega) (by omega) (by omega) (by omega) hl5
            by_cases hx : nth l (I * R + J) = nth l (J * R + I)
            · have HX := Lib.hid hx
              have hx' : (nth l ((I : Int) * (R : Int) + (J : Int)).toNat != nth l ((J : Int) * (R : Int) + (I : Int)).toNat) = false := by rw [castIdx, castIdx]; simpa using hx
              have hx'' : (nth l (I * R + J) != nth l (J * R + I)) = false := by simpa using hx
              clear hx
              go_wp2_with fail
              ((refine wp_region_ext (by kernel_rfl) (by kernel_rfl) ?_); (repeat (go_big_quiet_step ((first | (go_at_call 103; with_reducible exact extC (C1.out _)) | (go_at_call 103; with_reducible exact extC (C2.out _)))))); refine wpQuiet_nil ?_; rintro w3 ⟨w30, hw30⟩; have g3 := grows_of_ext hw30; clear hw30 w30)
              go_wp2_with fail
              go_round
              case rel => exact ⟨J + 1, by go_num, by omega, fun t ht => by (by_cases e : t = J); (· subst e; exact HX.out); (· exact HW.out t (by omega)), hrd.grows g3, by exact bel2 g3 hgr, hmb.grows g3⟩
              case measure => simp [intOf]; omega
            · have HX := Lib.hid (sym_no HL.out hlt hlt2 hx)
              have hx' : (nth l ((I : Int) * (R : Int) + (J : Int)).toNat != nth l ((J : Int) * (R : Int) + (I : Int)).toNat) = true := by rw [castIdx, castIdx]; simpa using hx
              have hx'' : (nth l (I * R + J) != nth l (J * R + I)) = true := by simpa using hx
              clear hx
              go_wp2_with fail
              ((refine wp_region_ext (by kernel_rfl) (by kernel_rfl) ?_); (repeat (go_big_quiet_step ((first | (go_at_call 103; with_reducible exact extC (C1.out _)) | (go_at_call 103; with_reducible exact extC (C2.out _)))))); refine wpQuiet_nil ?_; rintro w3 ⟨w30, hw30⟩; have g3 := grows_of_ext hw30; clear hw30 w30)
              go_wp2_with fail
              go_ret
              exact ⟨by rw [HX.out]; rfl, by exact bel2 g3 hgr⟩
          · obtain rfl : J = I := by omega
            go_wp2_with fail
            go_round
            case rel => exact ⟨J + 1, by go_num, by omega, fun i j hi hj => by (by_cases e : i = J); (· subst e; exact HW.out j hj); (· exact HY.out i j (by omega) hj), hrd, hgr, hmb⟩
            case measure => simp [intOf]; omega
      · obtain rfl : I = R := by omega
        have HX := Lib.hid ((symB_iff HL.out).2 (fun i j hi hj => HY.out i j hi hj))
        go_wp2_with fail
        refine (HS'.out _ hrd).mono ?_; rintro e w1 ⟨rfl, g1⟩
        go_wp2_with fail
        go_ret
        exact ⟨by rw [HX.out]; rfl, by exact bel2 g1 hgr⟩
end
end Go.Proofs.Ythajmffhgbenpaa

/- Regions that draw their order, with a last operation that waits for all others: it may be split off. -/
namespace Go.Proofs.Ythajmffhgbenpaa
set_option linter.unusedSimpArgs false
set_option linter.unusedVariables false
open Go.RowKit

section
variable {P : Program} {md : Region.Mode}

/-- what is asked behind the others: the last operation, then what is asked behind the region -/
def lastQ (P : Program) (Q : Exit → Act → World → Prop) (s : Oper) : Exit → Act → World → Prop
  | .normal, a, w => wpList P #[] Q [s] a w
  | _, _, _ => False
theorem lastQ_go {P : Program} {Q : Exit → Act → World → Prop} {s : Oper} {a : Act} {w : World} (h : wpList P #[] Q [s] a w) : lastQ P Q s .normal a w := h

theorem wp_lastQ {Q : Exit → Act → World → Prop} {s : Oper} {o : Oper} {a : Act} {w : World} {K : Act → World → Prop} (h : o.wp P a w K (lastQ P Q s)) : o.wp P a w K Q := by
  unfold Oper.wp at *
  generalize (execOp a.eval o).run P w = r at *
  cases r with
  | ok n w' => cases n <;> simp only [Oper.upon] at h ⊢ <;> first | exact h | exact Calls.mono h (fun e w'' he => by cases e <;> first | exact he | exact he.elim | exact (let ⟨_, _, h⟩ := he; h.elim))
  | halt x w' => cases x <;> simp only [Oper.upon] at h ⊢ <;> first | exact h | exact h.elim
theorem lets_lastQ {Q : Exit → Act → World → Prop} {s : Oper} (h : LetsOut (lastQ P Q s)) : False := let ⟨_, _, h⟩ := h; h

/-- no guards; every edge leads to an earlier operation; number n waits for all before it -/
def lastB (md : Region.Mode) (ops : Array Oper) (n : Nat) : Bool :=
  decide (ops.size = n + 1) && (List.range ops.size).all (fun j => match ops[j]? with
    | some o => o.guard.isNone && o.after.all (fun e => !Region.binds md e || decide (e.on < j))
    | none => false) && (List.range n).all (fun i => Region.waitsFor md ops n i)

theorem lastB_spec {ops : Array Oper} {n : Nat} (h : lastB md ops n = true) :
    ops.size = n + 1 ∧ (∀ j o, ops[j]? = some o → o.guard = none ∧ ∀ e ∈ o.after, Region.binds md e = true → e.on < j) ∧ ∀ i, i < n → Region.waitsFor md ops n i = true := by
  simp only [lastB, Bool.and_eq_true, decide_eq_true_eq, List.all_eq_true, List.mem_range] at h
  obtain ⟨⟨h1, h2⟩, h3⟩ := h
  refine ⟨h1, fun j o ho => ?_, h3⟩
  have hj := (Array.getElem?_eq_some_iff.1 ho).1
  have h4 := h2 j hj
  rw [ho] at h4
  simp only [Bool.and_eq_true, Option.isNone_iff_eq_none, Array.all_eq_true_iff_forall_mem, Bool.or_eq_true, Bool.not_eq_true', decide_eq_true_eq] at h4
  exact ⟨h4.1, fun e he hb => (h4.2 e he).resolve_left (by simp [hb])⟩

theorem wpOp_to {ops ops' : Array Oper} {Q : Exit → Act → World → Prop} {s : Oper} {i : Nat} {K K' : Act → World → Prop} {a : Act} {w : World} {o : Oper} (h1 : ops[i]? = some o) (h2 : ops'[i]? = some o) (hg : o.guard = none)
    (hK : ∀ a w, K a w → K' a w) (h : wpOp P ops' (lastQ P Q s) i K a w) : wpOp P ops Q i K' a w := by
  unfold wpOp at *
  simp only [h1, h2] at *
  have w1 : ∀ y, Region.wanted o y = true := fun y => by simp [Region.wanted, hg]
  rw [if_pos (w1 _)] at *
  exact h.elim (fun h => .inl (Oper.wp_mono hK (wp_lastQ h))) (fun h => (lets_lastQ h.2).elim)

theorem any_last {l : List Oper} {s : Oper} {Q : Exit → Act → World → Prop} (hB : lastB md (l ++ [s]).toArray l.length = true) :
    ∀ (f : Nat) (ls : Array Bool) (a : Act) (w : World), ls.size = l.length →
      wpAny P md l.toArray (lastQ P Q s) f ls a w → wpAny P md (l ++ [s]).toArray Q (f + 1) (ls.push false) a w := by
  obtain ⟨hsz, hops, hwait⟩ := lastB_spec hB
  have hget : ∀ i, i < l.length → (l ++ [s]).toArray[i]? = l.toArray[i]? := fun i hi => by simp [List.getElem?_append_left hi]
  have hd : ∀ (ls : Array Bool), ls.size = l.length → ∀ j d, j < l.length → (ls.push false).getD j d = ls.getD j d := fun ls hs j d hj => by
    have hj' : j < ls.size := by omega
    simp [Array.getElem_push, hj', Nat.lt_succ_of_lt hj']
  -- one that may come up among the first ones
  have hr1 : ∀ (ls : Array Bool), ls.size = l.length → ∀ j, j < l.length → (j ∈ Region.ready md (l ++ [s]).toArray (ls.push false) ↔ j ∈ Region.ready md l.toArray ls) := fun ls hs j hj => by
    rw [mem_ready, mem_ready, hd ls hs j true hj, hget j hj]
    constructor
    · rintro ⟨h0, o, ho, hall⟩
      exact ⟨h0, o, ho, fun e he hb => by
        have h1 := (hops j o (by rw [hget j hj]; exact ho)).2 e he hb
        have := hall e he hb
        rwa [hd ls hs e.on false (by omega)] at this⟩
    · rintro ⟨h0, o, ho, hall⟩
      exact ⟨h0, o, ho, fun e he hb => by
        have h1 := (hops j o (by rw [hget j hj]; exact ho)).2 e he hb
        rw [hd ls hs e.on false (by omega)]
        exact hall e he hb⟩
  have hnr : ∀ (ls : Array Bool), ls.size = l.length → l.length ∈ Region.ready md (l ++ [s]).toArray (ls.push false) → ∀ i, i < l.length → ls.getD i false = true := fun ls hs hm i hi => by
    obtain ⟨_, o, ho, hall⟩ := mem_ready.1 hm
    obtain ⟨o', ho', e, he, hb, hon⟩ := Region.waitsFor_spec (hwait i hi)
    obtain rfl : o' = o := Option.some.inj (ho'.symm.trans ho)
    have := hall e he hb
    rwa [hon, hd ls hs i false hi] at this
  have hnone : ∀ (ls : Array Bool), ls.size = l.length → Region.ready md (l ++ [s]).toArray (ls.push false) = [] → False := fun ls hs h0 => by
    have hall : ∀ i, i < l.length + 1 → (ls.push false).getD i false = true := by
      intro i
      induction i using Nat.strongRecOn with
      | _ i ih =>
        intro hi
        cases hl : (ls.push false).getD i false with
        | true => rfl
        | false =>
          obtain ⟨o, ho⟩ : ∃ o, (l ++ [s]).toArray[i]? = some o := ⟨_, Array.getElem?_eq_getElem (by rw [hsz]; exact hi)⟩
          have : i ∈ Region.ready md (l ++ [s]).toArray (ls.push false) := mem_ready.2 ⟨getD_in (by simp [hs]; omega) hl, o, ho, fun e he hb => by
            have := (hops i o ho).2 e he hb
            exact ih e.on this (by omega)⟩
          rw [h0] at this
          cases this
    have := hall l.length (by omega)
    rw [← hs] at this
    simp at this
  have hend : ∀ (ls : Array Bool), ls.size = l.length → (∀ i, i < l.length → ls.getD i false = true) → Region.ready md (l ++ [s]).toArray ((ls.push false).setIfInBounds l.length true) = [] := fun ls hs hall => by
    refine List.eq_nil_iff_forall_not_mem.2 fun j hj => ?_
    obtain ⟨h0, o, ho, _⟩ := mem_ready.1 hj
    have hj2 : j < l.length + 1 := by have := (Array.getElem?_eq_some_iff.1 ho).1; rwa [hsz] at this
    have h1 : ((ls.push false).setIfInBounds l.length true).getD j false = true := by
      by_cases e : j = l.length
      · subst e; simp [← hs]
      · rw [getD_set_ne false (Ne.symm e), hd ls hs j false (by omega)]
        exact hall j (by omega)
    have h2 : ((ls.push false).setIfInBounds l.length true).getD j false = false := getD_both h0
    rw [h1] at h2
    cases h2
  have hdone : ∀ (ls : Array Bool), ls.size = l.length → (∀ i, i < l.length → ls.getD i false = true) → Region.ready md l.toArray ls = [] := fun ls hs hall => by
    refine List.eq_nil_iff_forall_not_mem.2 fun j hj => ?_
    obtain ⟨h0, o, ho, _⟩ := mem_ready.1 hj
    have hj2 : j < l.length := by have := (Array.getElem?_eq_some_iff.1 ho).1; simpa using this
    have := getD_both h0
    rw [hall j hj2] at this
    cases this
  have hsome : ∀ i, i < l.length → ∃ o, l.toArray[i]? = some o := fun i hi => ⟨_, Array.getElem?_eq_getElem (by simpa using hi)⟩
  -- the last one comes up: all others are done
  have hlast : ∀ (f : Nat) (ls : Array Bool) (a : Act) (w : World), ls.size = l.length → l.length ∈ Region.ready md (l ++ [s]).toArray (ls.push false) →
      (Region.ready md l.toArray ls = [] → lastQ P Q s .normal a w) → wpOp P (l ++ [s]).toArray Q l.length (wpAny P md (l ++ [s]).toArray Q f ((ls.push false).setIfInBounds l.length true)) a w := fun f ls a w hs hm h => by
    have hall := hnr ls hs hm
    have hq0 : wpOp P (l ++ [s]).toArray Q l.length (Q .normal) a w := by
      have h1 : wpList P #[] Q [s] a w := h (hdone ls hs hall)
      have ho : (l ++ [s]).toArray[l.length]? = some s := by simp
      have w1 : ∀ y, Region.wanted s y = true := fun y => by simp [Region.wanted, (hops _ _ ho).1]
      unfold wpOp
      simp only [ho]
      unfold wpList at h1
      rw [if_pos (w1 _)] at *
      exact h1
    refine wpOp_mono (fun a' w' hq => ?_) hq0
    have he := hend ls hs hall
    cases f with
    | zero => exact ⟨he, hq⟩
    | succ f => exact ⟨fun _ => hq, fun i hi => by rw [he] at hi; cases hi⟩
  intro f
  induction f with
  | zero =>
    intro ls a w hs h
    refine ⟨fun h0 => (hnone ls hs h0).elim, fun i hi => ?_⟩
    have hi2 : i < l.length + 1 := by have := (Array.getElem?_eq_some_iff.1 (mem_ready.1 hi).2.choose_spec.1).1; rwa [hsz] at this
    by_cases e : i = l.length
    · subst e
      exact hlast 0 ls a w hs hi fun _ => h.2
    · have := (hr1 ls hs i (by omega)).1 hi
      rw [h.1] at this
      cases this
  | succ f ih =>
    intro ls a w hs h
    refine ⟨fun h0 => (hnone ls hs h0).elim, fun i hi => ?_⟩
    have hi2 : i < l.length + 1 := by have := (Array.getElem?_eq_some_iff.1 (mem_ready.1 hi).2.choose_spec.1).1; rwa [hsz] at this
    by_cases e : i = l.length
    · subst e
      exact hlast (f + 1) ls a w hs hi h.1
    · have hil : i < l.length := by omega
      have h1 := h.2 i ((hr1 ls hs i hil).1 hi)
      obtain ⟨o, ho⟩ := hsome i hil
      refine wpOp_to (by rw [hget i hil]; exact ho) ho (hops i o (by rw [hget i hil]; exact ho)).1 (fun a' w' hq => ?_) h1
      have := ih (ls.setIfInBounds i true) a' w' (by simpa using hs) hq
      have e2 : (ls.push false).setIfInBounds i true = (ls.setIfInBounds i true).push false := by
        apply Array.toList_inj.1
        have : i < ls.toList.length := by simpa [hs] using hil
        simp [List.set_append_left _ _ this]
      rw [e2]
      exact this

/-- An operation without guard and without edges that nobody waits for, the last of the row: it is taken first and left out. -/
theorem any_drop {l : List Oper} {p : Oper} {Q : Exit → Act → World → Prop} (hops : ∀ j o, (l ++ [p]).toArray[j]? = some o → o.guard = none ∧ ∀ e ∈ o.after, Region.binds md e = true → e.on < j) :
    ∀ (f : Nat) (ls : Array Bool) (a : Act) (w : World), ls.size = l.length → wpAny P md l.toArray Q f ls a w → wpAny P md (l ++ [p]).toArray Q f (ls.push true) a w := by
  have hget : ∀ i, i < l.length → (l ++ [p]).toArray[i]? = l.toArray[i]? := fun i hi => by simp [List.getElem?_append_left hi]
  have hd : ∀ (ls : Array Bool), ls.size = l.length → ∀ j d, j < l.length → (ls.push true).getD j d = ls.getD j d := fun ls hs j d hj => by
    have hj' : j < ls.size := by omega
    simp [Array.getElem_push, hj', Nat.lt_succ_of_lt hj']
  have hr1 : ∀ (ls : Array Bool), ls.size = l.length → ∀ j, j < l.length → (j ∈ Region.ready md (l ++ [p]).toArray (ls.push true) ↔ j ∈ Region.ready md l.toArray ls) := fun ls hs j hj => by
    rw [mem_ready, mem_ready, hd ls hs j true hj, hget j hj]
    constructor
    · rintro ⟨h0, o, ho, hall⟩
      exact ⟨h0, o, ho, fun e he hb => by
        have h1 := (hops j o (by rw [hget j hj]; exact ho)).2 e he hb
        have := hall e he hb
        rwa [hd ls hs e.on false (by omega)] at this⟩
    · rintro ⟨h0, o, ho, hall⟩
      exact ⟨h0, o, ho, fun e he hb => by
        have h1 := (hops j o (by rw [hget j hj]; exact ho)).2 e he hb
        rw [hd ls hs e.on false (by omega)]
        exact hall e he hb⟩
  have hlt : ∀ (ls : Array Bool), ls.size = l.length → ∀ j, j ∈ Region.ready md (l ++ [p]).toArray (ls.push true) → j < l.length := fun ls hs j hj => by
    obtain ⟨h0, o, ho, _⟩ := mem_ready.1 hj
    have hj2 : j < l.length + 1 := by have := (Array.getElem?_eq_some_iff.1 ho).1; simpa using this
    by_cases e : j = l.length
    · subst e
      have := getD_both h0
      rw [← hs] at this
      simp at this
    · omega
  have hnil : ∀ (ls : Array Bool), ls.size = l.length → (Region.ready md (l ++ [p]).toArray (ls.push true) = [] ↔ Region.ready md l.toArray ls = []) := fun ls hs => by
    rw [List.eq_nil_iff_forall_not_mem, List.eq_nil_iff_forall_not_mem]
    constructor
    · intro h j hj
      have hj2 : j < l.length := by have := (Array.getElem?_eq_some_iff.1 (mem_ready.1 hj).2.choose_spec.1).1; simpa using this
      exact h j ((hr1 ls hs j hj2).2 hj)
    · intro h j hj
      exact h j ((hr1 ls hs j (hlt ls hs j hj)).1 hj)
  intro f
  induction f with
  | zero => intro ls a w hs h; exact ⟨(hnil ls hs).2 h.1, h.2⟩
  | succ f ih =>
    intro ls a w hs h
    refine ⟨fun h0 => h.1 ((hnil ls hs).1 h0), fun i hi => ?_⟩
    have hil := hlt ls hs i hi
    have h1 := h.2 i ((hr1 ls hs i hil).1 hi)
    have e2 : (ls.push true).setIfInBounds i true = (ls.setIfInBounds i true).push true := by
      apply Array.toList_inj.1
      have : i < ls.toList.length := by simpa [hs] using hil
      simp [List.set_append_left _ _ this]
    rw [e2]
    obtain ⟨o, ho⟩ : ∃ o, l.toArray[i]? = some o := ⟨_, Array.getElem?_eq_getElem (by simpa using hil)⟩
    have ho2 := (hget i hil).trans ho
    have w1 : ∀ y, Region.wanted o y = true := fun y => by simp [Region.wanted, (hops i o ho2).1]
    unfold wpOp at *
    simp only [ho, ho2] at *
    rw [if_pos (w1 _)] at *
    exact h1.imp (fun h => Oper.wp_mono (fun a' w' hq => ih _ a' w' (by simpa using hs) hq) h) id

theorem any_of_tail {l : List Oper} {Q : Exit → Act → World → Prop} {a : Act} {w0 w : World} (n : Nat) (hB : Region.lexTailB .any l.toArray n = true) (hw : ∃ W, w = ext w0 W)
    (h : wpQuiet P l.toArray (fun w' => ∃ W, w' = ext w0 W) (fun a' => ∀ w', (∃ W, w' = ext w0 W) → wpList P l.toArray Q (l.drop n) a' w') (l.take n) a) : wpAny P .any l.toArray Q l.length (Array.replicate l.length false) a w := by
  simp only [Region.lexTailB, Bool.and_eq_true, decide_eq_true_eq] at hB
  obtain ⟨⟨⟨⟨hsel, hn⟩, hs⟩, hc⟩, hlex⟩ := hB
  have hn' : n < l.length := by simpa using hn
  have hz : l.toArray.size = l.length := by simp
  have htl : (l.take n).length = n := by simp; omega
  have hdl : (l.drop n).length = l.toArray.size - n := by simp
  have inv0 : HeadInv .any l.toArray n (Array.replicate l.toArray.size false) :=
    ⟨by simp, fun j oj _ hl => (by rw [getD_replicate_false] at hl; cases hl), fun t _ ht => getD_in (by simpa using ht) (getD_replicate_false _ _)⟩
  have H := head_lex (md := .any) (g := l.toArray.size - n) hsel hs hc hn (l.take n) 0 _ a (fun j hj => by
    rw [htl] at hj
    simp [hj]) (by simpa using htl) inv0 (by rw [htl]; exact hlex) h
  have := any_of_head (Q := Q) (g := l.toArray.size - n) (fun ls a' w' hw' hL => by
    have := wpAny_of_seq (md := .any) (Q' := Q) (l.drop n) n ls a' w' (fun j => by simp [List.getElem?_drop]) (by rw [hdl]; exact hL.1) (hL.2 w' hw')
    rwa [hdl] at this) _ _ _ _ hw H
  rw [htl, show n + (l.toArray.size - n) = l.toArray.size by omega, hz] at this
  exact this

/-- what the rule asks of a region: a head of n operations, a forced tail, an operation that waits for nothing and that only the last one waits for, the last one -/
def fieldB (l : List Oper) (p s : Oper) (n : Nat) : Bool :=
  lastB .any (l ++ [p] ++ [s]).toArray (l.length + 1) && Region.noSelect (l ++ [p]).toArray && Region.free .any (l ++ [p]).toArray (Array.replicate (l.length + 1) false) l.length &&
    (Region.ready .any (l ++ [p]).toArray (Array.replicate (l.length + 1) false)).contains l.length && Region.lexTailB .any l.toArray n

/-- The rule for 'x.f = append(x.f, ..)': the operation before the last is taken first, the last one is split off. -/
theorem wp_region_field {id : Nat} {Q : Exit → Act → World → Prop} {a : Act} {w : World} {l : List Oper} {p s : Oper} {v : Value} (n : Nat) (hm : P.follows .mixedOrders = true) (hB : fieldB l p s n = true)
    (hy : Yields P (l ++ [p]).toArray p v a)
    (h : wpQuiet P l.toArray (fun w' => ∃ W, w' = ext w W) (fun a' => ∀ w', (∃ W, w' = ext w W) → wpList P l.toArray (lastQ P Q s) (l.drop n) a' w') (l.take n) (a.put p.dst v)) : (Code.region id (l ++ [p] ++ [s]).toArray true).wp P Q a w := by
  simp only [fieldB, Bool.and_eq_true] at hB
  obtain ⟨⟨⟨⟨h1, h2⟩, h3⟩, h4⟩, h5⟩ := hB
  have hL : (l ++ [p]).length = l.length + 1 := by simp
  rw [← hL] at h1
  obtain ⟨_, hops, _⟩ := lastB_spec h1
  have hops1 : ∀ j o, (l ++ [p]).toArray[j]? = some o → o.guard = none ∧ ∀ e ∈ o.after, Region.binds .any e = true → e.on < j := fun j o ho => by
    have hj : j < (l ++ [p]).length := by have := (Array.getElem?_eq_some_iff.1 ho).1; simpa using this
    exact hops j o (by rw [← ho]; simp only [List.getElem?_toArray]; exact List.getElem?_append_left hj)
  refine wp_region_any hm ?_
  have hC0 : ∃ W, ({ w with drawn := w.drawn + 1 } : World) = ext w W := ⟨_, (ext_of (Below.drew (Below.refl _ _))).symm⟩
  have H1 := any_of_tail n h5 hC0 h
  have H2 := any_drop (p := p) hops1 _ _ _ _ (by simp) H1
  have H3 : wpAny P .any (l ++ [p]).toArray (lastQ P Q s) (l.length + 1) (Array.replicate (l.length + 1) false) a { w with drawn := w.drawn + 1 } := by
    refine wpAny_take (i := l.length) (oi := p) (by simp) h2 h3 h4 (fun _ _ _ h => h) hy ?_
    rw [show (Array.replicate (l.length + 1) false).setIfInBounds l.length true = (Array.replicate l.length false).push true by
      apply Array.toList_inj.1
      simp [List.replicate_succ', List.set_append_right]]
    exact H2
  have H4 := any_last h1 _ _ _ _ (by simp) H3
  rw [show (l ++ [p] ++ [s]).toArray.size = l.length + 1 + 1 by simp, show (Array.replicate (l.length + 1 + 1) false) = (Array.replicate (l.length + 1) false).push false by
    apply Array.toList_inj.1
    simp [List.replicate_succ']]
  exact H4

/-- The same over a row of operations as the text has it: its last two are p and s. -/
theorem wp_region_field2 {id : Nat} {Q : Exit → Act → World → Prop} {a : Act} {w : World} {L : List Oper} (k : Nat) {p s : Oper} {v : Value} (n : Nat) (hd : L.drop k = [p, s]) (hm : P.follows .mixedOrders = true) (hB : fieldB (L.take k) p s n = true)
    (hy : Yields P (L.take k ++ [p]).toArray p v a)
    (h : wpQuiet P (L.take k).toArray (fun w' => ∃ W, w' = ext w W) (fun a' => ∀ w', (∃ W, w' = ext w W) → wpList P (L.take k).toArray (lastQ P Q s) ((L.take k).drop n) a' w') ((L.take k).take n) (a.put p.dst v)) : (Code.region id L.toArray true).wp P Q a w := by
  have e : L = L.take k ++ [p] ++ [s] := by
    have := (List.take_append_drop k L).symm
    rw [hd] at this
    simpa using this
  have := wp_region_field (id := id) n hm hB hy h
  rwa [← e] at this

/-- The last operation split off, the rest under a condition S that each step shows anew. -/
theorem wp_region_held_last {id : Nat} {Q : Exit → Act → World → Prop} {a : Act} {w : World} {L : List Oper} (k : Nat) {s : Oper} (S : World → Prop) (hd : L.drop k = [s]) (hm : P.follows .mixedOrders = true) (hB : lastB .any L.toArray k = true) (hS : S w.drew)
    (h : S w.drew → wpAnyH P .any (L.take k).toArray (lastQ P Q s) S k (Array.replicate k false) a w.drew) : (Code.region id L.toArray true).wp P Q a w := by
  have e : L.take k ++ [s] = L := by
    have := List.take_append_drop k L
    rwa [hd] at this
  have hk : (L.take k).length = k := by
    have h1 : (L.drop k).length = 1 := by rw [hd]; rfl
    rw [List.length_drop] at h1
    rw [List.length_take]
    omega
  refine wp_region_any hm ?_
  have H := any_last (l := L.take k) (s := s) (Q := Q) (by rw [e, hk]; exact hB) k (Array.replicate k false) a w.drew (by simp [hk]) (wpAny_of_held _ _ _ _ (h hS))
  rw [e] at H
  rw [show L.toArray.size = k + 1 by rw [← e]; simp [hk], show (Array.replicate (k + 1) false) = (Array.replicate k false).push false by
    apply Array.toList_inj.1
    simp [List.replicate_succ']]
  exact H
theorem heldL_take {Q : Exit → Act → World → Prop} {S : World → Prop} {l : List Oper} {i : Nat} {oi : Oper} {v : Value} {fuel : Nat} {listed : Array Bool} {a : Act} {w : World} (hi : l[i]? = some oi)
    (hs : Region.noSelect l.toArray = true) (hf : Region.free md l.toArray listed i = true) (hr : (Region.ready md l.toArray listed).contains i = true)
    (hQ : ∀ c a w, Q (.panic c) (a.put oi.dst v) w → Q (.panic c) a w) (hy : YieldsIf P l.toArray S oi v a) (hS : S w)
    (h : wpAnyH P md l.toArray Q S fuel (listed.setIfInBounds i true) (a.put oi.dst v) w) : wpAnyH P md l.toArray Q S (fuel + 1) listed a w :=
  wpAnyH_take (by simpa using hi) hs hf hr hQ hy hS h
theorem heldL_step {Q : Exit → Act → World → Prop} {S : World → Prop} {l : List Oper} {i : Nat} {o : Oper} {fuel : Nat} {listed : Array Bool} {a : Act} {w : World} (hr : Region.ready md l.toArray listed = [i]) (hi : l[i]? = some o)
    (h : ∀ K' : Act → World → Prop, Shut (∀ a w, S w → (S w → wpAnyH P md l.toArray Q S fuel (listed.setIfInBounds i true) a w) → K' a w) → if Region.wanted o (yielded l.toArray a.tmps) = true then Oper.wp P o a w K' Q else K' (a.put o.dst undef) w) : wpAnyH P md l.toArray Q S (fuel + 1) listed a w :=
  wpAnyH_ready hr (by simp) (AllReadyH.cons (by simpa using hi) h AllReadyH.nil)
end
end Go.Proofs.Ythajmffhgbenpaa

/- Boxes of matrices: stores. -/
namespace Go.Proofs.Ythajmffhgbenpaa
set_option linter.unusedSimpArgs false
set_option linter.unusedVariables false
open Go.RowKit

theorem MBox.far {w : World} {b : Nat} {r c : Int} {v : Value} (h : MBox w b r c v) {p : Addr} (hne : b ≠ p.block) (u : Value) : MBox (w.setCell p u) b r c v :=
  MBox.only h (only_setCell (p := p) (World.grownBy.refl w (some p.block)) rfl u) hne
theorem MBox.alloc {w : World} {b : Nat} {r c : Int} {v : Value} (h : MBox w b r c v) (o : Obj) : MBox (w.alloc o) b r c v := h.grows ((Below.refl _ _).alloc (Nat.le_refl _) o)
theorem MBox.put {w : World} {b : Nat} {r c : Int} {v : Value} (h : MBox w b r c v) (r' c' : Int) (v' : Value) : MBox (((w.setCell ⟨b, 0, none⟩ (.int .i64 r')).setCell ⟨b, 1, none⟩ (.int .i64 c')).setCell ⟨b, 2, none⟩ v') b r' c' v' := by
  obtain ⟨h0, h1, h2⟩ := h.cells
  have hl := h.lt
  have hf := h.fz
  exact ⟨by simp; exact hl, by simp [go_sem, h0], by simp [go_sem, h1], by simp [go_sem, h2], fun o => by simp [go_sem, hf]⟩

theorem MBox.own {w w' : World} {b : Nat} {r c : Int} {u v : Value} (h : MBox w b r c u) (hg : w.grownBy w' v.ownBlock) (hne : ∀ g, v.ownBlock = some g → g ≠ b) : MBox w' b r c u := by
  have hb : w'.heap[b]? = w.heap[b]? := hg.block b h.lt (fun e => hne b e.symm rfl)
  have hc : ∀ o, w'.cell? ⟨b, o, none⟩ = w.cell? ⟨b, o, none⟩ := fun o => by unfold World.cell?; simp only [hb]
  have hf : ∀ o, w'.frozen? ⟨b, o, none⟩ = w.frozen? ⟨b, o, none⟩ := fun o => by unfold World.frozen?; simp only [hb]
  exact ⟨Nat.lt_of_lt_of_le h.lt hg.size, (hc 0).trans h.c0, (hc 1).trans h.c1, (hc 2).trans h.c2, fun o => (hf o).trans (h.fz o)⟩
theorem MBox.new_ (w : World) (r c : Int) (v : Value) (t : TypeId) {b : Nat} (hb : w.heap.size = b) : MBox (w.alloc (.cells #[.int .i64 r, .int .i64 c, v] t)) b r c v := by
  subst hb; exact MBox.mk_ _ _ _ _ _
theorem Own.new_ (w : World) {B b : Nat} (hb : w.heap.size = b) (hB : B ≤ b) : Own (w.alloc (.cells #[] 3)) B (.slice (some ⟨b, 0, none⟩) 0 0) [] := by
  subst hb; exact Own.mk_empty w B hB
theorem MBox.put2 {w : World} {b : Nat} {r c : Int} {v : Value} (h : MBox w b r c v) (v' : Value) : MBox (w.setCell ⟨b, 2, none⟩ v') b r c v' := by
  obtain ⟨h0, h1, h2⟩ := h.cells
  have hl := h.lt
  have hf := h.fz
  exact ⟨by simp; exact hl, by simp [go_sem, h0], by simp [go_sem, h1], by simp [go_sem, h2], fun o => by simp [go_sem, hf]⟩
theorem Rd.cell {w : World} {b off : Nat} {l : List Int} (h : Rd w (some ⟨b, off, none⟩) l) (i : Nat) (hi : i < l.length) : w.cell? ⟨b, off + i, none⟩ = some (.int .i64 (nth l i)) := by
  obtain ⟨b', off', e, _, hc⟩ := h i hi
  simp only [Option.some.injEq, Addr.mk.injEq, and_true] at e
  obtain ⟨rfl, rfl⟩ := e
  exact hc
/-- the slice that an answer holds -/
def oL (o : Option (List Int)) : List Int := o.getD []
theorem Own.rd_ {w : World} {B n c : Nat} {A : Option Addr} {l : List Int} (h : Own w B (.slice A n c) l) : Rd w A l := by
  obtain ⟨A', c', e, hr, _⟩ := h.val
  injection e with e1 _ _
  rw [e1]; exact hr
end Go.Proofs.Ythajmffhgbenpaa

/- Contracts: the reference's transpose; valid matrices handed back. -/
namespace Go.Proofs.Ythajmffhgbenpaa
set_option linter.unusedSimpArgs false
set_option linter.unusedVariables false
open Go.RowKit

section
set_option maxHeartbeats 1000000

theorem l3Turn_c (R C : Nat) (A : Option Addr) (l : List Int) (n cap : Nat) (w : World) (hn : l.length = n) (ha : Rd w A l) (hl : l.length = R * C) (hR : R ≤ 24) (hC : C ≤ 24) :
    Calls Try.prog 101 #[.agg #[.int .i64 R, .int .i64 C, .slice A n cap]] w fun e w' =>
      ∃ v, e = .returned (.agg #[.int .i64 C, .int .i64 R, v]) ∧ Own w' w.heap.size v (trL R C l) ∧ Grows w w' := by
  subst hn
  have hRC : C * R ≤ 576 := Nat.mul_le_mul hC hR
  have HL := Lib.hid hl
  have HA := Lib.hid (rd_bound ha)
  clear hl
  go_enter Try.func101, Try.ntmps101
  go_wp2_with fail
  refine (l3New_c C R _ (by omega)).mono ?_; rintro e w2 ⟨g, rfl, ho, g2⟩
  obtain ⟨ho1, ho2⟩ := ho.lt
  simp at ho1
  have z1 := Below.size g2; simp at z1
  have mb : MBox w2 w.heap.size R C (.slice A l.length cap) := (MBox.mk_ w R C (.slice A l.length cap) 26).grows (by exact bel1 g2)
  have rb : MBox w2 (w.heap.size + 1) 0 0 (.slice none 0 0) := by have := (MBox.mk_ (w.alloc (.cells #[.int .i64 R, .int .i64 C, .slice A l.length cap] 26)) 0 0 (.slice none 0 0) 26).grows (w' := w2) (by exact bel1 g2); simpa using this
  have rd1 : Rd w2 A l := (Rd.grows ha (by exact bel1 g2))
  have gw1 : Grows w w2 := by exact bel1 g2
  replace ho := ho.less (show w.heap.size ≤ _ by simp; omega)
  have lo : w.heap.size + 1 < g := by omega
  clear g2 ho1 z1 ha
  obtain ⟨b0, b1, b2⟩ := mb.cells
  go_wp2_with fail
  go_loopw [4] (fun i wr => ∃ (I : Nat) (m : List Int), i = .int .i64 I ∧ I ≤ R ∧ m.length = C * R ∧ UptoC C R (fun j i => nth l (i * C + j)) I 0 m ∧ Own wr w.heap.size (.slice (some ⟨g, 0, none⟩) (C * R) (C * R)) m ∧ Rd wr A l ∧ Grows w wr ∧
      MBox wr w.heap.size R C (.slice A l.length cap) ∧ MBox wr (w.heap.size + 1) 0 0 (.slice none 0 0) ∧ MBox wr w2.heap.size C R (.slice (some ⟨g, 0, none⟩) (C * R) (C * R))) (fun i _ => R - (intOf i).toNat)
  case atStart =>
    exact ⟨0, _, rfl, Nat.zero_le _, by simp, UptoC.zero _ _ _ _, ho.alloc _, rd1.alloc _, by exact bel1 gw1, mb.grows (by exact bel0), rb.grows (by exact bel0), MBox.mk_ _ _ _ _ _⟩
  case round =>
    obtain ⟨I, m, rfl, hI, hml, hup, how, hrd, hgr, hmb, hrb, hob⟩ := hrel
    have HU := Lib.hid hup
    have HML := Lib.hid hml
    clear hup hml mb rb rd1 gw1 ho b0 b1 b2
    obtain ⟨b0, b1, b2⟩ := hmb.cells
    by_cases hlt : I < R
    · go_wp2_with fail
      obtain ⟨wo, rfl⟩ : ∃ wo : World, wo = wr := ⟨_, rfl⟩
      go_loopw [5] (fun j wr => ∃ (J : Nat) (m : List Int), j = .int .i64 J ∧ J ≤ C ∧ m.length = C * R ∧ UptoC C R (fun j i => nth l (i * C + j)) I J m ∧ Own wr w.heap.size (.slice (some ⟨g, 0, none⟩) (C * R) (C * R)) m ∧ Rd wr A l ∧ Grows w wr ∧
          MBox wr w.heap.size R C (.slice A l.length cap) ∧ MBox wr (w.heap.size + 1) 0 0 (.slice none 0 0) ∧ MBox wr w2.heap.size C R (.slice (some ⟨g, 0, none⟩) (C * R) (C * R))) (fun j _ => C - (intOf j).toNat)
      case atStart => exact ⟨0, m, rfl, Nat.zero_le _, HML.out, HU.out, how, hrd, hgr, hmb, hrb, hob⟩
      case round =>
        clear HU HML b0 b1 b2 how hrd hgr hmb hrb hob
        obtain ⟨J, m, rfl, hJ, hml, hup, how, hrd, hgr, hmb, hrb, hob⟩ := hrel
        have HU := Lib.hid hup
        have HML := Lib.hid hml
        clear hup hml
        by_cases hlt2 : J < C
        · obtain ⟨b0, b1, b2⟩ := hmb.cells
          go_wp2_with fail
          clear b0 b1 b2
          obtain ⟨x0, x1, x2⟩ := hmb.ext
          obtain ⟨y0, y1, y2⟩ := hob.ext
          have i1 := castMul I C
          have i2 : (I : Int) * (C : Int) ≤ ((1048576 : Nat) : Int) := castMulLe (by have := Nat.mul_le_mul (Nat.le_of_lt hlt) hC; omega)
          have i3 := castPos I C J
          have i4 : (I : Int) * (C : Int) + (J : Int) < (l.length : Int) := castLt (by rw [HL.out]; exact idx_lt hlt hlt2)
          have i5 := castMul J R
          have i6 : (J : Int) * (R : Int) ≤ ((1048576 : Nat) : Int) := castMulLe (by have := Nat.mul_le_mul (Nat.le_of_lt hlt2) hR; omega)
          have i7 := castPos J R I
          have i8 : (J : Int) * (R : Int) + (I : Int) < ((C * R : Nat) : Int) := castLt (idx_lt hlt2 hlt)
          have i8' : (J : Int) * (R : Int) + (I : Int) < (C : Int) * (R : Int) := by rw [← Int.natCast_mul C R]; exact i8
          obtain ⟨b, off, rfl, hbs, hcell⟩ := hrd.at_ (I * C + J) (by rw [HL.out]; exact idx_lt hlt hlt2)
          have x3 := ext_is hcell
          have q1 : ((I : Int) * (C : Int) + (J : Int)).toNat = I * C + J := castIdx I C J
          have q2 : ((J : Int) * (R : Int) + (I : Int)).toNat = J * R + I := castIdx J R I
          ((refine wp_region_tail 19 (by kernel_rfl) (by kernel_rfl) ?_; simp only [List.take_succ_cons, List.take_zero, List.drop_succ_cons, List.drop_zero]); (repeat (go_big_quiet_step ((fail)))); refine wpQuiet_nil ?_; rintro w3 ⟨w30, hw30⟩; have g3 := grows_of_ext hw30; clear hw30 w30)
          have hi2 : J * R + I < C * R := idx_lt hlt2 hlt
          have k1 := (how.grows g3).cell (J * R + I) (by rw [HML.out]; exact hi2)
          have k2 := (how.grows g3).free (J * R + I)
          have hs3 := Below.size hgr
          have hs4 := Below.size g3
          have gb : w3.grownBy (w3.setCell ⟨g, J * R + I, none⟩ (.int .i64 (nth l (I * C + J)))) (some g) := only_setCell (p := ⟨g, J * R + I, none⟩) (World.grownBy.refl w3 _) rfl _
          have ho4 : Own (w3.setCell ⟨g, J * R + I, none⟩ (.int .i64 (nth l (I * C + J)))) w.heap.size (.slice (some ⟨g, 0, none⟩) (C * R) (C * R)) (m.set (J * R + I) (nth l (I * C + J))) := by
            have := how.grows g3
            rw [← HML.out] at this ⊢
            exact this.set _ _
          clear q1 q2
          go_wp2_with fail
          go_round
          case rel =>
            exact ⟨J + 1, _, by go_num, by omega, by rw [List.length_set]; exact HML.out, UptoC.set HU.out HML.out hlt2 hlt, ho4, (hrd.grows g3).only HA.out gb (by omega), below_only (Grows.trans hgr g3) gb (by omega) (by omega), (hmb.grows g3).only gb (by omega), (hrb.grows g3).only gb (by omega), (hob.grows g3).only gb (by omega)⟩
          case measure => simp [intOf]; omega
        · obtain rfl : J = C := by omega
          obtain ⟨b0, b1, b2⟩ := hmb.cells
          go_wp2_with fail
          go_round
          case rel =>
            exact ⟨I + 1, m, by go_num, by omega, HML.out, UptoC.col HU.out, how, hrd, hgr, hmb, hrb, hob⟩
          case measure => simp [intOf]; omega
    · obtain rfl : I = R := by omega
      have hfin : m = trL I C l := UptoC.all HU.out HML.out
      subst hfin
      obtain ⟨y0, y1, y2⟩ := hob.cells
      obtain ⟨r0, r1, r2⟩ := hrb.cells
      have rf := hrb.fz
      go_wp2_with fail
      refine bodyPost_ret (v := .agg #[.int .i64 C, .int .i64 I, .slice (some ⟨g, 0, none⟩) (C * I) (C * I)]) ?_ rfl ?_
      · simp [results, Try.results101, go_sem, r0, r1, r2]
      · have hs5 := Below.size hgr
        exact ⟨_, rfl, ((how.far (by intro k hk; simp [Value.ownBlock] at hk; simp; omega) _).far (by intro k hk; simp [Value.ownBlock] at hk; simp; omega) _).far (by intro k hk; simp [Value.ownBlock] at hk; simp; omega) _, by exact bel1 hgr⟩

theorem checked_yes (r c : Int) (A : Option Addr) (l : List Int) (n cap : Nat) (w : World) (hn : l.length = n) (ha : Rd w A l) (hl : n ≤ 1099511627776) (hm : isMat r c l = true) :
    Calls Try.prog 29 #[.agg #[.int .i64 r, .int .i64 c, .slice A n cap]] w fun e w' => e = .returned (.tuple #[.agg #[.int .i64 r, .int .i64 c, .slice A n cap], .bool true]) ∧ Grows w w' := by
  have HM := Lib.hid fun w h => iIsMatrix_c r c A l n cap w hn h hl
  rw [hm] at HM
  have HM' := Lib.hid HM.out
  clear hm HM hn
  go_enter Try.func29, Try.ntmps29
  go_wp2_with fail
  refine (HM'.out _ (by exact (Rd.grows ha (by exact bel0)))).mono ?_; rintro e w1 ⟨rfl, g1⟩
  have mb : MBox w1 w.heap.size r c (.slice A n cap) := (MBox.mk_ w r c (.slice A n cap) 26).grows (by exact bel1 g1)
  have rb : MBox w1 (w.heap.size + 1) 0 0 (.slice none 0 0) := by have := (MBox.mk_ (w.alloc (.cells #[.int .i64 r, .int .i64 c, .slice A n cap] 26)) 0 0 (.slice none 0 0) 26).grows (w' := w1) (by exact bel1 g1); simpa using this
  obtain ⟨b0, b1, b2⟩ := mb.cells
  obtain ⟨r0, r1, r2⟩ := rb.cells
  have rf := rb.fz
  go_wp2_with fail
  refine bodyPost_ret (v := .tuple #[.agg #[.int .i64 r, .int .i64 c, .slice A n cap], .bool true]) ?_ rfl ?_
  · simp [results, Try.results29, go_sem, r0, r1, r2]
  · exact ⟨rfl, by exact bel1 g1⟩

theorem checked_no (r c : Int) (A : Option Addr) (l : List Int) (n cap : Nat) (w : World) (hn : l.length = n) (ha : Rd w A l) (hl : n ≤ 1099511627776) (hm : isMat r c l = false) :
    Calls Try.prog 29 #[.agg #[.int .i64 r, .int .i64 c, .slice A n cap]] w fun e w' => e = .returned (.tuple #[.agg #[.int .i64 0, .int .i64 0, .slice none 0 0], .bool false]) ∧ Grows w w' := by
  have HM := Lib.hid fun w h => iIsMatrix_c r c A l n cap w hn h hl
  rw [hm] at HM
  have HM' := Lib.hid HM.out
  clear hm HM hn
  go_enter Try.func29, Try.ntmps29
  go_wp2_with fail
  refine (HM'.out _ (by exact (Rd.grows ha (by exact bel0)))).mono ?_; rintro e w1 ⟨rfl, g1⟩
  have rb : MBox w1 (w.heap.size + 1) 0 0 (.slice none 0 0) := by have := (MBox.mk_ (w.alloc (.cells #[.int .i64 r, .int .i64 c, .slice A n cap] 26)) 0 0 (.slice none 0 0) 26).grows (w' := w1) (by exact bel1 g1); simpa using this
  obtain ⟨r0, r1, r2⟩ := rb.cells
  have rf := rb.fz
  go_wp2_with fail
  refine bodyPost_ret (v := .tuple #[.agg #[.int .i64 0, .int .i64 0, .slice none 0 0], .bool false]) ?_ rfl ?_
  · simp [results, Try.results29, go_sem, r0, r1, r2]
  · exact ⟨rfl, by exact bel1 g1⟩

theorem l3Done_yes (r c : Int) (A : Option Addr) (l : List Int) (n cap : Nat) (w : World) (hn : l.length = n) (ha : Rd w A l) (hl : n ≤ 1099511627776) (hm : isMat r c l = true) :
    Calls Try.prog 99 #[.agg #[.int .i64 r, .int .i64 c, .slice A n cap]] w fun e w' => e = .returned (.tuple #[.agg #[.int .i64 r, .int .i64 c, .slice A n cap], .bool true]) ∧ Grows w w' := by
  have HM := Lib.hid fun w h => sIsMatrix_c r c A l n cap w hn h hl
  rw [hm] at HM
  have HM' := Lib.hid HM.out
  clear hm HM hn
  go_enter Try.func99, Try.ntmps99
  go_wp2_with fail
  refine (HM'.out _ (by exact (Rd.grows ha (by exact bel0)))).mono ?_; rintro e w1 ⟨rfl, g1⟩
  have mb : MBox w1 w.heap.size r c (.slice A n cap) := (MBox.mk_ w r c (.slice A n cap) 26).grows (by exact bel1 g1)
  have rb : MBox w1 (w.heap.size + 1) 0 0 (.slice none 0 0) := by have := (MBox.mk_ (w.alloc (.cells #[.int .i64 r, .int .i64 c, .slice A n cap] 26)) 0 0 (.slice none 0 0) 26).grows (w' := w1) (by exact bel1 g1); simpa using this
  obtain ⟨b0, b1, b2⟩ := mb.cells
  obtain ⟨r0, r1, r2⟩ := rb.cells
  have rf := rb.fz
  go_wp2_with fail
  refine bodyPost_ret (v := .tuple #[.agg #[.int .i64 r, .int .i64 c, .slice A n cap], .bool true]) ?_ rfl ?_
  · simp [results, Try.results99, go_sem, r0, r1, r2]
  · exact ⟨rfl, by exact bel1 g1⟩

theorem l3Done_no (r c : Int) (A : Option Addr) (l : List Int) (n cap : Nat) (w : World) (hn : l.length = n) (ha : Rd w A l) (hl : n ≤ 1099511627776) (hm : isMat r c l = false) :
    Calls Try.prog 99 #[.agg #[.int .i64 r, .int .i64 c, .slice A n cap]] w fun e w' => e = .returned (.tuple #[.agg #[.int .i64 0, .int .i64 0, .slice none 0 0], .bool false]) ∧ Grows w w' := by
  have HM := Lib.hid fun w h => sIsMatrix_c r c A l n cap w hn h hl
  rw [hm] at HM
  have HM' := Lib.hid HM.out
  clear hm HM hn
  go_enter Try.func99, Try.ntmps99
  go_wp2_with fail
  refine (HM'.out _ (by exact (Rd.grows ha (by exact bel0)))).mono ?_; rintro e w1 ⟨rfl, g1⟩
  have rb : MBox w1 (w.heap.size + 1) 0 0 (.slice none 0 0) := by have := (MBox.mk_ (w.alloc (.cells #[.int .i64 r, .int .i64 c, .slice A n cap] 26)) 0 0 (.slice none 0 0) 26).grows (w' := w1) (by exact bel1 g1); simpa using this
  obtain ⟨r0, r1, r2⟩ := rb.cells
  have rf := rb.fz
  go_wp2_with fail
  refine bodyPost_ret (v := .tuple #[.agg #[.int .i64 0, .int .i64 0, .slice none 0 0], .bool false]) ?_ rfl ?_
  · simp [results, Try.results99, go_sem, r0, r1, r2]
  · exact ⟨rfl, by exact bel1 g1⟩
end
end Go.Proofs.Ythajmffhgbenpaa

/- Contracts: products of matrices. -/
namespace Go.Proofs.Ythajmffhgbenpaa
set_option linter.unusedSimpArgs false
set_option linter.unusedVariables false
open Go.RowKit

/-! ### plain -/
/-- The first t products of row i of a (K columns) and column j of b (C columns), added up. -/
def dotTo (a b : List Int) (K C i j : Nat) : Nat → Int
  | 0 => 0
  | t + 1 => dotTo a b K C i j t + nth a (i * K + t) * nth b (t * C + j)
def mulL (R K C : Nat) (a b : List Int) : List Int := tab R C fun i j => dotTo a b K C i j K
def mulOk (r c : Int) (a : List Int) (r' c' : Int) (b : List Int) : Bool := isMat r c a && isMat r' c' b && (c == r') && allNum (mulL r.toNat c.toNat c'.toNat a b)
def mulR (r c : Int) (a : List Int) (r' c' : Int) (b : List Int) : Int := if mulOk r c a r' c' b then r else 0
def mulC (r c : Int) (a : List Int) (r' c' : Int) (b : List Int) : Int := if mulOk r c a r' c' b then c' else 0
def mulV (r c : Int) (a : List Int) (r' c' : Int) (b : List Int) : List Int := if mulOk r c a r' c' b then mulL r.toNat c.toNat c'.toNat a b else []
theorem mulL_length (R K C : Nat) (a b : List Int) : (mulL R K C a b).length = R * C := tab_length _ _ _
theorem mulV_length (r c : Int) (a : List Int) (r' c' : Int) (b : List Int) : (mulV r c a r' c' b).length ≤ 576 := by
  unfold mulV
  split
  · rename_i h
    unfold mulOk at h
    simp only [Bool.and_eq_true] at h
    obtain ⟨R, C, rfl, rfl, hR, _, _, _⟩ := isMat_nat h.1.1.1
    obtain ⟨R', C', rfl, rfl, _, hC', _, _⟩ := isMat_nat h.1.1.2
    rw [mulL_length]
    simp only [Int.toNat_natCast]
    exact Nat.mul_le_mul hR hC'
  · simp
theorem dot_bd {a b : List Int} {R K C i j : Nat} (ha : ∀ t, t < a.length → isNum (nth a t) = true) (hb : ∀ t, t < b.length → isNum (nth b t) = true) (la : a.length = R * K) (lb : b.length = K * C) (hi : i < R) (hj : j < C) :
    ∀ t, t ≤ K → -160000000000000000 * (t : Int) ≤ dotTo a b K C i j t ∧ dotTo a b K C i j t ≤ 160000000000000000 * (t : Int)
  | 0, _ => by simp [dotTo]
  | t + 1, h => by
    have ih := dot_bd ha hb la lb hi hj t (by omega)
    have h1 := ha (i * K + t) (by rw [la]; exact idx_lt hi (by omega))
    have h2 := hb (t * C + j) (by rw [lb]; exact idx_lt (by omega) hj)
    have := mul_bd h1 h2
    simp only [dotTo]
    omega
theorem mulOk_no1 {r c : Int} {a : List Int} {r' c' : Int} {b : List Int} (h : isMat r c a = false) : mulOk r c a r' c' b = false := by unfold mulOk; rw [h]; simp
theorem mulOk_no2 {r c : Int} {a : List Int} {r' c' : Int} {b : List Int} (h : isMat r' c' b = false) : mulOk r c a r' c' b = false := by unfold mulOk; rw [h]; simp
theorem mulOk_no3 {r c : Int} {a : List Int} {r' c' : Int} {b : List Int} (h : (c == r') = false) : mulOk r c a r' c' b = false := by unfold mulOk; rw [h]; simp
theorem mul_no {r c : Int} {a : List Int} {r' c' : Int} {b : List Int} (h : mulOk r c a r' c' b = false) : mulR r c a r' c' b = 0 ∧ mulC r c a r' c' b = 0 ∧ mulV r c a r' c' b = [] := by simp [mulR, mulC, mulV, h]
theorem mulOk_nat {R K C : Nat} {a b : List Int} (h1 : isMat R K a = true) (h2 : isMat K C b = true) : mulOk R K a K C b = allNum (mulL R K C a b) := by
  unfold mulOk
  rw [h1, h2]
  simp
theorem mul_yes {R K C : Nat} {a b : List Int} (h : mulOk R K a K C b = true) : mulR R K a K C b = R ∧ mulC R K a K C b = C ∧ mulV R K a K C b = mulL R K C a b := by simp [mulR, mulC, mulV, h]
theorem isMat_made {R C : Nat} {l : List Int} (hR : R ≤ 24) (hC : C ≤ 24) (hl : l.length = R * C) : isMat R C l = allNum l := by
  unfold isMat
  rw [(inB_iff _ 0 24).2 ⟨by omega, by omega⟩, (inB_iff _ 0 24).2 ⟨by omega, by omega⟩, hl]
  simp

section
set_option maxHeartbeats 2000000
theorem l3Mul_c (R K C : Nat) (A B : Option Addr) (a b : List Int) (n m ca cb : Nat) (w : World) (hn : a.length = n) (hm : b.length = m) (ha : Rd w A a) (hb : Rd w B b) (h1 : isMat R K a = true) (h2 : isMat K C b = true) :
    Calls Try.prog 100 #[.agg #[.int .i64 R, .int .i64 K, .slice A n ca], .agg #[.int .i64 K, .int .i64 C, .slice B m cb]] w fun e w' =>
      ∃ v, e = .returned (.agg #[.int .i64 R, .int .i64 C, v]) ∧ Own w' w.heap.size v (mulL R K C a b) ∧ Grows w w' := by
  subst hn
  subst hm
  obtain ⟨R', K', e1, e2, hR, hK, la, na⟩ := isMat_nat h1
  obtain rfl : R = R' := by omega
  obtain rfl : K = K' := by omega
  obtain ⟨K', C', e3, e4, _, hC, lb, nb⟩ := isMat_nat h2
  obtain rfl : K = K' := by omega
  obtain rfl : C = C' := by omega
  have HD := Lib.hid (fun I J T (hI : I < R) (hJ : J < C) (hT : T ≤ K) => dot_bd na nb la lb hI hJ T hT)
  have HLA := Lib.hid la
  have HLB := Lib.hid lb
  have HNA := Lib.hid na
  have HNB := Lib.hid nb
  have HA := Lib.hid (rd_bound ha)
  have HB := Lib.hid (rd_bound hb)
  have hRC : R * C ≤ 576 := Nat.mul_le_mul hR hC
  clear la lb na nb e1 e2 e3 e4 h1 h2
  go_enter Try.func100, Try.ntmps100
  go_wp2_with fail
  refine (l3New_c R C _ (by omega)).mono ?_; rintro e w2 ⟨g, rfl, ho, g2⟩
  obtain ⟨ho1, ho2⟩ := ho.lt
  simp at ho1
  have z1 := Below.size g2; simp at z1
  have mb0 : MBox w2 w.heap.size R K (.slice A a.length ca) := (MBox.mk_ w R K (.slice A a.length ca) 26).grows (by exact bel1 g2)
  have mb1 : MBox w2 (w.heap.size + 1) K C (.slice B b.length cb) := by have := (MBox.mk_ (w.alloc (.cells #[.int .i64 R, .int .i64 K, .slice A a.length ca] 26)) K C (.slice B b.length cb) 26).grows (w' := w2) (by exact bel1 g2); simpa using this
  have rb : MBox w2 (w.heap.size + 2) 0 0 (.slice none 0 0) := by have := (MBox.mk_ ((w.alloc (.cells #[.int .i64 R, .int .i64 K, .slice A a.length ca] 26)).alloc (.cells #[.int .i64 K, .int .i64 C, .slice B b.length cb] 26)) 0 0 (.slice none 0 0) 26).grows (w' := w2) (by exact bel1 g2); simpa using this
  have rda : Rd w2 A a := (Rd.grows ha (by exact bel1 g2))
  have rdb : Rd w2 B b := (Rd.grows hb (by exact bel1 g2))
  have gw : Grows w w2 := by exact bel1 g2
  replace ho := ho.less (show w.heap.size ≤ _ by simp; omega)
  have lo : w.heap.size + 2 < g := by omega
  clear g2 ho1 z1 ha hb
  obtain ⟨b00, b01, b02⟩ := mb0.cells
  obtain ⟨b10, b11, b12⟩ := mb1.cells
  go_wp2_with fail
  go_loopw [6] (fun i wr => ∃ (I : Nat) (m : List Int), i = .int .i64 I ∧ I ≤ R ∧ m.length = R * C ∧ Upto C (fun i j => dotTo a b K C i j K) I 0 m ∧ Own wr w.heap.size (.slice (some ⟨g, 0, none⟩) (R * C) (R * C)) m ∧ Rd wr A a ∧ Rd wr B b ∧ Grows w wr ∧ MBox wr w.heap.size R K (.slice A a.length ca) ∧ MBox wr (w.heap.size + 1) K C (.slice B b.length cb) ∧ MBox wr (w.heap.size + 2) 0 0 (.slice none 0 0) ∧ MBox wr w2.heap.size R C (.slice (some ⟨g, 0, none⟩) (R * C) (R * C))) (fun i _ => R - (intOf i).toNat)
  case atStart => exact ⟨0, _, rfl, Nat.zero_le _, by simp, Upto.zero _ _ _, ho.alloc _, rda.alloc _, rdb.alloc _, by exact bel1 gw, mb0.grows (by exact bel0), mb1.grows (by exact bel0), rb.grows (by exact bel0), MBox.mk_ _ _ _ _ _⟩
  case round =>
    clear mb0 mb1 rb rda rdb gw ho b00 b01 b02 b10 b11 b12
    obtain ⟨I, m, rfl, hI, hml, hup, how, hra, hrb, hgr, hm0, hm1, hrr, hmo⟩ := hrel
    have HU := Lib.hid hup
    have HML := Lib.hid hml
    clear hup hml
    obtain ⟨b00, b01, b02⟩ := hm0.cells
    obtain ⟨b10, b11, b12⟩ := hm1.cells
    by_cases hlt : I < R
    · go_wp2_with fail
      obtain ⟨wo, rfl⟩ : ∃ wo : World, wo = wr := ⟨_, rfl⟩
      go_loopw [7] (fun j wr => ∃ (J : Nat) (m : List Int), j = .int .i64 J ∧ J ≤ C ∧ m.length = R * C ∧ Upto C (fun i j => dotTo a b K C i j K) I J m ∧ Own wr w.heap.size (.slice (some ⟨g, 0, none⟩) (R * C) (R * C)) m ∧ Rd wr A a ∧ Rd wr B b ∧ Grows w wr ∧ MBox wr w.heap.size R K (.slice A a.length ca) ∧ MBox wr (w.heap.size + 1) K C (.slice B b.length cb) ∧ MBox wr (w.heap.size + 2) 0 0 (.slice none 0 0) ∧ MBox wr w2.heap.size R C (.slice (some ⟨g, 0, none⟩) (R * C) (R * C))) (fun j _ => C - (intOf j).toNat)
      case atStart => exact ⟨0, m, rfl, Nat.zero_le _, HML.out, HU.out, how, hra, hrb, hgr, hm0, hm1, hrr, hmo⟩
      case round =>
        clear HU HML b00 b01 b02 b10 b11 b12 how hra hrb hgr hm0 hm1 hrr hmo
        obtain ⟨J, m, rfl, hJ, hml, hup, how, hra, hrb, hgr, hm0, hm1, hrr, hmo⟩ := hrel
        have HU := Lib.hid hup
        have HML := Lib.hid hml
        clear hup hml
        obtain ⟨b00, b01, b02⟩ := hm0.cells
        obtain ⟨b10, b11, b12⟩ := hm1.cells
        by_cases hlt2 : J < C
        · go_wp2_with fail
          obtain ⟨wi, rfl⟩ : ∃ wi : World, wi = wr := ⟨_, rfl⟩
          go_loopw [8, 9] (fun s t wr => ∃ (T : Nat), t = .int .i64 T ∧ T ≤ K ∧ s = .int .i64 (dotTo a b K C I J T) ∧ Own wr w.heap.size (.slice (some ⟨g, 0, none⟩) (R * C) (R * C)) m ∧ Rd wr A a ∧ Rd wr B b ∧ Grows w wr ∧ MBox wr w.heap.size R K (.slice A a.length ca) ∧ MBox wr (w.heap.size + 1) K C (.slice B b.length cb) ∧ MBox wr (w.heap.size + 2) 0 0 (.slice none 0 0) ∧ MBox wr w2.heap.size R C (.slice (some ⟨g, 0, none⟩) (R * C) (R * C))) (fun _ t _ => K - (intOf t).toNat)
          case atStart => exact ⟨0, rfl, Nat.zero_le _, rfl, how, hra, hrb, hgr, hm0, hm1, hrr, hmo⟩
          case round =>
            clear b00 b01 b02 b10 b11 b12 how hra hrb hgr hm0 hm1 hrr hmo
            obtain ⟨T, rfl, hT, rfl, how, hra, hrb, hgr, hm0, hm1, hrr, hmo⟩ := hrel
            by_cases hlt3 : T < K
            · have d0 := HD.out I J T hlt hlt2 (by omega)
              have d1 := HD.out I J (T + 1) hlt hlt2 (by omega)
              simp only [dotTo] at d1
              have hmul := mul_bd (HNA.out (I * K + T) (by rw [HLA.out]; exact idx_lt hlt hlt3)) (HNB.out (T * C + J) (by rw [HLB.out]; exact idx_lt hlt3 hlt2))
              obtain ⟨b00, b01, b02⟩ := hm0.cells
              obtain ⟨b10, b11, b12⟩ := hm1.cells
              have i1 := castMul I K
              have i2 : (I : Int) * (K : Int) ≤ ((1048576 : Nat) : Int) := castMulLe (by have := Nat.mul_le_mul (Nat.le_of_lt hlt) hK; have := Nat.mul_le_mul hR (Nat.le_refl 24); omega)
              have i3 := castPos I K T
              have i4 : (I : Int) * (K : Int) + (T : Int) < (a.length : Int) := castLt (by rw [HLA.out]; exact idx_lt hlt hlt3)
              have k1 := castMul T C
              have k2 : (T : Int) * (C : Int) ≤ ((1048576 : Nat) : Int) := castMulLe (by have := Nat.mul_le_mul (Nat.le_of_lt hlt3) hC; have := Nat.mul_le_mul hK (Nat.le_refl 24); omega)
              have k3 := castPos T C J
              have k4 : (T : Int) * (C : Int) + (J : Int) < (b.length : Int) := castLt (by rw [HLB.out]; exact idx_lt hlt3 hlt2)
              have la5 : a.length ≤ 1099511627776 := by have := HLA.out; have := Nat.mul_le_mul hR hK; omega
              have lb5 : b.length ≤ 1099511627776 := by have := HLB.out; have := Nat.mul_le_mul hK hC; omega
              have e1 : IntKind.i64.wrap (nth a (I * K + T) * nth b (T * C + J)) = nth a (I * K + T) * nth b (T * C + J) := IntWalk.i64_in _ (by omega)
              have e2 : IntKind.i64.wrap (dotTo a b K C I J T + nth a (I * K + T) * nth b (T * C + J)) = dotTo a b K C I J T + nth a (I * K + T) * nth b (T * C + J) := IntWalk.i64_in _ (by omega)
              obtain ⟨ba, oa, rfl, hba, hca⟩ := hra.at_ (I * K + T) (by rw [HLA.out]; exact idx_lt hlt hlt3)
              obtain ⟨bb, ob, rfl, hbb, hcb⟩ := hrb.at_ (T * C + J) (by rw [HLB.out]; exact idx_lt hlt3 hlt2)
              go_wp2_with fail
              clear b00 b01 b02 b10 b11 b12
              obtain ⟨x0, x1, x2⟩ := hm0.ext
              obtain ⟨y0, y1, y2⟩ := hm1.ext
              have x3 := ext_is hca
              have y3 := ext_is hcb
              have q1 : ((I : Int) * (K : Int) + (T : Int)).toNat = I * K + T := castIdx I K T
              have q2 : ((T : Int) * (C : Int) + (J : Int)).toNat = T * C + J := castIdx T C J
              ((refine wp_region_ext (by kernel_rfl) (by kernel_rfl) ?_); (repeat (go_big_quiet_step ((fail)))); refine wpQuiet_nil ?_; rintro w3 ⟨w30, hw30⟩; have g3 := grows_of_ext hw30; clear hw30 w30)
              clear q1 q2
              clear e1 e2
              go_wp2_with fail
              go_round
              case rel => exact ⟨T + 1, by go_num, by omega, rfl, how.grows g3, hra.grows g3, hrb.grows g3, Grows.trans hgr g3, hm0.grows g3, hm1.grows g3, hrr.grows g3, hmo.grows g3⟩
              case measure => simp [intOf]; omega
            · obtain rfl : T = K := by omega
              obtain ⟨b00, b01, b02⟩ := hm0.cells
              obtain ⟨b10, b11, b12⟩ := hm1.cells
              obtain ⟨bo0, bo1, bo2⟩ := hmo.cells
              have hi2 : I * C + J < R * C := idx_lt hlt hlt2
              have k1 := how.cell (I * C + J) (by rw [HML.out]; exact hi2)
              have k2 := how.free (I * C + J)
              have hs3 := Below.size hgr
              have i1 := castMul I C
              have i2 : (I : Int) * (C : Int) ≤ ((1048576 : Nat) : Int) := castMulLe (by omega)
              have i3 := castPos I C J
              have i4 : (I : Int) * (C : Int) + (J : Int) < ((R * C : Nat) : Int) := castLt hi2
              have i4' : (I : Int) * (C : Int) + (J : Int) < (R : Int) * (C : Int) := by rw [← Int.natCast_mul R C]; exact i4
              have gb : wr.grownBy (wr.setCell ⟨g, I * C + J, none⟩ (.int .i64 (dotTo a b T C I J T))) (some g) := only_setCell (p := ⟨g, I * C + J, none⟩) (World.grownBy.refl wr _) rfl _
              have ho4 : Own (wr.setCell ⟨g, I * C + J, none⟩ (.int .i64 (dotTo a b T C I J T))) w.heap.size (.slice (some ⟨g, 0, none⟩) (R * C) (R * C)) (m.set (I * C + J) (dotTo a b T C I J T)) := by
                have := how
                rw [← HML.out] at this ⊢
                exact this.set _ _
              go_wp2_with fail
              go_round
              case rel => exact ⟨J + 1, _, by go_num, by omega, by rw [List.length_set]; exact HML.out, Upto.set HU.out HML.out hlt hlt2, ho4, hra.only HA.out gb (by omega), hrb.only HB.out gb (by omega), below_only hgr gb (by omega) (by omega), hm0.only gb (by omega), hm1.only gb (by omega), hrr.only gb (by omega), hmo.only gb (by omega)⟩
              case measure => simp [intOf]; omega
        · obtain rfl : J = C := by omega
          go_wp2_with fail
          go_round
          case rel => exact ⟨I + 1, m, by go_num, by omega, HML.out, Upto.row HU.out, how, hra, hrb, hgr, hm0, hm1, hrr, hmo⟩
          case measure => simp [intOf]; omega
    · obtain rfl : I = R := by omega
      have hfin : m = mulL I K C a b := Upto.all HU.out HML.out
      subst hfin
      obtain ⟨bo0, bo1, bo2⟩ := hmo.cells
      obtain ⟨r0, r1, r2⟩ := hrr.cells
      have rf := hrr.fz
      go_wp2_with fail
      refine bodyPost_ret (v := .agg #[.int .i64 I, .int .i64 C, .slice (some ⟨g, 0, none⟩) (I * C) (I * C)]) ?_ rfl ?_
      · simp [results, Try.results100, go_sem, r0, r1, r2]
      · have hs5 := Below.size hgr
        exact ⟨_, rfl, ((how.far (by intro k hk; simp [Value.ownBlock] at hk; simp; omega) _).far (by intro k hk; simp [Value.ownBlock] at hk; simp; omega) _).far (by intro k hk; simp [Value.ownBlock] at hk; simp; omega) _, by exact bel1 hgr⟩

theorem iMul_yes (ok : Bool) (R K C : Nat) (A B : Option Addr) (a b : List Int) (n m ca cb : Nat) (w : World) (hn : a.length = n) (hm : b.length = m) (ha : Rd w A a) (hb : Rd w B b) (h1 : isMat R K a = true) (h2 : isMat K C b = true) (hok : allNum (mulL R K C a b) = ok) :
    Calls Try.prog 25 #[.agg #[.int .i64 R, .int .i64 K, .slice A n ca], .agg #[.int .i64 K, .int .i64 C, .slice B m cb]] w fun e w' =>
      ∃ v, e = .returned (.tuple #[.agg #[.int .i64 (if ok then R else 0), .int .i64 (if ok then C else 0), v], .bool ok]) ∧ Own w' w.heap.size v (if ok then mulL R K C a b else []) ∧ Grows w w' := by
  subst hn
  subst hm
  obtain ⟨R', K', e1, e2, hR, hK, la, na⟩ := isMat_nat h1
  obtain rfl : R = R' := by omega
  obtain rfl : K = K' := by omega
  obtain ⟨K', C', e3, e4, _, hC, lb, nb⟩ := isMat_nat h2
  obtain rfl : K = K' := by omega
  obtain rfl : C = C' := by omega
  have HD := Lib.hid (fun I J T (hI : I < R) (hJ : J < C) (hT : T ≤ K) => dot_bd na nb la lb hI hJ T hT)
  have HLA := Lib.hid la
  have HLB := Lib.hid lb
  have HNA := Lib.hid na
  have HNB := Lib.hid nb
  have HA := Lib.hid (rd_bound ha)
  have HB := Lib.hid (rd_bound hb)
  have hRC : R * C ≤ 576 := Nat.mul_le_mul hR hC
  have la5 : a.length ≤ 1099511627776 := by have := Nat.mul_le_mul hR hK; omega
  have lb5 : b.length ≤ 1099511627776 := by have := Nat.mul_le_mul hK hC; omega
  have C1 := fun W h => iIsMatrix_c R K A a a.length ca W rfl h la5
  have C2 := fun W h => iIsMatrix_c K C B b b.length cb W rfl h lb5
  rw [h1] at C1
  rw [h2] at C2
  have HC1 := Lib.hid C1
  have HC2 := Lib.hid C2
  have HOK := Lib.hid hok
  clear la lb na nb e1 e2 e3 e4 h1 h2 C1 C2 hok
  go_enter Try.func25, Try.ntmps25
  go_wp2_with fail
  refine (HC1.out _ (by exact (Rd.grows ha (by exact bel0)))).mono ?_; rintro e v1 ⟨rfl, g1⟩
  have z1 := Below.size g1; simp at z1
  have mb0 : MBox v1 w.heap.size R K (.slice A a.length ca) := (MBox.mk_ w R K (.slice A a.length ca) 26).grows (by exact bel1 g1)
  have mb1 : MBox v1 (w.heap.size + 1) K C (.slice B b.length cb) := by have := (MBox.mk_ (w.alloc (.cells #[.int .i64 R, .int .i64 K, .slice A a.length ca] 26)) K C (.slice B b.length cb) 26).grows (w' := v1) (by exact bel1 g1); simpa using this
  have rb : MBox v1 (w.heap.size + 2) 0 0 (.slice none 0 0) := by have := (MBox.mk_ ((w.alloc (.cells #[.int .i64 R, .int .i64 K, .slice A a.length ca] 26)).alloc (.cells #[.int .i64 K, .int .i64 C, .slice B b.length cb] 26)) 0 0 (.slice none 0 0) 26).grows (w' := v1) (by exact bel1 g1); simpa using this
  have rda : Rd v1 A a := (Rd.grows ha (by exact bel1 g1))
  have rdb : Rd v1 B b := (Rd.grows hb (by exact bel1 g1))
  have gw : Grows w v1 := by exact bel1 g1
  clear g1 ha hb
  obtain ⟨b00, b01, b02⟩ := mb0.cells
  obtain ⟨b10, b11, b12⟩ := mb1.cells
  go_wp2_with fail
  refine (HC2.out _ (by exact (Rd.grows rdb (by exact bel0)))).mono ?_; rintro e v2 ⟨rfl, g1⟩
  have z2 := Below.size g1
  replace mb0 := mb0.grows g1
  replace mb1 := mb1.grows g1
  replace rb := rb.grows g1
  replace rda := rda.grows g1
  replace rdb := rdb.grows g1
  replace gw : Grows w v2 := Grows.trans gw g1
  clear g1 b00 b01 b02 b10 b11 b12
  obtain ⟨b00, b01, b02⟩ := mb0.cells
  obtain ⟨b10, b11, b12⟩ := mb1.cells
  go_wp2_with fail
  refine (newMatrix_c R C _ (by omega)).mono ?_; rintro e w2 ⟨g, rfl, ho, g2⟩
  obtain ⟨ho1, ho2⟩ := ho.lt
  have z3 := Below.size g2
  replace mb0 := mb0.grows g2
  replace mb1 := mb1.grows g2
  replace rb := rb.grows g2
  replace rda := rda.grows g2
  replace rdb := rdb.grows g2
  replace gw : Grows w w2 := Grows.trans gw g2
  replace ho := ho.less (show w.heap.size ≤ _ by omega)
  have lo : w.heap.size + 2 < g := by omega
  clear g2 ho1 z1 z2 z3 b00 b01 b02 b10 b11 b12
  obtain ⟨b00, b01, b02⟩ := mb0.cells
  obtain ⟨b10, b11, b12⟩ := mb1.cells
  go_wp2_with fail
  go_loopw [7] (fun i wr => ∃ (I : Nat) (m : List Int), i = .int .i64 I ∧ I ≤ R ∧ m.length = R * C ∧ Upto C (fun i j => dotTo a b K C i j K) I 0 m ∧ Own wr w.heap.size (.slice (some ⟨g, 0, none⟩) (R * C) (R * C)) m ∧ Rd wr A a ∧ Rd wr B b ∧ Grows w wr ∧ MBox wr w.heap.size R K (.slice A a.length ca) ∧ MBox wr (w.heap.size + 1) K C (.slice B b.length cb) ∧ MBox wr (w.heap.size + 2) 0 0 (.slice none 0 0) ∧ MBox wr w2.heap.size R C (.slice (some ⟨g, 0, none⟩) (R * C) (R * C))) (fun i _ => R - (intOf i).toNat)
  case atStart => exact ⟨0, _, rfl, Nat.zero_le _, by simp, Upto.zero _ _ _, ho.alloc _, rda.alloc _, rdb.alloc _, by exact bel1 gw, mb0.grows (by exact bel0), mb1.grows (by exact bel0), rb.grows (by exact bel0), MBox.mk_ _ _ _ _ _⟩
  case round =>
    clear mb0 mb1 rb rda rdb gw ho b00 b01 b02 b10 b11 b12
    obtain ⟨I, m, rfl, hI, hml, hup, how, hra, hrb, hgr, hm0, hm1, hrr, hmo⟩ := hrel
    have HU := Lib.hid hup
    have HML := Lib.hid hml
    clear hup hml
    obtain ⟨b00, b01, b02⟩ := hm0.cells
    obtain ⟨b10, b11, b12⟩ := hm1.cells
    by_cases hlt : I < R
    · go_wp2_with fail
      obtain ⟨wo, rfl⟩ : ∃ wo : World, wo = wr := ⟨_, rfl⟩
      go_loopw [8] (fun j wr => ∃ (J : Nat) (m : List Int), j = .int .i64 J ∧ J ≤ C ∧ m.length = R * C ∧ Upto C (fun i j => dotTo a b K C i j K) I J m ∧ Own wr w.heap.size (.slice (some ⟨g, 0, none⟩) (R * C) (R * C)) m ∧ Rd wr A a ∧ Rd wr B b ∧ Grows w wr ∧ MBox wr w.heap.size R K (.slice A a.length ca) ∧ MBox wr (w.heap.size + 1) K C (.slice B b.length cb) ∧ MBox wr (w.heap.size + 2) 0 0 (.slice none 0 0) ∧ MBox wr w2.heap.size R C (.slice (some ⟨g, 0, none⟩) (R * C) (R * C))) (fun j _ => C - (intOf j).toNat)
      case atStart => exact ⟨0, m, rfl, Nat.zero_le _, HML.out, HU.out, how, hra, hrb, hgr, hm0, hm1, hrr, hmo⟩
      case round =>
        clear HU HML b00 b01 b02 b10 b11 b12 how hra hrb hgr hm0 hm1 hrr hmo
        obtain ⟨J, m, rfl, hJ, hml, hup, how, hra, hrb, hgr, hm0, hm1, hrr, hmo⟩ := hrel
        have HU := Lib.hid hup
        have HML := Lib.hid hml
        clear hup hml
        obtain ⟨b00, b01, b02⟩ := hm0.cells
        obtain ⟨b10, b11, b12⟩ := hm1.cells
        by_cases hlt2 : J < C
        · go_wp2_with fail
          obtain ⟨wi, rfl⟩ : ∃ wi : World, wi = wr := ⟨_, rfl⟩
          go_loopw [9, 10] (fun s t wr => ∃ (T : Nat), t = .int .i64 T ∧ T ≤ K ∧ s = .int .i64 (dotTo a b K C I J T) ∧ Own wr w.heap.size (.slice (some ⟨g, 0, none⟩) (R * C) (R * C)) m ∧ Rd wr A a ∧ Rd wr B b ∧ Grows w wr ∧ MBox wr w.heap.size R K (.slice A a.length ca) ∧ MBox wr (w.heap.size + 1) K C (.slice B b.length cb) ∧ MBox wr (w.heap.size + 2) 0 0 (.slice none 0 0) ∧ MBox wr w2.heap.size R C (.slice (some ⟨g, 0, none⟩) (R * C) (R * C))) (fun _ t _ => K - (intOf t).toNat)
          case atStart => exact ⟨0, rfl, Nat.zero_le _, rfl, how, hra, hrb, hgr, hm0, hm1, hrr, hmo⟩
          case round =>
            clear b00 b01 b02 b10 b11 b12 how hra hrb hgr hm0 hm1 hrr hmo
            obtain ⟨T, rfl, hT, rfl, how, hra, hrb, hgr, hm0, hm1, hrr, hmo⟩ := hrel
            by_cases hlt3 : T < K
            · have d0 := HD.out I J T hlt hlt2 (by omega)
              have d1 := HD.out I J (T + 1) hlt hlt2 (by omega)
              simp only [dotTo] at d1
              have hmul := mul_bd (HNA.out (I * K + T) (by rw [HLA.out]; exact idx_lt hlt hlt3)) (HNB.out (T * C + J) (by rw [HLB.out]; exact idx_lt hlt3 hlt2))
              obtain ⟨b00, b01, b02⟩ := hm0.cells
              obtain ⟨b10, b11, b12⟩ := hm1.cells
              have i1 := castMul I K
              have i2 : (I : Int) * (K : Int) ≤ ((1048576 : Nat) : Int) := castMulLe (by have := Nat.mul_le_mul (Nat.le_of_lt hlt) hK; have := Nat.mul_le_mul hR (Nat.le_refl 24); omega)
              have i3 := castPos I K T
              have i4 : (I : Int) * (K : Int) + (T : Int) < (a.length : Int) := castLt (by rw [HLA.out]; exact idx_lt hlt hlt3)
              have k1 := castMul T C
              have k2 : (T : Int) * (C : Int) ≤ ((1048576 : Nat) : Int) := castMulLe (by have := Nat.mul_le_mul (Nat.le_of_lt hlt3) hC; have := Nat.mul_le_mul hK (Nat.le_refl 24); omega)
              have k3 := castPos T C J
              have k4 : (T : Int) * (C : Int) + (J : Int) < (b.length : Int) := castLt (by rw [HLB.out]; exact idx_lt hlt3 hlt2)
              have la5 : a.length ≤ 1099511627776 := by have := HLA.out; have := Nat.mul_le_mul hR hK; omega
              have lb5 : b.length ≤ 1099511627776 := by have := HLB.out; have := Nat.mul_le_mul hK hC; omega
              have e1 : IntKind.i64.wrap (nth a (I * K + T) * nth b (T * C + J)) = nth a (I * K + T) * nth b (T * C + J) := IntWalk.i64_in _ (by omega)
              have e2 : IntKind.i64.wrap (dotTo a b K C I J T + nth a (I * K + T) * nth b (T * C + J)) = dotTo a b K C I J T + nth a (I * K + T) * nth b (T * C + J) := IntWalk.i64_in _ (by omega)
              have C1 := Lib.hid fun W => at_c R K A a a.length ca I T (ext wr W) rfl (Rd.ext hra W) (by omega) (by omega) (by omega) (by omega) la5
              have C2 := Lib.hid fun W => at_c K C B b b.length cb T J (ext wr W) rfl (Rd.ext hrb W) (by omega) (by omega) (by omega) (by omega) lb5
              rw [castIdx] at C1 C2
              have D1 := Lib.hid C1.out
              have D2 := Lib.hid C2.out
              clear C1 C2
              go_wp2_with fail
              clear b00 b01 b02 b10 b11 b12
              obtain ⟨x0, x1, x2⟩ := hm0.ext
              obtain ⟨y0, y1, y2⟩ := hm1.ext
              ((refine wp_region_ext (by kernel_rfl) (by kernel_rfl) ?_); (repeat (go_big_quiet_step ((first | (go_at_call 62; with_reducible exact extC (D1.out _)) | (go_at_call 62; with_reducible exact extC (D2.out _)))))); refine wpQuiet_nil ?_; rintro w3 ⟨w30, hw30⟩; have g3 := grows_of_ext hw30; clear hw30 w30)
              clear e1 e2
              go_wp2_with fail
              go_round
              case rel => exact ⟨T + 1, by go_num, by omega, rfl, how.grows g3, hra.grows g3, hrb.grows g3, Grows.trans hgr g3, hm0.grows g3, hm1.grows g3, hrr.grows g3, hmo.grows g3⟩
              case measure => simp [intOf]; omega
            · obtain rfl : T = K := by omega
              obtain ⟨b00, b01, b02⟩ := hm0.cells
              obtain ⟨b10, b11, b12⟩ := hm1.cells
              obtain ⟨bo0, bo1, bo2⟩ := hmo.cells
              have hi2 : I * C + J < R * C := idx_lt hlt hlt2
              have hs3 := Below.size hgr
              go_wp2_with fail
              have hRC2 : I * C ≤ 1048576 := by omega
              refine (set_c R C g (R * C) (R * C) w.heap.size m I J _ wr HML.out how hRC2 hi2 (by omega)).mono ?_; rintro e w4 ⟨rfl, ho4, gb⟩
              go_wp2_with fail
              go_round
              case rel => exact ⟨J + 1, _, by go_num, by omega, by rw [List.length_set]; exact HML.out, Upto.set HU.out HML.out hlt hlt2, ho4, hra.only HA.out gb (by omega), hrb.only HB.out gb (by omega), below_only hgr gb (by omega) (by omega), hm0.only gb (by omega), hm1.only gb (by omega), hrr.only gb (by omega), hmo.only gb (by omega)⟩
              case measure => simp [intOf]; omega
        · obtain rfl : J = C := by omega
          go_wp2_with fail
          go_round
          case rel => exact ⟨I + 1, m, by go_num, by omega, HML.out, Upto.row HU.out, how, hra, hrb, hgr, hm0, hm1, hrr, hmo⟩
          case measure => simp [intOf]; omega
    · obtain rfl : I = R := by omega
      have hfin : m = mulL I K C a b := Upto.all HU.out HML.out
      subst hfin
      obtain ⟨bo0, bo1, bo2⟩ := hmo.cells
      obtain ⟨r0, r1, r2⟩ := hrr.cells
      have rf := hrr.fz
      go_wp2_with fail
      have hmm := isMat_made hR hC (mulL_length I K C a b)
      rw [HOK.out] at hmm
      have ln := mulL_length I K C a b
      have hs5 := Below.size hgr
      have hrd := how.rd_
      have HLN := Lib.hid ln
      clear ln
      cases ok
      · refine (checked_no I C _ (mulL I K C a b) _ _ wr HLN.out hrd (by omega) hmm).mono ?_; rintro e w5 ⟨rfl, g5⟩
        clear hmm r0 r1 r2 rf
        obtain ⟨r0, r1, r2⟩ := (hrr.grows g5).cells
        have rf := (hrr.grows g5).fz
        go_wp2_with fail
        refine bodyPost_ret (v := .tuple #[.agg #[.int .i64 0, .int .i64 0, .slice none 0 0], .bool false]) ?_ rfl ?_
        · simp [results, Try.results25, go_sem, r0, r1, r2]
        · exact ⟨_, rfl, Own.nil _ _, by exact bel2 g5 hgr⟩
      · refine (checked_yes I C _ (mulL I K C a b) _ _ wr HLN.out hrd (by omega) hmm).mono ?_; rintro e w5 ⟨rfl, g5⟩
        clear hmm r0 r1 r2 rf
        obtain ⟨r0, r1, r2⟩ := (hrr.grows g5).cells
        have rf := (hrr.grows g5).fz
        go_wp2_with fail
        refine bodyPost_ret (v := .tuple #[.agg #[.int .i64 I, .int .i64 C, .slice (some ⟨g, 0, none⟩) (I * C) (I * C)], .bool true]) ?_ rfl ?_
        · simp [results, Try.results25, go_sem, r0, r1, r2]
        · have how5 := how.grows g5
          refine ⟨_, rfl, ?_, by exact bel2 g5 hgr⟩
          exact ((how5.far (by intro k hk; simp [Value.ownBlock] at hk; simp; omega) _).far (by intro k hk; simp [Value.ownBlock] at hk; simp; omega) _).far (by intro k hk; simp [Value.ownBlock] at hk; simp; omega) _
end
end Go.Proofs.Ythajmffhgbenpaa

/- Contracts: products of matrices, whatever the arguments. -/
namespace Go.Proofs.Ythajmffhgbenpaa
set_option linter.unusedSimpArgs false
set_option linter.unusedVariables false
open Go.RowKit

section
set_option maxHeartbeats 2000000

theorem iMul_no (r c r' c' : Int) (A B : Option Addr) (a b : List Int) (n m ca cb : Nat) (w : World) (hn : a.length = n) (hm : b.length = m) (ha : Rd w A a) (hb : Rd w B b) (hl : n ≤ 1099511627776) (hl2 : m ≤ 1099511627776) (h : isMat r c a = false ∨ isMat r' c' b = false ∨ (c == r') = false) :
    Calls Try.prog 25 #[.agg #[.int .i64 r, .int .i64 c, .slice A n ca], .agg #[.int .i64 r', .int .i64 c', .slice B m cb]] w fun e w' => e = .returned (.tuple #[.agg #[.int .i64 0, .int .i64 0, .slice none 0 0], .bool false]) ∧ Grows w w' := by
  have C1 := fun W h => iIsMatrix_c r c A a n ca W hn h hl
  have C2 := fun W h => iIsMatrix_c r' c' B b m cb W hm h hl2
  cases h1 : isMat r c a
  · rw [h1] at C1
    have H1 := Lib.hid C1
    clear C1 C2 h1 h hn hm
    go_enter Try.func25, Try.ntmps25
    go_wp2_with fail
    refine (H1.out _ (by exact (Rd.grows ha (by exact bel0)))).mono ?_; rintro e w1 ⟨rfl, g1⟩
    have rb : MBox w1 (w.heap.size + 2) 0 0 (.slice none 0 0) := by have := (MBox.mk_ ((w.alloc (.cells #[.int .i64 r, .int .i64 c, .slice A n ca] 26)).alloc (.cells #[.int .i64 r', .int .i64 c', .slice B m cb] 26)) 0 0 (.slice none 0 0) 26).grows (w' := w1) (by exact bel1 g1); simpa using this
    have mb0 : MBox w1 w.heap.size r c (.slice A n ca) := (MBox.mk_ w r c (.slice A n ca) 26).grows (by exact bel1 g1)
    have mb1 : MBox w1 (w.heap.size + 1) r' c' (.slice B m cb) := by have := (MBox.mk_ (w.alloc (.cells #[.int .i64 r, .int .i64 c, .slice A n ca] 26)) r' c' (.slice B m cb) 26).grows (w' := w1) (by exact bel1 g1); simpa using this
    obtain ⟨r0, r1, r2⟩ := rb.cells
    have rf := rb.fz
    go_wp2_with fail
    refine bodyPost_ret (v := .tuple #[.agg #[.int .i64 0, .int .i64 0, .slice none 0 0], .bool false]) ?_ rfl ?_
    · simp [results, Try.results25, go_sem, r0, r1, r2]
    · exact ⟨rfl, by exact bel1 g1⟩
  · cases h2 : isMat r' c' b
    · rw [h1] at C1
      rw [h2] at C2
      have H1 := Lib.hid C1
      have H2 := Lib.hid C2
      clear C1 C2 h1 h2 h hn hm
      go_enter Try.func25, Try.ntmps25
      go_wp2_with fail
      refine (H1.out _ (by exact (Rd.grows ha (by exact bel0)))).mono ?_; rintro e w1 ⟨rfl, g1⟩
      have rb : MBox w1 (w.heap.size + 2) 0 0 (.slice none 0 0) := by have := (MBox.mk_ ((w.alloc (.cells #[.int .i64 r, .int .i64 c, .slice A n ca] 26)).alloc (.cells #[.int .i64 r', .int .i64 c', .slice B m cb] 26)) 0 0 (.slice none 0 0) 26).grows (w' := w1) (by exact bel1 g1); simpa using this
      have mb0 : MBox w1 w.heap.size r c (.slice A n ca) := (MBox.mk_ w r c (.slice A n ca) 26).grows (by exact bel1 g1)
      have mb1 : MBox w1 (w.heap.size + 1) r' c' (.slice B m cb) := by have := (MBox.mk_ (w.alloc (.cells #[.int .i64 r, .int .i64 c, .slice A n ca] 26)) r' c' (.slice B m cb) 26).grows (w' := w1) (by exact bel1 g1); simpa using this
      obtain ⟨b00, b01, b02⟩ := mb0.cells
      obtain ⟨b10, b11, b12⟩ := mb1.cells
      go_wp2_with fail
      refine (H2.out _ (by exact (Rd.grows hb (by exact bel1 g1)))).mono ?_; rintro e w2 ⟨rfl, g2⟩
      replace rb := rb.grows g2
      obtain ⟨r0, r1, r2⟩ := rb.cells
      have rf := rb.fz
      go_wp2_with fail
      refine bodyPost_ret (v := .tuple #[.agg #[.int .i64 0, .int .i64 0, .slice none 0 0], .bool false]) ?_ rfl ?_
      · simp [results, Try.results25, go_sem, r0, r1, r2]
      · exact ⟨rfl, by exact bel2 g2 g1⟩
    · have h3 : (c == r') = false := by
        rcases h with h | h | h
        · rw [h1] at h; cases h
        · rw [h2] at h; cases h
        · exact h
      have h3' : (c != r') = true := by simp only [bne, h3]; rfl
      rw [h1] at C1
      rw [h2] at C2
      have H1 := Lib.hid C1
      have H2 := Lib.hid C2
      clear C1 C2 h1 h2 h h3 hn hm
      go_enter Try.func25, Try.ntmps25
      go_wp2_with fail
      refine (H1.out _ (by exact (Rd.grows ha (by exact bel0)))).mono ?_; rintro e w1 ⟨rfl, g1⟩
      have rb : MBox w1 (w.heap.size + 2) 0 0 (.slice none 0 0) := by have := (MBox.mk_ ((w.alloc (.cells #[.int .i64 r, .int .i64 c, .slice A n ca] 26)).alloc (.cells #[.int .i64 r', .int .i64 c', .slice B m cb] 26)) 0 0 (.slice none 0 0) 26).grows (w' := w1) (by exact bel1 g1); simpa using this
      have mb0 : MBox w1 w.heap.size r c (.slice A n ca) := (MBox.mk_ w r c (.slice A n ca) 26).grows (by exact bel1 g1)
      have mb1 : MBox w1 (w.heap.size + 1) r' c' (.slice B m cb) := by have := (MBox.mk_ (w.alloc (.cells #[.int .i64 r, .int .i64 c, .slice A n ca] 26)) r' c' (.slice B m cb) 26).grows (w' := w1) (by exact bel1 g1); simpa using this
      obtain ⟨b00, b01, b02⟩ := mb0.cells
      obtain ⟨b10, b11, b12⟩ := mb1.cells
      go_wp2_with fail
      refine (H2.out _ (by exact (Rd.grows hb (by exact bel1 g1)))).mono ?_; rintro e w2 ⟨rfl, g2⟩
      replace rb := rb.grows g2
      replace mb0 := mb0.grows g2
      replace mb1 := mb1.grows g2
      clear b00 b01 b02 b10 b11 b12
      obtain ⟨b00, b01, b02⟩ := mb0.cells
      obtain ⟨b10, b11, b12⟩ := mb1.cells
      obtain ⟨r0, r1, r2⟩ := rb.cells
      have rf := rb.fz
      go_wp2_with fail
      refine bodyPost_ret (v := .tuple #[.agg #[.int .i64 0, .int .i64 0, .slice none 0 0], .bool false]) ?_ rfl ?_
      · simp [results, Try.results25, go_sem, r0, r1, r2]
      · exact ⟨rfl, by exact bel2 g2 g1⟩

theorem iMul_c (r c r' c' : Int) (A B : Option Addr) (a b : List Int) (n m ca cb : Nat) (w : World) (hn : a.length = n) (hm : b.length = m) (ha : Rd w A a) (hb : Rd w B b) (hl : n ≤ 1099511627776) (hl2 : m ≤ 1099511627776) :
    Calls Try.prog 25 #[.agg #[.int .i64 r, .int .i64 c, .slice A n ca], .agg #[.int .i64 r', .int .i64 c', .slice B m cb]] w fun e w' =>
      ∃ v, e = .returned (.tuple #[.agg #[.int .i64 (mulR r c a r' c' b), .int .i64 (mulC r c a r' c' b), v], .bool (mulOk r c a r' c' b)]) ∧ Own w' w.heap.size v (mulV r c a r' c' b) ∧ Grows w w' := by
  by_cases h : isMat r c a = false ∨ isMat r' c' b = false ∨ (c == r') = false
  · have e0 : mulOk r c a r' c' b = false := by
      rcases h with h | h | h
      · exact mulOk_no1 h
      · exact mulOk_no2 h
      · exact mulOk_no3 h
    obtain ⟨e1, e2, e3⟩ := mul_no e0
    rw [e0, e1, e2, e3]
    exact (iMul_no r c r' c' A B a b n m ca cb w hn hm ha hb hl hl2 h).mono fun e w' ⟨he, hg⟩ => ⟨_, he, Own.nil _ _, hg⟩
  · have h1 : isMat r c a = true := by
      cases e : isMat r c a
      · exact absurd (.inl e) h
      · rfl
    have h2 : isMat r' c' b = true := by
      cases e : isMat r' c' b
      · exact absurd (.inr (.inl e)) h
      · rfl
    have h3 : c = r' := by
      cases e : (c == r')
      · exact absurd (.inr (.inr e)) h
      · exact beq_iff_eq.1 e
    subst h3
    obtain ⟨R, K, rfl, rfl, _⟩ := isMat_nat h1
    obtain ⟨K', C, e1, rfl, _⟩ := isMat_nat h2
    have := iMul_yes (allNum (mulL R K C a b)) R K C A B a b n m ca cb w hn hm ha hb h1 h2 rfl
    unfold mulR mulC mulV
    rw [mulOk_nat h1 h2]
    simp only [Int.toNat_natCast]
    exact this


theorem sMul_no (r c r' c' : Int) (A B : Option Addr) (a b : List Int) (n m ca cb : Nat) (w : World) (hn : a.length = n) (hm : b.length = m) (ha : Rd w A a) (hb : Rd w B b) (hl : n ≤ 1099511627776) (hl2 : m ≤ 1099511627776) (h : isMat r c a = false ∨ isMat r' c' b = false ∨ (c == r') = false) :
    Calls Try.prog 94 #[.agg #[.int .i64 r, .int .i64 c, .slice A n ca], .agg #[.int .i64 r', .int .i64 c', .slice B m cb]] w fun e w' => e = .returned (.tuple #[.agg #[.int .i64 0, .int .i64 0, .slice none 0 0], .bool false]) ∧ Grows w w' := by
  have C1 := fun W h => sIsMatrix_c r c A a n ca W hn h hl
  have C2 := fun W h => sIsMatrix_c r' c' B b m cb W hm h hl2
  cases h1 : isMat r c a
  · rw [h1] at C1
    have H1 := Lib.hid C1
    clear C1 C2 h1 h hn hm
    go_enter Try.func94, Try.ntmps94
    go_wp2_with fail
    refine (H1.out _ (by exact (Rd.grows ha (by exact bel0)))).mono ?_; rintro e w1 ⟨rfl, g1⟩
    have rb : MBox w1 (w.heap.size + 2) 0 0 (.slice none 0 0) := by have := (MBox.mk_ ((w.alloc (.cells #[.int .i64 r, .int .i64 c, .slice A n ca] 26)).alloc (.cells #[.int .i64 r', .int .i64 c', .slice B m cb] 26)) 0 0 (.slice none 0 0) 26).grows (w' := w1) (by exact bel1 g1); simpa using this
    have mb0 : MBox w1 w.heap.size r c (.slice A n ca) := (MBox.mk_ w r c (.slice A n ca) 26).grows (by exact bel1 g1)
    have mb1 : MBox w1 (w.heap.size + 1) r' c' (.slice B m cb) := by have := (MBox.mk_ (w.alloc (.cells #[.int .i64 r, .int .i64 c, .slice A n ca] 26)) r' c' (.slice B m cb) 26).grows (w' := w1) (by exact bel1 g1); simpa using this
    obtain ⟨r0, r1, r2⟩ := rb.cells
    have rf := rb.fz
    go_wp2_with fail
    refine bodyPost_ret (v := .tuple #[.agg #[.int .i64 0, .int .i64 0, .slice none 0 0], .bool false]) ?_ rfl ?_
    · simp [results, Try.results94, go_sem, r0, r1, r2]
    · exact ⟨rfl, by exact bel1 g1⟩
  · cases h2 : isMat r' c' b
    · rw [h1] at C1
      rw [h2] at C2
      have H1 := Lib.hid C1
      have H2 := Lib.hid C2
      clear C1 C2 h1 h2 h hn hm
      go_enter Try.func94, Try.ntmps94
      go_wp2_with fail
      refine (H1.out _ (by exact (Rd.grows ha (by exact bel0)))).mono ?_; rintro e w1 ⟨rfl, g1⟩
      have rb : MBox w1 (w.heap.size + 2) 0 0 (.slice none 0 0) := by have := (MBox.mk_ ((w.alloc (.cells #[.int .i64 r, .int .i64 c, .slice A n ca] 26)).alloc (.cells #[.int .i64 r', .int .i64 c', .slice B m cb] 26)) 0 0 (.slice none 0 0) 26).grows (w' := w1) (by exact bel1 g1); simpa using this
      have mb0 : MBox w1 w.heap.size r c (.slice A n ca) := (MBox.mk_ w r c (.slice A n ca) 26).grows (by exact bel1 g1)
      have mb1 : MBox w1 (w.heap.size + 1) r' c' (.slice B m cb) := by have := (MBox.mk_ (w.alloc (.cells #[.int .i64 r, .int .i64 c, .slice A n ca] 26)) r' c' (.slice B m cb) 26).grows (w' := w1) (by exact bel1 g1); simpa using this
      obtain ⟨b00, b01, b02⟩ := mb0.cells
      obtain ⟨b10, b11, b12⟩ := mb1.cells
      go_wp2_with fail
      refine (H2.out _ (by exact (Rd.grows hb (by exact bel1 g1)))).mono ?_; rintro e w2 ⟨rfl, g2⟩
      replace rb := rb.grows g2
      obtain ⟨r0, r1, r2⟩ := rb.cells
      have rf := rb.fz
      go_wp2_with fail
      refine bodyPost_ret (v := .tuple #[.agg #[.int .i64 0, .int .i64 0, .slice none 0 0], .bool false]) ?_ rfl ?_
      · simp [results, Try.results94, go_sem, r0, r1, r2]
      · exact ⟨rfl, by exact bel2 g2 g1⟩
    · have h3 : (c == r') = false := by
        rcases h with h | h | h
        · rw [h1] at h; cases h
        · rw [h2] at h; cases h
        · exact h
      have h3' : (c != r') = true := by simp only [bne, h3]; rfl
      rw [h1] at C1
      rw [h2] at C2
      have H1 := Lib.hid C1
      have H2 := Lib.hid C2
      clear C1 C2 h1 h2 h h3 hn hm
      go_enter Try.func94, Try.ntmps94
      go_wp2_with fail
      refine (H1.out _ (by exact (Rd.grows ha (by exact bel0)))).mono ?_; rintro e w1 ⟨rfl, g1⟩
      have rb : MBox w1 (w.heap.size + 2) 0 0 (.slice none 0 0) := by have := (MBox.mk_ ((w.alloc (.cells #[.int .i64 r, .int .i64 c, .slice A n ca] 26)).alloc (.cells #[.int .i64 r', .int .i64 c', .slice B m cb] 26)) 0 0 (.slice none 0 0) 26).grows (w' := w1) (by exact bel1 g1); simpa using this
      have mb0 : MBox w1 w.heap.size r c (.slice A n ca) := (MBox.mk_ w r c (.slice A n ca) 26).grows (by exact bel1 g1)
      have mb1 : MBox w1 (w.heap.size + 1) r' c' (.slice B m cb) := by have := (MBox.mk_ (w.alloc (.cells #[.int .i64 r, .int .i64 c, .slice A n ca] 26)) r' c' (.slice B m cb) 26).grows (w' := w1) (by exact bel1 g1); simpa using this
      obtain ⟨b00, b01, b02⟩ := mb0.cells
      obtain ⟨b10, b11, b12⟩ := mb1.cells
      go_wp2_with fail
      refine (H2.out _ (by exact (Rd.grows hb (by exact bel1 g1)))).mono ?_; rintro e w2 ⟨rfl, g2⟩
      replace rb := rb.grows g2
      replace mb0 := mb0.grows g2
      replace mb1 := mb1.grows g2
      clear b00 b01 b02 b10 b11 b12
      obtain ⟨b00, b01, b02⟩ := mb0.cells
      obtain ⟨b10, b11, b12⟩ := mb1.cells
      obtain ⟨r0, r1, r2⟩ := rb.cells
      have rf := rb.fz
      go_wp2_with fail
      refine bodyPost_ret (v := .tuple #[.agg #[.int .i64 0, .int .i64 0, .slice none 0 0], .bool false]) ?_ rfl ?_
      · simp [results, Try.results94, go_sem, r0, r1, r2]
      · exact ⟨rfl, by exact bel2 g2 g1⟩

theorem sMul_yes (ok : Bool) (R K C : Nat) (A B : Option Addr) (a b : List Int) (n m ca cb : Nat) (w : World) (hn : a.length = n) (hm : b.length = m) (ha : Rd w A a) (hb : Rd w B b) (h1 : isMat R K a = true) (h2 : isMat K C b = true) (hok : allNum (mulL R K C a b) = ok) :
    Calls Try.prog 94 #[.agg #[.int .i64 R, .int .i64 K, .slice A n ca], .agg #[.int .i64 K, .int .i64 C, .slice B m cb]] w fun e w' =>
      ∃ v, e = .returned (.tuple #[.agg #[.int .i64 (if ok then R else 0), .int .i64 (if ok then C else 0), v], .bool ok]) ∧ Own w' w.heap.size v (if ok then mulL R K C a b else []) ∧ Grows w w' := by
  obtain ⟨R', K', e1, e2, hR, hK, la, _⟩ := isMat_nat h1
  obtain rfl : R = R' := by omega
  obtain rfl : K = K' := by omega
  obtain ⟨K', C', e3, e4, _, hC, lb, _⟩ := isMat_nat h2
  obtain rfl : K = K' := by omega
  obtain rfl : C = C' := by omega
  have hRC : R * C ≤ 576 := Nat.mul_le_mul hR hC
  have la5 : n ≤ 1099511627776 := by have := Nat.mul_le_mul hR hK; omega
  have lb5 : m ≤ 1099511627776 := by have := Nat.mul_le_mul hK hC; omega
  have C1 := fun W h => sIsMatrix_c R K A a n ca W hn h la5
  have C2 := fun W h => sIsMatrix_c K C B b m cb W hm h lb5
  rw [h1] at C1
  rw [h2] at C2
  have HC1 := Lib.hid C1
  have HC2 := Lib.hid C2
  have HM := Lib.hid fun W h h' => l3Mul_c R K C A B a b n m ca cb W hn hm h h' h1 h2
  have hmm := isMat_made hR hC (mulL_length R K C a b)
  have ln := mulL_length R K C a b
  rw [hok] at hmm
  have HMM := Lib.hid hmm
  have HLN := Lib.hid ln
  clear la lb e1 e2 e3 e4 h1 h2 C1 C2 hok hmm ln hn hm
  generalize mulL R K C a b = pr at *
  go_enter Try.func94, Try.ntmps94
  go_wp2_with fail
  refine (HC1.out _ (by exact (Rd.grows ha (by exact bel0)))).mono ?_; rintro e v1 ⟨rfl, g1⟩
  have z1 := Below.size g1; simp at z1
  have mb0 : MBox v1 w.heap.size R K (.slice A n ca) := (MBox.mk_ w R K (.slice A n ca) 26).grows (by exact bel1 g1)
  have mb1 : MBox v1 (w.heap.size + 1) K C (.slice B m cb) := by have := (MBox.mk_ (w.alloc (.cells #[.int .i64 R, .int .i64 K, .slice A n ca] 26)) K C (.slice B m cb) 26).grows (w' := v1) (by exact bel1 g1); simpa using this
  have rb : MBox v1 (w.heap.size + 2) 0 0 (.slice none 0 0) := by have := (MBox.mk_ ((w.alloc (.cells #[.int .i64 R, .int .i64 K, .slice A n ca] 26)).alloc (.cells #[.int .i64 K, .int .i64 C, .slice B m cb] 26)) 0 0 (.slice none 0 0) 26).grows (w' := v1) (by exact bel1 g1); simpa using this
  have rda : Rd v1 A a := (Rd.grows ha (by exact bel1 g1))
  have rdb : Rd v1 B b := (Rd.grows hb (by exact bel1 g1))
  have gw : Grows w v1 := by exact bel1 g1
  clear g1 ha hb
  obtain ⟨b00, b01, b02⟩ := mb0.cells
  obtain ⟨b10, b11, b12⟩ := mb1.cells
  go_wp2_with fail
  refine (HC2.out _ (by exact (Rd.grows rdb (by exact bel0)))).mono ?_; rintro e v2 ⟨rfl, g1⟩
  have z2 := Below.size g1
  replace mb0 := mb0.grows g1
  replace mb1 := mb1.grows g1
  replace rb := rb.grows g1
  replace rda := rda.grows g1
  replace rdb := rdb.grows g1
  replace gw : Grows w v2 := Grows.trans gw g1
  clear g1 b00 b01 b02 b10 b11 b12
  obtain ⟨b00, b01, b02⟩ := mb0.cells
  obtain ⟨b10, b11, b12⟩ := mb1.cells
  go_wp2_with fail
  refine (HM.out _ (by exact (Rd.grows rda (by exact bel0))) (by exact (Rd.grows rdb (by exact bel0)))).mono ?_; rintro e v3 ⟨v, rfl, ho, g1⟩
  have z3 := Below.size g1
  obtain ⟨A3, c3, rfl, hr3, _⟩ := ho.val
  replace rb := rb.grows g1
  replace gw : Grows w v3 := Grows.trans gw g1
  replace ho := ho.less (show w.heap.size + 3 ≤ v2.heap.size by omega)
  clear g1 b00 b01 b02 b10 b11 b12 mb0 mb1 rda rdb
  have hlp : pr.length ≤ 576 := by rw [HLN.out]; exact hRC
  go_wp2_with fail
  cases ok
  · refine (l3Done_no R C A3 pr _ c3 _ rfl (by exact (Rd.grows hr3 (by exact bel0))) (by omega) HMM.out).mono ?_; rintro e v4 ⟨rfl, g4⟩
    replace rb := rb.grows g4
    clear hlp
    obtain ⟨r0, r1, r2⟩ := rb.cells
    have rf := rb.fz
    have rl := rb.lt
    have rl' : w.heap.size + 1 + 1 < v4.heap.size := rl
    go_wp2_with fail
    refine bodyPost_ret (v := .tuple #[.agg #[.int .i64 0, .int .i64 0, .slice none 0 0], .bool false]) ?_ rfl ?_
    · simp [results, Try.results94, go_sem, r0, r1, r2, rl']
    · exact ⟨_, rfl, Own.nil _ _, by exact bel2 g4 gw⟩
  · refine (l3Done_yes R C A3 pr _ c3 _ rfl (by exact (Rd.grows hr3 (by exact bel0))) (by omega) HMM.out).mono ?_; rintro e v4 ⟨rfl, g4⟩
    replace rb := rb.grows g4
    replace ho := ho.grows (w' := v4) (by exact bel1 g4)
    clear hlp
    obtain ⟨r0, r1, r2⟩ := rb.cells
    have rf := rb.fz
    have rl := rb.lt
    have rl' : w.heap.size + 1 + 1 < v4.heap.size := rl
    go_wp2_with fail
    refine bodyPost_ret (v := .tuple #[.agg #[.int .i64 R, .int .i64 C, .slice A3 pr.length c3], .bool true]) ?_ rfl ?_
    · simp [results, Try.results94, go_sem, r0, r1, r2, rl']
    · exact ⟨_, rfl, by exact ownl ho, by exact bel2 g4 gw⟩

theorem sMul_c (r c r' c' : Int) (A B : Option Addr) (a b : List Int) (n m ca cb : Nat) (w : World) (hn : a.length = n) (hm : b.length = m) (ha : Rd w A a) (hb : Rd w B b) (hl : n ≤ 1099511627776) (hl2 : m ≤ 1099511627776) :
    Calls Try.prog 94 #[.agg #[.int .i64 r, .int .i64 c, .slice A n ca], .agg #[.int .i64 r', .int .i64 c', .slice B m cb]] w fun e w' =>
      ∃ v, e = .returned (.tuple #[.agg #[.int .i64 (mulR r c a r' c' b), .int .i64 (mulC r c a r' c' b), v], .bool (mulOk r c a r' c' b)]) ∧ Own w' w.heap.size v (mulV r c a r' c' b) ∧ Grows w w' := by
  by_cases h : isMat r c a = false ∨ isMat r' c' b = false ∨ (c == r') = false
  · have e0 : mulOk r c a r' c' b = false := by
      rcases h with h | h | h
      · exact mulOk_no1 h
      · exact mulOk_no2 h
      · exact mulOk_no3 h
    obtain ⟨e1, e2, e3⟩ := mul_no e0
    rw [e0, e1, e2, e3]
    exact (sMul_no r c r' c' A B a b n m ca cb w hn hm ha hb hl hl2 h).mono fun e w' ⟨he, hg⟩ => ⟨_, he, Own.nil _ _, hg⟩
  · have h1 : isMat r c a = true := by
      cases e : isMat r c a
      · exact absurd (.inl e) h
      · rfl
    have h2 : isMat r' c' b = true := by
      cases e : isMat r' c' b
      · exact absurd (.inr (.inl e)) h
      · rfl
    have h3 : c = r' := by
      cases e : (c == r')
      · exact absurd (.inr (.inr e)) h
      · exact beq_iff_eq.1 e
    subst h3
    obtain ⟨R, K, rfl, rfl, _⟩ := isMat_nat h1
    obtain ⟨K', C, e1, rfl, _⟩ := isMat_nat h2
    have := sMul_yes (allNum (mulL R K C a b)) R K C A B a b n m ca cb w hn hm ha hb h1 h2 rfl
    unfold mulR mulC mulV
    rw [mulOk_nat h1 h2]
    simp only [Int.toNat_natCast]
    exact this
end
end Go.Proofs.Ythajmffhgbenpaa

/- Contracts: the Gram matrix of a matrix. -/
namespace Go.Proofs.Ythajmffhgbenpaa
set_option linter.unusedSimpArgs false
set_option linter.unusedVariables false
open Go.RowKit

section
set_option maxHeartbeats 1000000
theorem isMat_tr {R C : Nat} {l : List Int} (h : isMat R C l = true) : isMat C R (trL R C l) = true := by
  obtain ⟨R', C', e1, e2, hR, hC, hl, hn⟩ := isMat_nat h
  obtain rfl : R = R' := by omega
  obtain rfl : C = C' := by omega
  rw [isMat_made hC hR (by unfold trL; rw [tab_length])]
  rw [allNum_iff]
  intro i hi
  unfold trL at hi ⊢
  rw [tab_length] at hi
  obtain ⟨h1, h2, h3⟩ := idx_split hi
  rw [h3, tab_nth _ h1 h2]
  exact hn _ (by rw [hl]; exact idx_lt h2 h1)

def gmL (R C : Nat) (l : List Int) : List Int := mulL R C R l (trL R C l)
def gmOk (r c : Int) (l : List Int) : Bool := isMat r c l && allNum (gmL r.toNat c.toNat l)
def gmR (r c : Int) (l : List Int) : Int := if gmOk r c l then r else 0
def gmV (r c : Int) (l : List Int) : List Int := if gmOk r c l then gmL r.toNat c.toNat l else []
theorem gmOk_no {r c : Int} {l : List Int} (h : isMat r c l = false) : gmOk r c l = false := by unfold gmOk; rw [h]; rfl
theorem gm_no {r c : Int} {l : List Int} (h : gmOk r c l = false) : gmR r c l = 0 ∧ gmV r c l = [] := by simp [gmR, gmV, h]
theorem gmV_length (r c : Int) (l : List Int) : (gmV r c l).length ≤ 576 := by
  unfold gmV
  split
  · rename_i h
    unfold gmOk at h
    rw [Bool.and_eq_true] at h
    obtain ⟨R, C, rfl, rfl, hR, hC, hl, hn⟩ := isMat_nat h.1
    rw [gmL, mulL_length]
    simp only [Int.toNat_natCast]
    have := Nat.mul_le_mul hR hR
    omega
  · simp
theorem gmOk_nat {R C : Nat} {l : List Int} (h : isMat R C l = true) : gmOk R C l = allNum (gmL R C l) := by
  unfold gmOk; rw [h]; simp

theorem iGramOf_c (r c : Int) (A : Option Addr) (l : List Int) (n cap : Nat) (w : World) (hn : l.length = n) (ha : Rd w A l) (hl : n ≤ 1099511627776) :
    Calls Try.prog 38 #[.agg #[.int .i64 r, .int .i64 c, .slice A n cap]] w fun e w' =>
      ∃ v, e = .returned (.tuple #[.agg #[.int .i64 (gmR r c l), .int .i64 (gmR r c l), v], .bool (gmOk r c l)]) ∧ Own w' w.heap.size v (gmV r c l) ∧ Grows w w' := by
  cases hm : isMat r c l
  · obtain ⟨e1, e2⟩ := gm_no (gmOk_no hm)
    rw [gmOk_no hm, e1, e2]
    have H1 := Lib.hid fun W h => iTransposeOf_no r c A l n cap W hn h hl hm
    clear hm hn e1 e2
    go_enter Try.func38, Try.ntmps38
    go_wp2_with fail
    refine (H1.out _ (by exact (Rd.grows ha (by exact bel0)))).mono ?_; rintro e w1 ⟨rfl, g1⟩
    have rb : MBox w1 (w.heap.size + 1) 0 0 (.slice none 0 0) := by have := (MBox.mk_ (w.alloc (.cells #[.int .i64 r, .int .i64 c, .slice A n cap] 26)) 0 0 (.slice none 0 0) 26).grows (w' := w1) (by exact bel1 g1); simpa using this
    obtain ⟨r0, r1, r2⟩ := rb.cells
    have rf := rb.fz
    have rl := rb.lt
    have rl' : w.heap.size + 1 < w1.heap.size := rl
    go_wp2_with fail
    refine bodyPost_ret (v := .tuple #[.agg #[.int .i64 0, .int .i64 0, .slice none 0 0], .bool false]) ?_ rfl ?_
    · simp [results, Try.results38, go_sem, r0, r1, r2, rl']
    · exact ⟨_, rfl, Own.nil _ _, by exact bel1 g1⟩
  · obtain ⟨R, C, rfl, rfl, hR, hC, hl2, hnum⟩ := isMat_nat hm
    have hmt := isMat_tr hm
    have hlt : (trL R C l).length = C * R := tab_length _ _ _
    have hCR : C * R ≤ 576 := Nat.mul_le_mul hC hR
    have H1 := Lib.hid fun W h => iTransposeOf_yes R C A l n cap W hn h hm
    have e0 : mulOk R C l C R (trL R C l) = gmOk R C l := by rw [mulOk_nat hm hmt, gmOk_nat hm]; rfl
    have e1 : mulR R C l C R (trL R C l) = gmR R C l := by unfold mulR gmR; rw [e0]
    have e2 : mulC R C l C R (trL R C l) = gmR R C l := by unfold mulC gmR; rw [e0]
    have e3 : mulV R C l C R (trL R C l) = gmV R C l := by unfold mulV gmV; rw [e0]; simp only [Int.toNat_natCast]; rfl
    have H2 := fun W B cb h h' => iMul_c R C C R A B l (trL R C l) n (C * R) cap cb W hn hlt h h' hl (by omega)
    rw [e0, e1, e2, e3] at H2
    have H2' := Lib.hid H2
    have H2L := Lib.hid hlt
    clear H2 e0 e1 e2 e3 hmt hm hn hl2 hnum hlt
    generalize trL R C l = tl at *
    generalize gmR R C l = gr at *
    generalize gmV R C l = gv at *
    generalize gmOk R C l = go at *
    go_enter Try.func38, Try.ntmps38
    go_wp2_with fail
    refine (H1.out _ (by exact (Rd.grows ha (by exact bel0)))).mono ?_; rintro e w1 ⟨v, rfl, ho, g1⟩
    obtain ⟨A1, c1, rfl, hr1, _⟩ := ho.val
    rw [H2L.out]
    have mb : MBox w1 w.heap.size R C (.slice A n cap) := (MBox.mk_ w R C (.slice A n cap) 26).grows (by exact bel1 g1)
    have rb : MBox w1 (w.heap.size + 1) 0 0 (.slice none 0 0) := by have := (MBox.mk_ (w.alloc (.cells #[.int .i64 R, .int .i64 C, .slice A n cap] 26)) 0 0 (.slice none 0 0) 26).grows (w' := w1) (by exact bel1 g1); simpa using this
    obtain ⟨b0, b1, b2⟩ := mb.cells
    have bl := mb.lt
    have ra : Rd w1 A l := (Rd.grows ha (by exact bel1 g1))
    have gw : Grows w w1 := by exact bel1 g1
    have z1 := Below.size g1; simp at z1
    go_wp2_with fail
    refine (H2'.out _ _ _ (by exact (Rd.grows ra (by exact bel0))) (by exact (Rd.grows hr1 (by exact bel0)))).mono ?_; rintro e w2 ⟨v, rfl, ho2, g2⟩
    obtain ⟨A2, c2, rfl, _, _⟩ := ho2.val
    replace rb := (rb.grows (by exact bel0)).grows g2
    obtain ⟨r0, r1, r2⟩ := rb.cells
    have rf := rb.fz
    have rl := rb.lt
    have rl' : w.heap.size + 1 < w2.heap.size := rl
    go_wp2_with fail
    refine bodyPost_ret (v := .tuple #[.agg #[.int .i64 gr, .int .i64 gr, .slice A2 gv.length c2], .bool go]) ?_ rfl ?_
    · simp [results, Try.results38, go_sem, r0, r1, r2]
    · exact ⟨_, rfl, by exact ownl ho2, by exact bel2 g2 gw⟩

def ifI (ok : Bool) (r : Int) : Int := if ok then r else 0
def ifL (ok : Bool) (l : List Int) : List Int := if ok then l else []
theorem l3Done_c (ok : Bool) (r c : Int) (A : Option Addr) (l : List Int) (n cap : Nat) (w : World) (hn : l.length = n) (ha : Rd w A l) (hl : n ≤ 1099511627776) (hm : isMat r c l = ok) :
    Calls Try.prog 99 #[.agg #[.int .i64 r, .int .i64 c, .slice A n cap]] w fun e w' => ∃ A' c', e = .returned (.tuple #[.agg #[.int .i64 (ifI ok r), .int .i64 (ifI ok c), .slice A' (ifL ok l).length c'], .bool ok]) ∧ (∀ W B, Own W B (.slice A l.length cap) l → Own W B (.slice A' (ifL ok l).length c') (ifL ok l)) ∧ Grows w w' := by
  subst hn
  cases ok
  · exact (l3Done_no r c A l _ cap w rfl ha hl hm).mono fun e w' ⟨he, hg⟩ => ⟨none, 0, he, fun W B _ => Own.nil W B, hg⟩
  · exact (l3Done_yes r c A l _ cap w rfl ha hl hm).mono fun e w' ⟨he, hg⟩ => ⟨A, cap, he, fun W B h => h, hg⟩

theorem sGramOf_no (r c : Int) (A : Option Addr) (l : List Int) (n cap : Nat) (w : World) (hn : l.length = n) (ha : Rd w A l) (hl : n ≤ 1099511627776) (hm : isMat r c l = false) :
    Calls Try.prog 45 #[.agg #[.int .i64 r, .int .i64 c, .slice A n cap]] w fun e w' => e = .returned (.tuple #[.agg #[.int .i64 0, .int .i64 0, .slice none 0 0], .bool false]) ∧ Grows w w' := by
  have HM := Lib.hid fun w h => sIsMatrix_c r c A l n cap w hn h hl
  rw [hm] at HM
  have HM' := Lib.hid HM.out
  clear hm HM hn
  go_enter Try.func45, Try.ntmps45
  go_wp2_with fail
  refine (HM'.out _ (by exact (Rd.grows ha (by exact bel0)))).mono ?_; rintro e w1 ⟨rfl, g1⟩
  have rb : MBox w1 (w.heap.size + 1) 0 0 (.slice none 0 0) := by have := (MBox.mk_ (w.alloc (.cells #[.int .i64 r, .int .i64 c, .slice A n cap] 26)) 0 0 (.slice none 0 0) 26).grows (w' := w1) (by exact bel1 g1); simpa using this
  obtain ⟨r0, r1, r2⟩ := rb.cells
  have rf := rb.fz
  go_wp2_with fail
  refine bodyPost_ret (v := .tuple #[.agg #[.int .i64 0, .int .i64 0, .slice none 0 0], .bool false]) ?_ rfl ?_
  · simp [results, Try.results45, go_sem, r0, r1, r2]
  · exact ⟨rfl, by exact bel1 g1⟩

theorem sGramOf_c (r c : Int) (A : Option Addr) (l : List Int) (n cap : Nat) (w : World) (hn : l.length = n) (ha : Rd w A l) (hl : n ≤ 1099511627776) :
    Calls Try.prog 45 #[.agg #[.int .i64 r, .int .i64 c, .slice A n cap]] w fun e w' =>
      ∃ v, e = .returned (.tuple #[.agg #[.int .i64 (gmR r c l), .int .i64 (gmR r c l), v], .bool (gmOk r c l)]) ∧ Own w' w.heap.size v (gmV r c l) ∧ Grows w w' := by
  cases hm : isMat r c l
  · obtain ⟨e1, e2⟩ := gm_no (gmOk_no hm)
    rw [gmOk_no hm, e1, e2]
    exact (sGramOf_no r c A l n cap w hn ha hl hm).mono fun e w' ⟨he, hg⟩ => ⟨_, he, Own.nil _ _, hg⟩
  · obtain ⟨R, C, rfl, rfl, hR, hC, hl2, hnum⟩ := isMat_nat hm
    have hmt := isMat_tr hm
    have hlt : (trL R C l).length = C * R := tab_length _ _ _
    have hCR : C * R ≤ 576 := Nat.mul_le_mul hC hR
    have hRR : R * R ≤ 576 := Nat.mul_le_mul hR hR
    have H1 := Lib.hid fun W h => l3Turn_c R C A l n cap W hn h hl2 hR hC
    have H2' := Lib.hid fun W B cb h h' => l3Mul_c R C R A B l (trL R C l) n (C * R) cap cb W hn hlt h h' hm hmt
    have e1 : gmR R C l = ifI (gmOk R C l) R := rfl
    have e3 : gmV R C l = ifL (gmOk R C l) (mulL R C R l (trL R C l)) := by unfold gmV gmL ifL; simp only [Int.toNat_natCast]
    have hlen := mulL_length R C R l (trL R C l)
    have hok : isMat R R (mulL R C R l (trL R C l)) = gmOk R C l := by rw [isMat_made hR hR (mulL_length _ _ _ _ _), gmOk_nat hm]; rfl
    have HM := Lib.hid fun W h => sIsMatrix_c R C A l n cap W hn h hl
    rw [hm] at HM
    have HM' := Lib.hid HM.out
    rw [e1, e3]
    have H2L := Lib.hid hlt
    have H3L := Lib.hid hlen
    have HOK := Lib.hid hok
    clear e1 e3 hmt hm HM hn hl2 hnum hlt hlen hok
    generalize trL R C l = tl at *
    generalize mulL R C R l tl = pr at *
    generalize gmOk R C l = ok at *
    go_enter Try.func45, Try.ntmps45
    go_wp2_with fail
    refine (HM'.out _ (by exact (Rd.grows ha (by exact bel0)))).mono ?_; rintro e w1 ⟨rfl, g1⟩
    have mb : MBox w1 w.heap.size R C (.slice A n cap) := (MBox.mk_ w R C (.slice A n cap) 26).grows (by exact bel1 g1)
    have rb : MBox w1 (w.heap.size + 1) 0 0 (.slice none 0 0) := by have := (MBox.mk_ (w.alloc (.cells #[.int .i64 R, .int .i64 C, .slice A n cap] 26)) 0 0 (.slice none 0 0) 26).grows (w' := w1) (by exact bel1 g1); simpa using this
    obtain ⟨b0, b1, b2⟩ := mb.cells
    have bl := mb.lt
    have ra : Rd w1 A l := (Rd.grows ha (by exact bel1 g1))
    have gw : Grows w w1 := by exact bel1 g1
    have z1 := Below.size g1; simp at z1
    go_wp2_with fail
    go_region_held3 (fun W => W.cell? ⟨w.heap.size, 0, none⟩ = some (.int .i64 R) ∧ W.cell? ⟨w.heap.size, 1, none⟩ = some (.int .i64 C) ∧ W.cell? ⟨w.heap.size, 2, none⟩ = some (.slice A n cap)) ((refine MBox.cells (mb.grows ?_); first | exact bel3 g4 g3 g2 | exact bel2 g3 g2 | exact bel1 g2 | exact bel0))
      (first
       | (go_at_call 101; refine (H1.out _ (by exact (Rd.grows ra (by exact bel0)))).mono ?_; rintro e w2 ⟨v2, rfl, ho2, g2⟩; obtain ⟨A2, c2, rfl, hr2, _⟩ := ho2.val; rw [H2L.out]; have z2 := Below.size g2; (try simp at z2); (try (have q := (MBox.mk_ w1 0 0 (.slice none 0 0) 26).grows (w' := w2) (Grows.trans (show Grows _ _ from (Below.refl _ _).drew) g2))))
       | (go_at_call 100; refine (H2'.out _ _ _ (by exact (Rd.grows ra (by exact bel1 g2))) (by exact (Rd.grows hr2 (by exact bel0)))).mono ?_; rintro e w3 ⟨v3, rfl, ho3, g3⟩; obtain ⟨A3, c3, rfl, hr3, _⟩ := ho3.val; have z3 := Below.size g3; (try simp at z3); (first | (replace q := q.grows g3) | (have q := MBox.grows (MBox.mk_ w2 0 0 (.slice none 0 0) 26) g3) | skip))
       | (go_at_call 99; refine (l3Done_c ok R R A3 pr _ c3 _ rfl (by exact (Rd.grows hr3 (by exact bel0))) (by have := H3L.out; omega) HOK.out).mono ?_; rintro e w4 ⟨A4, c4, rfl, o4, g4⟩; have z4 := Below.size g4; (try simp at z4); (first | (replace q := q.grows g4) | (have q := MBox.grows (MBox.mk_ w3 0 0 (.slice none 0 0) 26) g4) | skip); (try (obtain ⟨q0, q1, q2⟩ := q.cells; have qf := q.fz; have ql := q.lt))))
    all_goals
      replace rb := rb.grows (w' := w4) (by exact bel3 g4 g3 g2)
      obtain ⟨r0, r1, r2⟩ := rb.cells
      have rf := rb.fz
      have rl := rb.lt
      have rl' : w.heap.size + 1 < w4.heap.size := rl
      have ho4 := o4 _ _ (ho3.grows (w' := w4) (by exact bel1 g4))
      have hb3 := fun k hk => World.ownsRow.lt (o4 _ _ ho3) k hk
      replace ho4 := ho4.less (show w.heap.size ≤ _ by (try simp); omega)
      go_wp2_with fail
      refine bodyPost_ret (v := .tuple #[.agg #[.int .i64 (ifI ok R), .int .i64 (ifI ok R), .slice A4 (ifL ok pr).length c4], .bool ok]) ?_ rfl ?_
      · simp [results, Try.results45, go_sem, r0, r1, r2, rl']
      · exact ⟨_, rfl, by ((repeat' (first | with_reducible exact ho4 | with_reducible refine Own.alloc ?_ _ | with_reducible refine Own.drew ?_ | with_reducible refine Own.far ?_ ?_ _)); all_goals first | (intro k hk; have := hb3 k hk; (try simp at this); (try simp); omega) | ((try simp); omega)), by exact bel4 g4 g3 g2 gw⟩
end
end Go.Proofs.Ythajmffhgbenpaa

/- Matrices as one value each; contracts of functions that return a matrix and whether there is one. -/
namespace Go.Proofs.Ythajmffhgbenpaa
set_option linter.unusedSimpArgs false
set_option linter.unusedVariables false
open Go.RowKit

structure MX where
  r : Int
  c : Int
  l : List Int
def MX.nil : MX := ⟨0, 0, []⟩
def MX.ok (m : MX) : Bool := isMat m.r m.c m.l
def oM (o : Option MX) : MX := o.getD MX.nil
theorem oM_some (m : MX) : oM (some m) = m := rfl
theorem oM_none : oM none = MX.nil := rfl
/-- the answer is the matrix m, in memory of its own, and the bool ok -/
def MatR (m : MX) (ok : Bool) (w : World) (e : Ending) (w' : World) : Prop :=
  ∃ v, e = .returned (.tuple #[.agg #[.int .i64 m.r, .int .i64 m.c, v], .bool ok]) ∧ Own w' w.heap.size v m.l ∧ Grows w w'
def MatRet (o : Option MX) (w : World) (e : Ending) (w' : World) : Prop := MatR (oM o) o.isSome w e w'
/-- the answer is the matrix m, in memory of its own -/
def Mat1 (m : MX) (w : World) (e : Ending) (w' : World) : Prop :=
  ∃ v, e = .returned (.agg #[.int .i64 m.r, .int .i64 m.c, v]) ∧ Own w' w.heap.size v m.l ∧ Grows w w'

theorem matRet_out {o : Option MX} {w w' : World} {e : Ending} (h : MatRet o w e w') : ∃ v, e = .returned (.tuple #[.agg #[.int .i64 (oM o).r, .int .i64 (oM o).c, v], .bool o.isSome]) ∧ Own w' w.heap.size v (oM o).l ∧ Grows w w' := h

def trM (m : MX) : MX := ⟨m.c, m.r, trL m.r.toNat m.c.toNat m.l⟩
def trO (m : MX) : Option MX := if m.ok then some (trM m) else none
def mulO (a b : MX) : Option MX := if mulOk a.r a.c a.l b.r b.c b.l then some ⟨a.r, b.c, mulL a.r.toNat a.c.toNat b.c.toNat a.l b.l⟩ else none
theorem mulO_no {a b : MX} (h : a.ok = false) : mulO a b = none := by
  unfold mulO; rw [if_neg]; unfold MX.ok at h; unfold mulOk; rw [h]; simp
theorem mulO_eq (a b : MX) : (oM (mulO a b)).r = mulR a.r a.c a.l b.r b.c b.l ∧ (oM (mulO a b)).c = mulC a.r a.c a.l b.r b.c b.l ∧ (oM (mulO a b)).l = mulV a.r a.c a.l b.r b.c b.l ∧ (mulO a b).isSome = mulOk a.r a.c a.l b.r b.c b.l := by
  unfold mulO mulR mulC mulV
  cases mulOk a.r a.c a.l b.r b.c b.l <;> simp [oM, MX.nil]
theorem isMat_ok {m : MX} (h : m.ok = true) : ∃ R C : Nat, m.r = (R : Int) ∧ m.c = (C : Int) ∧ R ≤ 24 ∧ C ≤ 24 ∧ m.l.length = R * C ∧ ∀ i, i < m.l.length → isNum (nth m.l i) = true := isMat_nat h
theorem oM_length {o : Option MX} (h : ∀ m, o = some m → m.ok = true) : (oM o).l.length ≤ 576 := by
  cases o with
  | none => simp [oM, MX.nil]
  | some m =>
    obtain ⟨R, C, _, _, h1, h2, h3, _⟩ := isMat_ok (h m rfl)
    have := Nat.mul_le_mul h1 h2
    show m.l.length ≤ 576
    omega
theorem mulO_ok {a b m : MX} (h : mulO a b = some m) : m.ok = true := by
  unfold mulO at h
  split at h
  · rename_i hm
    cases h
    unfold mulOk at hm
    simp only [Bool.and_eq_true] at hm
    obtain ⟨⟨⟨h1, h2⟩, h3⟩, h4⟩ := hm
    obtain ⟨R, C, e1, e2, hR, hC, _, _⟩ := isMat_nat h1
    obtain ⟨R', C', e3, e4, hR', hC', _, _⟩ := isMat_nat h2
    unfold MX.ok
    simp only [e1, e2, e4, Int.toNat_natCast] at h4 ⊢
    rw [isMat_made hR hC' (mulL_length _ _ _ _ _)]
    exact h4
  · cases h
theorem trM_ok {m : MX} (h : m.ok = true) : (trM m).ok = true := by
  obtain ⟨R, C, e1, e2, _⟩ := isMat_ok h
  unfold MX.ok at *
  unfold trM
  simp only [e1, e2, Int.toNat_natCast] at h ⊢
  exact isMat_tr h
theorem trO_ok {a m : MX} (h : trO a = some m) : m.ok = true := by
  unfold trO at h
  split at h
  · cases h; exact trM_ok ‹_›
  · cases h

section
set_option maxHeartbeats 1000000
theorem iTr_m (r c : Int) (A : Option Addr) (l : List Int) (n cap : Nat) (w : World) (hn : l.length = n) (ha : Rd w A l) (hl : n ≤ 1099511627776) :
    Calls Try.prog 84 #[.agg #[.int .i64 r, .int .i64 c, .slice A n cap]] w (MatRet (trO ⟨r, c, l⟩) w) := by
  cases hm : isMat r c l
  · have e : trO ⟨r, c, l⟩ = none := by unfold trO MX.ok; simp [hm]
    rw [e]
    exact (iTransposeOf_no r c A l n cap w hn ha hl hm).mono fun e w' ⟨h1, h2⟩ => ⟨_, h1, Own.nil _ _, h2⟩
  · obtain ⟨R, C, rfl, rfl, hR, hC, hlen, hnum⟩ := isMat_nat hm
    have e : trO ⟨R, C, l⟩ = some ⟨C, R, trL R C l⟩ := by unfold trO MX.ok trM; simp [hm]
    rw [e]
    exact iTransposeOf_yes R C A l n cap w hn ha hm
theorem iMul_m (r c r' c' : Int) (A B : Option Addr) (a b : List Int) (n m ca cb : Nat) (w : World) (hn : a.length = n) (hm : b.length = m) (ha : Rd w A a) (hb : Rd w B b) (hl : n ≤ 1099511627776) (hl2 : m ≤ 1099511627776) :
    Calls Try.prog 25 #[.agg #[.int .i64 r, .int .i64 c, .slice A n ca], .agg #[.int .i64 r', .int .i64 c', .slice B m cb]] w (MatRet (mulO ⟨r, c, a⟩ ⟨r', c', b⟩) w) := by
  obtain ⟨e1, e2, e3, e4⟩ := mulO_eq ⟨r, c, a⟩ ⟨r', c', b⟩
  unfold MatRet MatR
  rw [e1, e2, e3, e4]
  exact iMul_c r c r' c' A B a b n m ca cb w hn hm ha hb hl hl2
theorem sMul_m (r c r' c' : Int) (A B : Option Addr) (a b : List Int) (n m ca cb : Nat) (w : World) (hn : a.length = n) (hm : b.length = m) (ha : Rd w A a) (hb : Rd w B b) (hl : n ≤ 1099511627776) (hl2 : m ≤ 1099511627776) :
    Calls Try.prog 94 #[.agg #[.int .i64 r, .int .i64 c, .slice A n ca], .agg #[.int .i64 r', .int .i64 c', .slice B m cb]] w (MatRet (mulO ⟨r, c, a⟩ ⟨r', c', b⟩) w) := by
  obtain ⟨e1, e2, e3, e4⟩ := mulO_eq ⟨r, c, a⟩ ⟨r', c', b⟩
  unfold MatRet MatR
  rw [e1, e2, e3, e4]
  exact sMul_c r c r' c' A B a b n m ca cb w hn hm ha hb hl hl2
/-- the variables of a function with two matrices and a matrix to return -/
theorem two_mats (w : World) (r c r' c' : Int) (u v : Value) :
    ∃ w1, w1 = ((w.alloc (.cells #[.int .i64 r, .int .i64 c, u] 26)).alloc (.cells #[.int .i64 r', .int .i64 c', v] 26)).alloc (.cells #[.int .i64 0, .int .i64 0, .slice none 0 0] 26) ∧
      MBox w1 w.heap.size r c u ∧ MBox w1 (w.heap.size + 1) r' c' v ∧ MBox w1 (w.heap.size + 1 + 1) 0 0 (.slice none 0 0) ∧ w1.heap.size = w.heap.size + 3 ∧ Grows w w1 :=
  ⟨_, rfl, ((MBox.mk_ _ _ _ _ _).grows ((Below.refl _ _).alloc (Nat.le_refl _) _)).grows ((Below.refl _ _).alloc (Nat.le_refl _) _), (by
    have := (MBox.mk_ (w.alloc (.cells #[.int .i64 r, .int .i64 c, u] 26)) r' c' v 26).grows ((Below.refl _ _).alloc (Nat.le_refl _) (.cells #[.int .i64 0, .int .i64 0, .slice none 0 0] 26))
    simpa using this), (by
    have := MBox.mk_ ((w.alloc (.cells #[.int .i64 r, .int .i64 c, u] 26)).alloc (.cells #[.int .i64 r', .int .i64 c', v] 26)) 0 0 (.slice none 0 0) 26
    simpa using this), by simp, by exact bel0⟩
/-- .. with one -/
theorem one_mat (w : World) (r c : Int) (u : Value) :
    ∃ w1, w1 = (w.alloc (.cells #[.int .i64 r, .int .i64 c, u] 26)).alloc (.cells #[.int .i64 0, .int .i64 0, .slice none 0 0] 26) ∧
      MBox w1 w.heap.size r c u ∧ MBox w1 (w.heap.size + 1) 0 0 (.slice none 0 0) ∧ w1.heap.size = w.heap.size + 2 ∧ Grows w w1 :=
  ⟨_, rfl, (MBox.mk_ _ _ _ _ _).grows ((Below.refl _ _).alloc (Nat.le_refl _) _), (by
    have := MBox.mk_ (w.alloc (.cells #[.int .i64 r, .int .i64 c, u] 26)) 0 0 (.slice none 0 0) 26
    simpa using this), by simp, by exact bel0⟩
end
end Go.Proofs.Ythajmffhgbenpaa

/- The answer is a slice of integers. -/
namespace Go.Proofs.Ythajmffhgbenpaa
set_option linter.unusedSimpArgs false
set_option linter.unusedVariables false
open Go.RowKit

/-- the answer is a slice of integers, in memory of its own, and whether there is one -/
def LRet (o : Option (List Int)) (w : World) (e : Ending) (w' : World) : Prop := ∃ v, e = .returned (.tuple #[v, .bool o.isSome]) ∧ Own w' w.heap.size v (oL o) ∧ Grows w w'
theorem lRet_out {o : Option (List Int)} {w w' : World} {e : Ending} (h : LRet o w e w') : ∃ v, e = .returned (.tuple #[v, .bool o.isSome]) ∧ Own w' w.heap.size v (oL o) ∧ Grows w w' := h
theorem Own.caps {w : World} {B n cap : Nat} {A : Option Addr} {l : List Int} (h : Own w B (.slice A n cap) l) : l.length = n ∧ n ≤ cap ∧ cap ≤ 9223372036854775807 := by
  rcases h.2 with ⟨e, h0⟩ | ⟨g, cap', cur, e, hb, hg, hn, hm, hcs, htake⟩
  · simp only [Value.slice.injEq] at e
    obtain ⟨_, rfl, rfl⟩ := e
    exact ⟨h0, Nat.zero_le _, by omega⟩
  · simp only [Value.slice.injEq] at e
    obtain ⟨_, rfl, rfl⟩ := e
    exact ⟨rfl, hn, by unfold maxLen at hm; omega⟩
theorem Own.rd' {w : World} {B n cap : Nat} {a : List Int} {A : Option Addr} (h : Own w B (.slice A n cap) a) : Rd w A a := by
  obtain ⟨A', c', e, hr, _⟩ := h.val
  injection e with e1 _ _
  rw [e1]; exact hr
end Go.Proofs.Ythajmffhgbenpaa

/- A region that draws, walked by hand: a condition S on the world is shown anew behind each step that turns it. -/
namespace Go.Proofs.Ythajmffhgbenpaa
set_option linter.unusedSimpArgs false
set_option linter.unusedVariables false
open Go.RowKit

theorem wp_region_heldL {P : Program} {id : Nat} {Q : Exit → Act → World → Prop} {a : Act} {w : World} {L : List Oper} (S : World → Prop) (hm : P.follows .mixedOrders = true) (hS : S w.drew)
    (h : S w.drew → wpAnyH P .any L.toArray (NoPanic Q) S L.length (Array.replicate L.length false) a w.drew) : (Code.region id L.toArray true).wp P Q a w := by
  refine wp_region_noPanic (wp_region_any hm ?_)
  exact wpAny_of_held _ _ _ _ (by simpa using h hS)
end Go.Proofs.Ythajmffhgbenpaa
