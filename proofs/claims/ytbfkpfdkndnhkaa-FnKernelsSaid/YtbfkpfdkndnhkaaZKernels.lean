/- The row of FnKernels: proved for every input, no condition beyond those of the row. -/
import Derived.Test.YtbfkpfdkndnhkaaPkDr
import Derived.Test.YtbfkpfdkndnhkaaPkDt
import Derived.Test.YtbfkpfdkndnhkaaPkKz
import Derived.Test.YtbfkpfdkndnhkaaQFacts

namespace Go.Proofs.Ytbfkpfdkndnhkaa
set_option linter.unusedSimpArgs false
set_option linter.unusedVariables false
open Go.RowKit
set_option linter.unusedVariables false

/-- all that the law needs of a kernel -/
theorem kn_law {r c : Int} {l : List Int} {k : MX} (h : kerO ⟨r, c, l⟩ = some k) :
    ∃ (R C K : Nat) (kl : List Int), r = R ∧ c = C ∧ k = ⟨K, R, kl⟩ ∧ R ≤ 24 ∧ C ≤ 24 ∧ K ≤ 24 ∧ kl.length ≤ 576 ∧ latB K R kl = true ∧
      (∀ t, (∃ a, EchO ⟨r, c, l⟩ t a) → (K : Int) = R - t) ∧ (∀ i, nth (oM (mulO ⟨K, R, kl⟩ ⟨r, c, l⟩)).l i = 0) ∧ ((mulO ⟨K, R, kl⟩ ⟨r, c, l⟩).isSome = true → (oM (mulO ⟨K, R, kl⟩ ⟨r, c, l⟩)).l.length = K * C) ∧
      ((isSatO ⟨K, R, kl⟩).isSome = true → (isSatO ⟨K, R, kl⟩).getD false = true) := by
  obtain ⟨R, C, l', e, hm⟩ := kerO_mat h
  obtain ⟨e1, e2, e3⟩ := MX.mk.inj e
  subst e1 e2 e3
  obtain ⟨R', K, kl, f1, rfl, hR, hK, hkl, hlat, _, hech, hmul, hsat⟩ := ker_law h
  have f1 : (R : Int) = R' := f1
  obtain rfl : R = R' := by omega
  obtain ⟨_, C', _, g2, _, hC, _⟩ := isMat_nat hm
  obtain rfl : C = C' := by omega
  refine ⟨R, C, K, kl, rfl, rfl, rfl, hR, hC, hK, hkl, hlat, fun t ⟨a, ha⟩ => ?_, fun i => ?_, fun hs => ?_, fun hs => ?_⟩
  · obtain ⟨h1, h2⟩ := hech t a ha
    omega
  · cases hp : mulO ⟨K, R, kl⟩ ⟨R, C, l⟩ with
    | none => rfl
    | some p => exact (hmul p hp).1 i
  · obtain ⟨p, hp⟩ := Option.isSome_iff_exists.1 hs
    have := (hmul p hp).2
    rw [hp]
    show p.l.length = K * C
    have e : (p.l.length : Int) = (K : Int) * (C : Int) := this
    exact_mod_cast e
  · unfold isSatO at hs ⊢
    cases hss : satO ⟨K, R, kl⟩ with
    | none => rw [hss] at hs; cases hs
    | some s => cases hb : basO ⟨K, R, kl⟩ with
      | none => rw [hss, hb] at hs; cases hs
      | some b => exact eqMat_iff.2 (hsat s b hss hb)
section
set_option maxHeartbeats 8000000
set_option maxRecDepth 100000
theorem lawFkn_c (A : Option Addr) (lc : List Int) (cap : Nat) (w : World) (hi : InCode w A lc cap) :
    Calls Try.prog 3 #[.slice A lc.length cap] w fun e w' => e = .returned (.bool true) ∧ Grows w w' := by
  obtain ⟨hr, hc1, hc2⟩ := hi
  simp only [maxLen] at hc2
  have CB := big_c A lc.length cap w (by omega)
  by_cases hn : lc.length ≤ 1048576
  rotate_left
  · rw [decide_eq_true (by omega)] at CB
    have CB' := Lib.hid CB
    clear CB
    go_enter Try.func3, Try.ntmps3
    go_wp2_with fail
    refine CB'.out.mono ?_; rintro e w' ⟨rfl, rfl⟩
    go_wp2_with fail
    go_ret
    exact ⟨rfl, by exact bel0⟩
  · rw [decide_eq_false (by omega)] at CB
    have CB' := Lib.hid CB
    have CD := Lib.hid (matDrawKernelOf_c A lc.length cap w hr hn)
    clear CB
    go_enter Try.func3, Try.ntmps3
    go_wp2_with fail
    refine CB'.out.mono ?_; rintro e w' ⟨rfl, h0⟩
    have h1 := h0.symm
    clear h0
    subst h1
    go_wp2_with fail
    refine CD.out.mono ?_; rintro e w2 ⟨r, c, V, cv, l, rfl, hrb, hl, o2, HG⟩
    have rd2 := o2.rd'
    have h_w2 := Below.size HG
    have CI := Lib.hid fun W h => (iKer_c r c V l l.length cv W rfl h (by omega)).mono fun _ _ h => matRet_out h
    have CS := Lib.hid fun W h => (sKer_c r c V l l.length cv W rfl h (by omega)).mono fun _ _ h => matRet_out h
    have CR := Lib.hid fun W h => iRank_c r c V l l.length cv W rfl h (by omega)
    have HF := Lib.hid fun k (h : kerO ⟨r, c, l⟩ = some k) => kn_law h
    generalize kerO ⟨r, c, l⟩ = KO at *
    clear CD hr hc1 hc2 o2 hrb
    go_wp2_with fail
    refine (CI.out _ (by exact Rd.grows rd2 (by exact bel0))).mono ?_; rintro e w3 ⟨v3, rfl, o3, g_w3⟩
    have s_w3 := Below.size g_w3; (try simp at s_w3)
    replace rd2 := rd2.grows (w' := w3) (by exact bel1 g_w3)
    have mm : MBox w3 (w2.heap.size) r c (.slice V l.length cv) := MBox.grows (MBox.new_ w2 r c (.slice V l.length cv) 26 (by simp)) (w' := w3) (by exact bel1 g_w3)
    have mm_0 := mm.c0; have mm_1 := mm.c1; have mm_2 := mm.c2; have mm_l := mm.lt; have mm_f := mm.fz
    replace HG : Grows w w3 := by exact bel2 g_w3 HG
    have h_w3 := Below.size HG
    obtain ⟨A3, c3, rfl, rd3, _⟩ := o3.val
    obtain ⟨_, hc3, hc32⟩ := o3.caps
    go_wp2_with fail
    refine (CS.out _ (by exact Rd.grows rd2 (by exact bel0))).mono ?_; rintro e w4 ⟨v4, rfl, o4, g_w4⟩
    have s_w4 := Below.size g_w4; (try simp at s_w4)
    replace rd2 := rd2.grows (w' := w4) (by exact bel1 g_w4)
    clear mm_0 mm_1 mm_2 mm_l mm_f
    replace mm := mm.grows (w' := w4) (by exact bel1 g_w4)
    have mm_0 := mm.c0; have mm_1 := mm.c1; have mm_2 := mm.c2; have mm_l := mm.lt; have mm_f := mm.fz
    replace rd3 := rd3.grows (w' := w4) (by exact bel1 g_w4)
    have mk : MBox w4 (w3.heap.size) (oM KO).r (oM KO).c (.slice A3 (oM KO).l.length c3) := MBox.grows (MBox.new_ w3 (oM KO).r (oM KO).c (.slice A3 (oM KO).l.length c3) 26 (by simp)) (w' := w4) (by exact bel1 g_w4)
    have mk_0 := mk.c0; have mk_1 := mk.c1; have mk_2 := mk.c2; have mk_l := mk.lt; have mk_f := mk.fz
    replace HG : Grows w w4 := by exact bel2 g_w4 HG
    have h_w4 := Below.size HG
    obtain ⟨A4, c4, rfl, _, _⟩ := o4.val
    clear o3 o4 CI CS
    go_wp2_with fail
    refine (CR.out _ (by exact Rd.grows rd2 (by exact bel0))).mono ?_; rintro e w5 ⟨t, known, rfl, hE, ht, g_w5⟩
    have s_w5 := Below.size g_w5; (try simp at s_w5)
    replace rd2 := rd2.grows (w' := w5) (by exact bel1 g_w5)
    clear mm_0 mm_1 mm_2 mm_l mm_f
    replace mm := mm.grows (w' := w5) (by exact bel1 g_w5)
    have mm_0 := mm.c0; have mm_1 := mm.c1; have mm_2 := mm.c2; have mm_l := mm.lt; have mm_f := mm.fz
    replace rd3 := rd3.grows (w' := w5) (by exact bel1 g_w5)
    clear mk_0 mk_1 mk_2 mk_l mk_f
    replace mk := mk.grows (w' := w5) (by exact bel1 g_w5)
    have mk_0 := mk.c0; have mk_1 := mk.c1; have mk_2 := mk.c2; have mk_l := mk.lt; have mk_f := mk.fz
    replace HG : Grows w w5 := by exact bel2 g_w5 HG
    have h_w5 := Below.size HG
    cases KO with
    | none =>
      have e1 : (oM (none : Option MX)).l.length = 0 := rfl
      clear hE HF
      rw [e1] at mk_2 ⊢
      simp only [Option.isSome_none]
      go_wp2_with fail
      go_ret
      exact ⟨rfl, by exact bel1 HG⟩
    | some k =>
      obtain ⟨R, C, K, kl, rfl, rfl, rfl, hR, hC, hK, hkl, hlat, hech, hz, hlen, hsat⟩ := HF.out k rfl
      have mk : MBox w5 w3.heap.size K R (.slice A3 kl.length c3) := mk
      have rd3 : Rd w5 A3 kl := rd3
      have hc3 : kl.length ≤ c3 := hc3
      clear mk_0 mk_1 mk_2 mk_l mk_f HF CR
      have mk_0 := mk.c0; have mk_1 := mk.c1; have mk_2 := mk.c2; have mk_l := mk.lt; have mk_f := mk.fz
      have hkn : known = true → (K : Int) = (R : Int) - (t : Int) := fun h => hech t (hE h)
      clear hech hE
      have CM := Lib.hid fun W h1 h2 => (iMul_m K R R C A3 V kl l kl.length l.length c3 cv W rfl rfl h1 h2 (by omega) (by omega)).mono fun _ _ h => matRet_out h
      have CT := Lib.hid fun W h => iIsSat_c K R A3 kl kl.length c3 W rfl h (by omega)
      have CLi := Lib.hid fun W h => iIsLat_c K R A3 kl kl.length c3 W rfl hc3 hc32 h (by omega)
      have CLs := Lib.hid fun W h => sIsLat_c K R A3 kl kl.length c3 W rfl h (by omega)
      rw [hlat] at CLi CLs
      have hPl : (oM (mulO ⟨K, R, kl⟩ ⟨R, C, l⟩)).l.length ≤ 576 := oM_length fun m h => mulO_ok h
      obtain ⟨Q, hQ⟩ : ∃ Q : Nat, Q = K * C := ⟨_, rfl⟩
      rw [← hQ] at hlen
      have hQ6 : Q ≤ 576 := by rw [hQ]; exact Nat.mul_le_mul hK hC
      have hQ1 : (K : Int) * (C : Int) = (Q : Int) := by rw [hQ, Int.natCast_mul]
      have kQ : IntKind.i64.wrap (Q : Int) = (Q : Int) := IntWalk.i64_in _ (by omega)
      generalize mulO ⟨K, R, kl⟩ ⟨R, C, l⟩ = PO at *
      generalize PO.isSome = fits at *
      generalize oM PO = P at *
      generalize (isSatO ⟨K, R, kl⟩).isSome = fine at *
      generalize (isSatO ⟨K, R, kl⟩).getD false = full at *
      have HZ := Lib.hid hz
      have HKN := Lib.hid hkn
      have HLE := Lib.hid hlen
      have HSA := Lib.hid hsat
      clear hz hkn hlen hsat hQ hlat
      go_wp2_with fail
      refine (CM.out _ (by exact Rd.grows rd3 (by exact bel0)) (by exact Rd.grows rd2 (by exact bel0))).mono ?_; rintro e w6 ⟨v6, rfl, o6, g_w6⟩
      have s_w6 := Below.size g_w6; (try simp at s_w6)
      replace rd2 := rd2.grows (w' := w6) (by exact bel1 g_w6)
      clear mm_0 mm_1 mm_2 mm_l mm_f
      replace mm := mm.grows (w' := w6) (by exact bel1 g_w6)
      have mm_0 := mm.c0; have mm_1 := mm.c1; have mm_2 := mm.c2; have mm_l := mm.lt; have mm_f := mm.fz
      replace rd3 := rd3.grows (w' := w6) (by exact bel1 g_w6)
      clear mk_0 mk_1 mk_2 mk_l mk_f
      replace mk := mk.grows (w' := w6) (by exact bel1 g_w6)
      have mk_0 := mk.c0; have mk_1 := mk.c1; have mk_2 := mk.c2; have mk_l := mk.lt; have mk_f := mk.fz
      replace HG : Grows w w6 := by exact bel2 g_w6 HG
      have h_w6 := Below.size HG
      obtain ⟨A6, c6, rfl, rd6, _⟩ := o6.val
      obtain ⟨w7, hw7⟩ : ∃ w7, w7 = w6.alloc (.cells #[.int .i64 P.r, .int .i64 P.c, .slice A6 P.l.length c6] 26) := ⟨_, rfl⟩
      have mp : MBox w7 w6.heap.size P.r P.c (.slice A6 P.l.length c6) := by rw [hw7]; exact MBox.mk_ _ _ _ _ _
      have g67 : Grows w6 w7 := by rw [hw7]; exact bel0
      have HW7 := Lib.hid hw7
      clear hw7 o6 CM
      have s_w7 := Below.size g67; (try simp at s_w7)
      replace rd2 := rd2.grows (w' := w7) (by exact bel1 g67)
      clear mm_0 mm_1 mm_2 mm_l mm_f
      replace mm := mm.grows (w' := w7) (by exact bel1 g67)
      have mm_0 := mm.c0; have mm_1 := mm.c1; have mm_2 := mm.c2; have mm_l := mm.lt; have mm_f := mm.fz
      replace rd3 := rd3.grows (w' := w7) (by exact bel1 g67)
      clear mk_0 mk_1 mk_2 mk_l mk_f
      replace mk := mk.grows (w' := w7) (by exact bel1 g67)
      have mk_0 := mk.c0; have mk_1 := mk.c1; have mk_2 := mk.c2; have mk_l := mk.lt; have mk_f := mk.fz
      replace rd6 := rd6.grows (w' := w7) (by exact bel1 g67)
      replace HG : Grows w w7 := by exact bel2 g67 HG
      have h_w7 := Below.size HG
      have mp_0 := mp.c0; have mp_1 := mp.c1; have mp_2 := mp.c2; have mp_l := mp.lt; have mp_f := mp.fz
      go_wp2_with fail
      rw [← HW7.out]
      go_loopw [12] (fun i wr => ∃ I : Nat, i = .int .i64 I ∧ I ≤ P.l.length ∧ wr = w7) (fun i _ => P.l.length - (intOf i).toNat)
      case atStart => exact ⟨0, rfl, Nat.zero_le _, by first | rfl | trivial⟩
      case round =>
        obtain ⟨I, rfl, hI, rfl⟩ := hrel
        by_cases hlt : I < P.l.length
        · have hlt' : (I : Int) < (P.l.length : Int) := by omega
          obtain ⟨bs, fs, rfl, hbs, s0⟩ := rd6.at_ I hlt
          have hz := HZ.out I
          rw [hz] at s0
          clear hz
          go_wp2_with fail
          go_round
          case rel => exact ⟨I + 1, by go_num, by omega, by first | rfl | trivial⟩
          case measure => first | (simp [intOf]; done) | (simp [intOf]; omega)
        · have hlt' : ¬ (I : Int) < (P.l.length : Int) := by omega
          clear hlt
          obtain ⟨w7, rfl⟩ : ∃ x : World, x = wr := ⟨_, rfl⟩
          go_wp2_with fail
          refine (CT.out _ (by exact Rd.grows rd3 (by exact bel0))).mono ?_; rintro e w8 ⟨rfl, g_w8⟩
          have s_w8 := Below.size g_w8; (try simp at s_w8)
          replace rd2 := rd2.grows (w' := w8) (by exact bel1 g_w8)
          clear mm_0 mm_1 mm_2 mm_l mm_f
          replace mm := mm.grows (w' := w8) (by exact bel1 g_w8)
          have mm_0 := mm.c0; have mm_1 := mm.c1; have mm_2 := mm.c2; have mm_l := mm.lt; have mm_f := mm.fz
          replace rd3 := rd3.grows (w' := w8) (by exact bel1 g_w8)
          clear mk_0 mk_1 mk_2 mk_l mk_f
          replace mk := mk.grows (w' := w8) (by exact bel1 g_w8)
          have mk_0 := mk.c0; have mk_1 := mk.c1; have mk_2 := mk.c2; have mk_l := mk.lt; have mk_f := mk.fz
          replace rd6 := rd6.grows (w' := w8) (by exact bel1 g_w8)
          clear mp_0 mp_1 mp_2 mp_l mp_f
          replace mp := mp.grows (w' := w8) (by exact bel1 g_w8)
          have mp_0 := mp.c0; have mp_1 := mp.c1; have mp_2 := mp.c2; have mp_l := mp.lt; have mp_f := mp.fz
          replace HG : Grows w w8 := by exact bel2 g_w8 HG
          have h_w8 := Below.size HG
          clear CT
          have hkn := HKN.out
          have hlen := HLE.out
          have hsat := HSA.out
          clear HKN HLE HSA
          go_upto_region 18 with fail
          cases known
          case' false => clear hkn
          case' true =>
            have hk1 := eq_true (hkn rfl)
            have hk2 : ((K : Int) == (R : Int) - (t : Int)) = true := by simp [hk1]
            clear hkn
          all_goals cases fits
          all_goals cases fine
          all_goals
            first | (have hl1 := eq_true (show (P.l.length : Int) = (Q : Int) by have := hlen rfl; omega); have hl2 : ((P.l.length : Int) == (Q : Int)) = true := by simp [hl1]) | skip
          all_goals
            clear hlen
          all_goals
            first | (obtain rfl := hsat rfl) | skip
          all_goals
            clear hsat
            go_wp2_with fail
            refine (CLi.out _ (by exact Rd.grows rd3 (by exact bel0))).mono ?_; rintro e w9 ⟨rfl, g_w9⟩
            have s_w9 := Below.size g_w9; (try simp at s_w9)
            replace rd2 := rd2.grows (w' := w9) (by exact bel1 g_w9)
            clear mm_0 mm_1 mm_2 mm_l mm_f
            replace mm := mm.grows (w' := w9) (by exact bel1 g_w9)
            have mm_0 := mm.c0; have mm_1 := mm.c1; have mm_2 := mm.c2; have mm_l := mm.lt; have mm_f := mm.fz
            replace rd3 := rd3.grows (w' := w9) (by exact bel1 g_w9)
            clear mk_0 mk_1 mk_2 mk_l mk_f
            replace mk := mk.grows (w' := w9) (by exact bel1 g_w9)
            have mk_0 := mk.c0; have mk_1 := mk.c1; have mk_2 := mk.c2; have mk_l := mk.lt; have mk_f := mk.fz
            replace rd6 := rd6.grows (w' := w9) (by exact bel1 g_w9)
            clear mp_0 mp_1 mp_2 mp_l mp_f
            replace mp := mp.grows (w' := w9) (by exact bel1 g_w9)
            have mp_0 := mp.c0; have mp_1 := mp.c1; have mp_2 := mp.c2; have mp_l := mp.lt; have mp_f := mp.fz
            replace HG : Grows w w9 := by exact bel2 g_w9 HG
            have h_w9 := Below.size HG
            go_wp2_with fail
            refine (CLs.out _ (by exact Rd.grows rd3 (by exact bel0))).mono ?_; rintro e w10 ⟨rfl, g_w10⟩
            have s_w10 := Below.size g_w10; (try simp at s_w10)
            replace rd2 := rd2.grows (w' := w10) (by exact bel1 g_w10)
            clear mm_0 mm_1 mm_2 mm_l mm_f
            replace mm := mm.grows (w' := w10) (by exact bel1 g_w10)
            have mm_0 := mm.c0; have mm_1 := mm.c1; have mm_2 := mm.c2; have mm_l := mm.lt; have mm_f := mm.fz
            replace rd3 := rd3.grows (w' := w10) (by exact bel1 g_w10)
            clear mk_0 mk_1 mk_2 mk_l mk_f
            replace mk := mk.grows (w' := w10) (by exact bel1 g_w10)
            have mk_0 := mk.c0; have mk_1 := mk.c1; have mk_2 := mk.c2; have mk_l := mk.lt; have mk_f := mk.fz
            replace rd6 := rd6.grows (w' := w10) (by exact bel1 g_w10)
            clear mp_0 mp_1 mp_2 mp_l mp_f
            replace mp := mp.grows (w' := w10) (by exact bel1 g_w10)
            have mp_0 := mp.c0; have mp_1 := mp.c1; have mp_2 := mp.c2; have mp_l := mp.lt; have mp_f := mp.fz
            replace HG : Grows w w10 := by exact bel2 g_w10 HG
            have h_w10 := Below.size HG
            go_wp2_with fail
            go_ret
            exact ⟨by first | rfl | (simp; done), by exact bel1 HG⟩
end
end Go.Proofs.Ytbfkpfdkndnhkaa


namespace Go.Proofs.Ytbfkpfdkndnhkaa
set_option linter.unusedSimpArgs false
set_option linter.unusedVariables false
open Go.ChangeShapes Go.WideShapes Go.ChangeAt Go.RowKit Go.Joins
set_option linter.unusedVariables false

set_option maxRecDepth 100000 in
theorem fnKernels_lifted (os : Os) (started : os.Started) (H : Type) (enc : TypeId × Value → H) :
    ReturnsInHanded {} Try.checked os 3 .any (Rows.fnKernelsSpec.pre6 enc Try.prog Try.f3 Rows.fnKernelsRow.domain false) (Rows.fnKernelsSpec.post enc Try.prog Try.f3 false true false false) := by
  refine returnsInHanded_of_change (C := Try.checked) own started (by kernel_rfl) Try.func3
    (ChangeSpec.witness6 (enc := enc) (C := Try.checked) false ⟨#[], #[.slice none 0 0], []⟩ 8 (by kernel_rfl) (by kernel_rfl) (by kernel_rfl) (by kernel_rfl)) ?_
  intro W base args ds gs before hval0 hW hcnd _
  have hval : ∀ (j : Nat) t v, Try.f3.params[j]? = some t → args[j]? = some v → Value.okWide Try.prog W .any base t v := hval0
  have hW' := hW
  obtain ⟨p, q, hA0, hV, rfl, hfz, hnd⟩ := hW
  have hA : DataW.TrodAll enc Try.prog W 0 (fun _ => true) true Try.f3.params.toList args.toList ds p := hA0
  rw [Try.params3] at hA hval
  obtain ⟨v0, vs0, d0, ds0, p0, q0, hargs, rfl, rfl, h0, r0⟩ := trodAll_cons hA
  obtain ⟨rfl, rfl, rfl⟩ := trodAll_nil r0
  obtain rfl : args = #[v0] := by cases args; simp_all
  obtain ⟨rfl, rfl⟩ := trodVars_none hV
  have k0 := h0
  have lt0 : ∀ x ∈ p0, x.block < W.heap.size := by obtain ⟨m, hm⟩ := k0; exact DataW.trod_lt m _ _ _ hm
  obtain ⟨a00, len0, cap0, rfl⟩ := okWide_slice Try.underlying22 (hval 0 22 v0 rfl rfl)
  obtain ⟨A0, l0, c0, e0, ir0⟩ : ∃ A l c, Value.slice a00 len0 cap0 = .slice A (List.length l) c ∧ InCode W A l c := by obtain ⟨fuel, hf⟩ := h0; simp only [Value.cells] at hf; exact open_code hf
  rw [e0] at hval hW' k0 ⊢
  clear hA0 hval0
  refine (lawFkn_c A0 l0 c0 W ir0).mono fun e W' ⟨he, bel⟩ => ?_
  subst he
  exact ⟨_, rfl, _, _, _, [], _, [], hW', trodAll_mk1 (shut_bool Try.underlying4 _), (trodAll_cons_mk (Below.trod laidOut (by kernel_rfl) (of_decide_eq_true (by kernel_rfl)) k0 bel lt0) trodAll_mk0), rfl, bel.frame _, fun h => by cases h⟩

theorem fnKernels_closed : joinedFacts Try.pinned.checked.prog 3 Try.f3 Rows.fnKernelsSpec Rows.fnKernelsRow = true := by
  unfold joinedFacts
  rw [fLaid, fRowed, fStops, fEnter, fLift, fMake]
  change _ = true
  kernel_rfl
/-- The statement. -/
theorem fnKernels_holds : Rows.FnKernelsSaid :=
  OpenClaim.holds_of_wide 3 Try.f3 rfl rfl rfl rfl rfl rfl rfl ⟨rfl, rfl, rfl, rfl, rfl⟩ rfl rfl rfl rfl rfl (by kernel_rfl) Try.func3 fnKernels_closed
    (of_decide_eq_true (by kernel_rfl)) (by unfold Func.isWrapper; first | (rw [if_pos (by decide +kernel)]; kernel_rfl) | (rw [if_neg (by decide +kernel)]; exact ⟨rfl, rfl⟩))
    (fun os started H enc _ => fnKernels_lifted os started H enc)
end Go.Proofs.Ytbfkpfdkndnhkaa
