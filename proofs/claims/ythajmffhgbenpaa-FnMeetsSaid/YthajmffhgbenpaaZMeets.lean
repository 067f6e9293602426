/- The row of FnMeets: proved for every input, no condition beyond those of the row. -/
import Derived.Test.YthajmffhgbenpaaPkDr
import Derived.Test.YthajmffhgbenpaaPkKx
import Derived.Test.YthajmffhgbenpaaPkMa
import Derived.Test.YthajmffhgbenpaaPkMc
import Derived.Test.YthajmffhgbenpaaQFacts

namespace Go.Proofs.Ythajmffhgbenpaa
set_option linter.unusedSimpArgs false
set_option linter.unusedVariables false
open Go.RowKit
set_option linter.unusedVariables false

theorem ok_rows {m : MX} (h : m.ok = true) : 0 ≤ m.r ∧ m.r ≤ 24 ∧ m.l.length ≤ 576 := by
  obtain ⟨R, C, e1, _, hR, hC, hl, _⟩ := isMat_ok h
  have := Nat.mul_le_mul hR hC
  omega
/-- what the law needs -/
structure MeeN (a b s m : MX) (q : Int) : Prop where
  h1 : (crmO s a).isSome = true
  h2 : (crmO a m).isSome = true
  h3 : (crmO b m).isSome = true
  m1 : m.r + s.r = q
  m2 : a.r + b.r = q
  sr : 0 ≤ s.r ∧ s.r ≤ 24
  mr : 0 ≤ m.r ∧ m.r ≤ 24
  ar : 0 ≤ a.r ∧ a.r ≤ 24
  br : 0 ≤ b.r ∧ b.r ≤ 24
  idx : ∀ x y, idxO s a = some x → idxO b m = some y → x = y
theorem mee_names {a b s m : MX} (hs : sumO a b = some s) (hm : meetO a b = some m) (Ga : Gd a) (Gb : Gd b) (ta : tameB a.l = true) (tb : tameB b.l = true) : ∃ q, MeeN a b s m q := by
  obtain ⟨h1, h2, h3, h4, h5⟩ := meet_law hs hm Ga Gb ta tb
  have hlat : latB a.r a.c a.l = true ∧ latB b.r b.c b.l = true := by
    unfold sumO at hs
    split at hs
    · rename_i h
      rw [Bool.and_eq_true] at h
      exact h
    · cases hs
  have a1 := ok_rows (m := a) (latB_parts hlat.1).1
  have b1 := ok_rows (m := b) (latB_parts hlat.2).1
  have s1 := ok_rows (sumO_ok hs)
  have m1 := ok_rows (meetO_ok hm)
  exact ⟨_, h1, h2, h3, rfl, h4.symm, ⟨s1.1, s1.2.1⟩, ⟨m1.1, m1.2.1⟩, ⟨a1.1, a1.2.1⟩, ⟨b1.1, b1.2.1⟩, h5⟩
section
set_option maxHeartbeats 4000000
set_option maxRecDepth 100000
theorem lawMee_c (A : Option Addr) (lc : List Int) (cap : Nat) (w : World) (hi : InCode w A lc cap) :
    Calls Try.prog 3 #[.slice A lc.length cap] w fun e w' => e = .returned (.bool true) ∧ Grows w w' := by
  obtain ⟨hr, hc1, hc2⟩ := hi
  simp only [maxLen] at hc2
  have CB := big_c A lc.length cap w (by omega)
  by_cases hn : lc.length ≤ 1048576
  rotate_left
  · rw [decide_eq_true (by omega)] at CB
    have CB' := Lib.hid CB
    clear CB
    go_enter Try.func3, Try.ntmps3
    go_wp2_with fail
    refine CB'.out.mono ?_; rintro e w' ⟨rfl, rfl⟩
    go_wp2_with fail
    go_ret
    exact ⟨rfl, by exact bel0⟩
  · rw [decide_eq_false (by omega)] at CB
    have CB' := Lib.hid CB
    have CD := Lib.hid (drawMee_c A lc.length cap w hr hn)
    clear CB
    go_enter Try.func3, Try.ntmps3
    go_wp2_with fail
    refine CB'.out.mono ?_; rintro e w' ⟨rfl, h0⟩
    have h1 := h0.symm
    clear h0
    subst h1
    go_wp2_with fail
    refine CD.out.mono ?_; rintro e w2 ⟨r, c, V, cv, l, r2, c2, V2, cv2, l2, rfl, hl, hl2, hgd, hgd2, o2, o22, HG⟩
    have rd2 := o2.rd'
    have rd22 := o22.rd'
    obtain ⟨_, hcv, hcv2⟩ := o2.caps
    obtain ⟨_, hcw, hcw2⟩ := o22.caps
    have h_w2 := Below.size HG
    have CI := Lib.hid fun W h h' => (iSum_c r c r2 c2 V V2 l l2 l.length l2.length cv cv2 W rfl rfl hcv hcv2 hcw hcw2 h h' (by omega) (by omega)).mono fun _ _ h => matRet_out h
    have CS := Lib.hid fun W h h' => (sSum_c r c r2 c2 V V2 l l2 l.length l2.length cv cv2 W rfl rfl h h' (by omega) (by omega)).mono fun _ _ h => matRet_out h
    have CM := Lib.hid fun W h h' => (iMeet_c r c r2 c2 V V2 l l2 l.length l2.length cv cv2 W rfl rfl hcv hcv2 hcw hcw2 h h' (by omega) (by omega)).mono fun _ _ h => matRet_out h
    have CT := Lib.hid fun W h => tame_c r c V l cv W h (by omega)
    have CU := Lib.hid fun W h => tame_c r2 c2 V2 l2 cv2 W h (by omega)
    have HF := Lib.hid fun s m (hs : sumO ⟨r, c, l⟩ ⟨r2, c2, l2⟩ = some s) (hm : meetO ⟨r, c, l⟩ ⟨r2, c2, l2⟩ = some m) ta tb => mee_names hs hm hgd hgd2 ta tb
    have XS := Lib.hid fun (x : MX) (h : sumO ⟨r, c, l⟩ ⟨r2, c2, l2⟩ = some x) => (ok_rows (sumO_ok h)).2.2
    have XM := Lib.hid fun (x : MX) (h : meetO ⟨r, c, l⟩ ⟨r2, c2, l2⟩ = some x) => (ok_rows (meetO_ok h)).2.2
    have CP := Lib.hid fun (x : MX) A3 c3 W (h1 : x.l.length ≤ c3) (h2 : c3 ≤ 9223372036854775807) (hx : x.l.length ≤ 576) h h' => (iCrm_c x.r x.c r c A3 V x.l l x.l.length l.length c3 cv W rfl rfl h1 h2 hcv hcv2 h h' (by omega) (by omega)).mono fun _ _ h => matRet_out h
    have CQ := Lib.hid fun (x : MX) A3 c3 W (h1 : x.l.length ≤ c3) (h2 : c3 ≤ 9223372036854775807) (hx : x.l.length ≤ 576) h h' => (iCrm_c r c x.r x.c V A3 l x.l l.length x.l.length cv c3 W rfl rfl hcv hcv2 h1 h2 h h' (by omega) (by omega)).mono fun _ _ h => matRet_out h
    have CR := Lib.hid fun (x : MX) A3 c3 W (h1 : x.l.length ≤ c3) (h2 : c3 ≤ 9223372036854775807) (hx : x.l.length ≤ 576) h h' => (iCrm_c r2 c2 x.r x.c V2 A3 l2 x.l l2.length x.l.length cv2 c3 W rfl rfl hcw hcw2 h1 h2 h h' (by omega) (by omega)).mono fun _ _ h => matRet_out h
    have CX := Lib.hid fun (x : MX) A3 c3 W (h1 : x.l.length ≤ c3) (h2 : c3 ≤ 9223372036854775807) (hx : x.l.length ≤ 576) h h' => iIdx_c x.r x.c r c A3 V x.l l x.l.length l.length c3 cv W rfl rfl h1 h2 hcv hcv2 h h' (by omega) (by omega)
    have CY := Lib.hid fun (x : MX) A3 c3 W (h1 : x.l.length ≤ c3) (h2 : c3 ≤ 9223372036854775807) (hx : x.l.length ≤ 576) h h' => iIdx_c r2 c2 x.r x.c V2 A3 l2 x.l l2.length x.l.length cv2 c3 W rfl rfl hcw hcw2 h1 h2 h h' (by omega) (by omega)
    generalize sumO ⟨r, c, l⟩ ⟨r2, c2, l2⟩ = S at *
    generalize meetO ⟨r, c, l⟩ ⟨r2, c2, l2⟩ = Q at *
    generalize tameB l = ta at *
    generalize tameB l2 = tb at *
    obtain ⟨one, hone⟩ : ∃ x, S.isSome = x := ⟨_, rfl⟩
    obtain ⟨two, htwo⟩ : ∃ x, Q.isSome = x := ⟨_, rfl⟩
    simp only [hone] at CI CS
    simp only [htwo] at CM
    have HONE := Lib.hid hone
    have HTWO := Lib.hid htwo
    clear CD hr hc1 hc2 hn o2 o22 hgd hgd2 hcv hcv2 hcw hcw2 hone htwo
    go_wp2_with fail
    refine (CI.out _ (by exact Rd.grows rd2 (by exact bel0)) (by exact Rd.grows rd22 (by exact bel0))).mono ?_; rintro e w3 ⟨v3, rfl, o3, g_w3⟩
    have s_w3 := Below.size g_w3; (try simp at s_w3)
    replace rd2 := rd2.grows (w' := w3) (by exact bel1 g_w3)
    replace rd22 := rd22.grows (w' := w3) (by exact bel1 g_w3)
    have ma : MBox w3 (w2.heap.size) r c (.slice V l.length cv) := MBox.grows (MBox.new_ w2 r c (.slice V l.length cv) 26 (by simp)) (w' := w3) (by exact bel1 g_w3)
    have ma_0 := ma.c0; have ma_1 := ma.c1; have ma_2 := ma.c2; have ma_l := ma.lt; have ma_f := ma.fz
    have mb : MBox w3 (w2.heap.size + 1) r2 c2 (.slice V2 l2.length cv2) := MBox.grows (MBox.new_ (w2.alloc (.cells #[.int .i64 r, .int .i64 c, .slice V l.length cv] 26)) r2 c2 (.slice V2 l2.length cv2) 26 (by simp)) (w' := w3) (by exact bel1 g_w3)
    have mb_0 := mb.c0; have mb_1 := mb.c1; have mb_2 := mb.c2; have mb_l := mb.lt; have mb_f := mb.fz
    replace HG : Grows w w3 := by exact bel2 g_w3 HG
    have h_w3 := Below.size HG
    obtain ⟨A3, c3, rfl, rd3, _⟩ := o3.val
    obtain ⟨_, hc3, hc32⟩ := o3.caps
    go_wp2_with fail
    refine (CS.out _ (by exact Rd.grows rd2 (by exact bel0)) (by exact Rd.grows rd22 (by exact bel0))).mono ?_; rintro e w4 ⟨v4, rfl, o4, g_w4⟩
    have s_w4 := Below.size g_w4; (try simp at s_w4)
    replace rd2 := rd2.grows (w' := w4) (by exact bel1 g_w4)
    replace rd22 := rd22.grows (w' := w4) (by exact bel1 g_w4)
    clear ma_0 ma_1 ma_2 ma_l ma_f
    replace ma := ma.grows (w' := w4) (by exact bel1 g_w4)
    have ma_0 := ma.c0; have ma_1 := ma.c1; have ma_2 := ma.c2; have ma_l := ma.lt; have ma_f := ma.fz
    clear mb_0 mb_1 mb_2 mb_l mb_f
    replace mb := mb.grows (w' := w4) (by exact bel1 g_w4)
    have mb_0 := mb.c0; have mb_1 := mb.c1; have mb_2 := mb.c2; have mb_l := mb.lt; have mb_f := mb.fz
    replace rd3 := rd3.grows (w' := w4) (by exact bel1 g_w4)
    have ms : MBox w4 (w3.heap.size) (oM S).r (oM S).c (.slice A3 (oM S).l.length c3) := MBox.grows (MBox.new_ w3 (oM S).r (oM S).c (.slice A3 (oM S).l.length c3) 26 (by simp)) (w' := w4) (by exact bel1 g_w4)
    have ms_0 := ms.c0; have ms_1 := ms.c1; have ms_2 := ms.c2; have ms_l := ms.lt; have ms_f := ms.fz
    replace HG : Grows w w4 := by exact bel2 g_w4 HG
    have h_w4 := Below.size HG
    obtain ⟨A4, c4, rfl, _, _⟩ := o4.val
    go_wp2_with fail
    refine (CM.out _ (by exact Rd.grows rd2 (by exact bel0)) (by exact Rd.grows rd22 (by exact bel0))).mono ?_; rintro e w5 ⟨v5, rfl, o5, g_w5⟩
    have s_w5 := Below.size g_w5; (try simp at s_w5)
    replace rd2 := rd2.grows (w' := w5) (by exact bel1 g_w5)
    replace rd22 := rd22.grows (w' := w5) (by exact bel1 g_w5)
    clear ma_0 ma_1 ma_2 ma_l ma_f
    replace ma := ma.grows (w' := w5) (by exact bel1 g_w5)
    have ma_0 := ma.c0; have ma_1 := ma.c1; have ma_2 := ma.c2; have ma_l := ma.lt; have ma_f := ma.fz
    clear mb_0 mb_1 mb_2 mb_l mb_f
    replace mb := mb.grows (w' := w5) (by exact bel1 g_w5)
    have mb_0 := mb.c0; have mb_1 := mb.c1; have mb_2 := mb.c2; have mb_l := mb.lt; have mb_f := mb.fz
    replace rd3 := rd3.grows (w' := w5) (by exact bel1 g_w5)
    clear ms_0 ms_1 ms_2 ms_l ms_f
    replace ms := ms.grows (w' := w5) (by exact bel1 g_w5)
    have ms_0 := ms.c0; have ms_1 := ms.c1; have ms_2 := ms.c2; have ms_l := ms.lt; have ms_f := ms.fz
    have mt : MBox w5 (w4.heap.size) (oM S).r (oM S).c (.slice A4 (oM S).l.length c4) := MBox.grows (MBox.new_ w4 (oM S).r (oM S).c (.slice A4 (oM S).l.length c4) 26 (by simp)) (w' := w5) (by exact bel1 g_w5)
    have mt_0 := mt.c0; have mt_1 := mt.c1; have mt_2 := mt.c2; have mt_l := mt.lt; have mt_f := mt.fz
    replace HG : Grows w w5 := by exact bel2 g_w5 HG
    have h_w5 := Below.size HG
    obtain ⟨A5, c5, rfl, rd5, _⟩ := o5.val
    obtain ⟨_, hc5, hc52⟩ := o5.caps
    clear o3 o4 o5 CI CS CM
    clear mt_0 mt_1 mt_2 mt_l mt_f
    clear mt
    cases one
    · have hS : (oM S).l.length = 0 := by
        cases S with
        | none => rfl
        | some s => exact absurd HONE.out (by simp)
      go_wp2_with fail
      go_ret
      exact ⟨rfl, by exact bel1 HG⟩
    · cases two
      · go_wp2_with fail
        all_goals (go_ret; exact ⟨by first | rfl | simp, by exact bel1 HG⟩)
      · obtain ⟨s, rfl⟩ := Option.isSome_iff_exists.1 HONE.out
        obtain ⟨m, rfl⟩ := Option.isSome_iff_exists.1 HTWO.out
        have hs5 := XS.out s rfl
        have hm5 := XM.out m rfl
        simp only [oM_some] at *
        have HF' := Lib.hid fun (h1 : ta = true) (h2 : tb = true) => HF.out s m rfl rfl h1 h2
        have CP' := Lib.hid fun W h h' => CP.out s A3 c3 W hc3 hc32 hs5 h h'
        have CQ' := Lib.hid fun W h h' => CQ.out m A5 c5 W hc5 hc52 hm5 h h'
        have CR' := Lib.hid fun W h h' => CR.out m A5 c5 W hc5 hc52 hm5 h h'
        have CX' := Lib.hid fun W h h' => CX.out s A3 c3 W hc3 hc32 hs5 h h'
        have CY' := Lib.hid fun W h h' => CY.out m A5 c5 W hc5 hc52 hm5 h h'
        clear HF XS XM CP CQ CR CX CY HONE HTWO hc3 hc32 hc5 hc52
        obtain ⟨sr, sc, sl⟩ := s
        obtain ⟨mr, mc, ml⟩ := m
        simp only at *
        go_wp2_with fail
        refine (CT.out _ (by exact Rd.grows rd2 (by exact bel0))).mono ?_; rintro e w6 ⟨rfl, g_w6⟩
        have s_w6 := Below.size g_w6; (try simp at s_w6)
        replace rd2 := rd2.grows (w' := w6) (by exact bel1 g_w6)
        replace rd22 := rd22.grows (w' := w6) (by exact bel1 g_w6)
        clear ma_0 ma_1 ma_2 ma_l ma_f
        replace ma := ma.grows (w' := w6) (by exact bel1 g_w6)
        have ma_0 := ma.c0; have ma_1 := ma.c1; have ma_2 := ma.c2; have ma_l := ma.lt; have ma_f := ma.fz
        clear mb_0 mb_1 mb_2 mb_l mb_f
        replace mb := mb.grows (w' := w6) (by exact bel1 g_w6)
        have mb_0 := mb.c0; have mb_1 := mb.c1; have mb_2 := mb.c2; have mb_l := mb.lt; have mb_f := mb.fz
        replace rd3 := rd3.grows (w' := w6) (by exact bel1 g_w6)
        clear ms_0 ms_1 ms_2 ms_l ms_f
        replace ms := ms.grows (w' := w6) (by exact bel1 g_w6)
        have ms_0 := ms.c0; have ms_1 := ms.c1; have ms_2 := ms.c2; have ms_l := ms.lt; have ms_f := ms.fz
        replace rd5 := rd5.grows (w' := w6) (by exact bel1 g_w6)
        have mm : MBox w6 (w5.heap.size) mr mc (.slice A5 ml.length c5) := MBox.grows (MBox.new_ w5 mr mc (.slice A5 ml.length c5) 26 (by simp)) (w' := w6) (by exact bel1 g_w6)
        have mm_0 := mm.c0; have mm_1 := mm.c1; have mm_2 := mm.c2; have mm_l := mm.lt; have mm_f := mm.fz
        replace HG : Grows w w6 := by exact bel2 g_w6 HG
        have h_w6 := Below.size HG
        cases ta
        · go_wp2_with fail
          all_goals (go_ret; exact ⟨by first | rfl | simp, by exact bel1 HG⟩)
        · go_wp2_with fail
          refine (CU.out _ (by exact Rd.grows rd22 (by exact bel0))).mono ?_; rintro e w7 ⟨rfl, g_w7⟩
          have s_w7 := Below.size g_w7; (try simp at s_w7)
          replace rd2 := rd2.grows (w' := w7) (by exact bel1 g_w7)
          replace rd22 := rd22.grows (w' := w7) (by exact bel1 g_w7)
          clear ma_0 ma_1 ma_2 ma_l ma_f
          replace ma := ma.grows (w' := w7) (by exact bel1 g_w7)
          have ma_0 := ma.c0; have ma_1 := ma.c1; have ma_2 := ma.c2; have ma_l := ma.lt; have ma_f := ma.fz
          clear mb_0 mb_1 mb_2 mb_l mb_f
          replace mb := mb.grows (w' := w7) (by exact bel1 g_w7)
          have mb_0 := mb.c0; have mb_1 := mb.c1; have mb_2 := mb.c2; have mb_l := mb.lt; have mb_f := mb.fz
          replace rd3 := rd3.grows (w' := w7) (by exact bel1 g_w7)
          clear ms_0 ms_1 ms_2 ms_l ms_f
          replace ms := ms.grows (w' := w7) (by exact bel1 g_w7)
          have ms_0 := ms.c0; have ms_1 := ms.c1; have ms_2 := ms.c2; have ms_l := ms.lt; have ms_f := ms.fz
          replace rd5 := rd5.grows (w' := w7) (by exact bel1 g_w7)
          clear mm_0 mm_1 mm_2 mm_l mm_f
          replace mm := mm.grows (w' := w7) (by exact bel1 g_w7)
          have mm_0 := mm.c0; have mm_1 := mm.c1; have mm_2 := mm.c2; have mm_l := mm.lt; have mm_f := mm.fz
          replace HG : Grows w w7 := by exact bel2 g_w7 HG
          have h_w7 := Below.size HG
          cases tb
          · go_wp2_with fail
            all_goals (go_ret; exact ⟨by first | rfl | simp, by exact bel1 HG⟩)
          · obtain ⟨q, h1, h2, h3, hm1, hm2, hsr, hmr, har, hbr, hidx⟩ := HF'.out (by first | rfl | trivial) (by first | rfl | trivial)
            simp only at hm1 hm2 hsr hmr har hbr h1 h2 h3 hidx
            simp only [h1] at CP'
            simp only [h2] at CQ'
            simp only [h3] at CR'
            have k1 : IntKind.i64.wrap (mr + sr) = q := by rw [IntWalk.i64_in _ (by omega)]; exact hm1
            have k2 : IntKind.i64.wrap (r + r2) = q := by rw [IntWalk.i64_in _ (by omega)]; exact hm2
            have HI := Lib.hid hidx
            clear HF' h1 h2 h3 hm1 hm2 hidx CT CU
            generalize crmO ⟨sr, sc, sl⟩ ⟨r, c, l⟩ = PO at *
            generalize crmO ⟨r, c, l⟩ ⟨mr, mc, ml⟩ = QO at *
            generalize crmO ⟨r2, c2, l2⟩ ⟨mr, mc, ml⟩ = RO at *
            generalize idxO ⟨sr, sc, sl⟩ ⟨r, c, l⟩ = X at *
            generalize idxO ⟨r2, c2, l2⟩ ⟨mr, mc, ml⟩ = Y at *
            go_wp2_with fail
            refine (CP'.out _ (by exact Rd.grows rd3 (by exact bel0)) (by exact Rd.grows rd2 (by exact bel0))).mono ?_; rintro e w8 ⟨v8, rfl, o8, g_w8⟩
            have s_w8 := Below.size g_w8; (try simp at s_w8)
            replace rd2 := rd2.grows (w' := w8) (by exact bel1 g_w8)
            replace rd22 := rd22.grows (w' := w8) (by exact bel1 g_w8)
            clear ma_0 ma_1 ma_2 ma_l ma_f
            replace ma := ma.grows (w' := w8) (by exact bel1 g_w8)
            have ma_0 := ma.c0; have ma_1 := ma.c1; have ma_2 := ma.c2; have ma_l := ma.lt; have ma_f := ma.fz
            clear mb_0 mb_1 mb_2 mb_l mb_f
            replace mb := mb.grows (w' := w8) (by exact bel1 g_w8)
            have mb_0 := mb.c0; have mb_1 := mb.c1; have mb_2 := mb.c2; have mb_l := mb.lt; have mb_f := mb.fz
            replace rd3 := rd3.grows (w' := w8) (by exact bel1 g_w8)
            clear ms_0 ms_1 ms_2 ms_l ms_f
            replace ms := ms.grows (w' := w8) (by exact bel1 g_w8)
            have ms_0 := ms.c0; have ms_1 := ms.c1; have ms_2 := ms.c2; have ms_l := ms.lt; have ms_f := ms.fz
            replace rd5 := rd5.grows (w' := w8) (by exact bel1 g_w8)
            clear mm_0 mm_1 mm_2 mm_l mm_f
            replace mm := mm.grows (w' := w8) (by exact bel1 g_w8)
            have mm_0 := mm.c0; have mm_1 := mm.c1; have mm_2 := mm.c2; have mm_l := mm.lt; have mm_f := mm.fz
            replace HG : Grows w w8 := by exact bel2 g_w8 HG
            have h_w8 := Below.size HG
            obtain ⟨A8, c8, rfl, _, _⟩ := o8.val
            go_wp2_with fail
            refine (CQ'.out _ (by exact Rd.grows rd2 (by exact bel0)) (by exact Rd.grows rd5 (by exact bel0))).mono ?_; rintro e w9 ⟨v9, rfl, o9, g_w9⟩
            have s_w9 := Below.size g_w9; (try simp at s_w9)
            replace rd2 := rd2.grows (w' := w9) (by exact bel1 g_w9)
            replace rd22 := rd22.grows (w' := w9) (by exact bel1 g_w9)
            clear ma_0 ma_1 ma_2 ma_l ma_f
            replace ma := ma.grows (w' := w9) (by exact bel1 g_w9)
            have ma_0 := ma.c0; have ma_1 := ma.c1; have ma_2 := ma.c2; have ma_l := ma.lt; have ma_f := ma.fz
            clear mb_0 mb_1 mb_2 mb_l mb_f
            replace mb := mb.grows (w' := w9) (by exact bel1 g_w9)
            have mb_0 := mb.c0; have mb_1 := mb.c1; have mb_2 := mb.c2; have mb_l := mb.lt; have mb_f := mb.fz
            replace rd3 := rd3.grows (w' := w9) (by exact bel1 g_w9)
            clear ms_0 ms_1 ms_2 ms_l ms_f
            replace ms := ms.grows (w' := w9) (by exact bel1 g_w9)
            have ms_0 := ms.c0; have ms_1 := ms.c1; have ms_2 := ms.c2; have ms_l := ms.lt; have ms_f := ms.fz
            replace rd5 := rd5.grows (w' := w9) (by exact bel1 g_w9)
            clear mm_0 mm_1 mm_2 mm_l mm_f
            replace mm := mm.grows (w' := w9) (by exact bel1 g_w9)
            have mm_0 := mm.c0; have mm_1 := mm.c1; have mm_2 := mm.c2; have mm_l := mm.lt; have mm_f := mm.fz
            have mp : MBox w9 (w8.heap.size) (oM PO).r (oM PO).c (.slice A8 (oM PO).l.length c8) := MBox.grows (MBox.new_ w8 (oM PO).r (oM PO).c (.slice A8 (oM PO).l.length c8) 26 (by simp)) (w' := w9) (by exact bel1 g_w9)
            have mp_0 := mp.c0; have mp_1 := mp.c1; have mp_2 := mp.c2; have mp_l := mp.lt; have mp_f := mp.fz
            replace HG : Grows w w9 := by exact bel2 g_w9 HG
            have h_w9 := Below.size HG
            obtain ⟨A9, c9, rfl, _, _⟩ := o9.val
            go_wp2_with fail
            refine (CR'.out _ (by exact Rd.grows rd22 (by exact bel0)) (by exact Rd.grows rd5 (by exact bel0))).mono ?_; rintro e w10 ⟨v10, rfl, o10, g_w10⟩
            have s_w10 := Below.size g_w10; (try simp at s_w10)
            replace rd2 := rd2.grows (w' := w10) (by exact bel1 g_w10)
            replace rd22 := rd22.grows (w' := w10) (by exact bel1 g_w10)
            clear ma_0 ma_1 ma_2 ma_l ma_f
            replace ma := ma.grows (w' := w10) (by exact bel1 g_w10)
            have ma_0 := ma.c0; have ma_1 := ma.c1; have ma_2 := ma.c2; have ma_l := ma.lt; have ma_f := ma.fz
            clear mb_0 mb_1 mb_2 mb_l mb_f
            replace mb := mb.grows (w' := w10) (by exact bel1 g_w10)
            have mb_0 := mb.c0; have mb_1 := mb.c1; have mb_2 := mb.c2; have mb_l := mb.lt; have mb_f := mb.fz
            replace rd3 := rd3.grows (w' := w10) (by exact bel1 g_w10)
            clear ms_0 ms_1 ms_2 ms_l ms_f
            replace ms := ms.grows (w' := w10) (by exact bel1 g_w10)
            have ms_0 := ms.c0; have ms_1 := ms.c1; have ms_2 := ms.c2; have ms_l := ms.lt; have ms_f := ms.fz
            replace rd5 := rd5.grows (w' := w10) (by exact bel1 g_w10)
            clear mm_0 mm_1 mm_2 mm_l mm_f
            replace mm := mm.grows (w' := w10) (by exact bel1 g_w10)
            have mm_0 := mm.c0; have mm_1 := mm.c1; have mm_2 := mm.c2; have mm_l := mm.lt; have mm_f := mm.fz
            clear mp_0 mp_1 mp_2 mp_l mp_f
            replace mp := mp.grows (w' := w10) (by exact bel1 g_w10)
            have mp_0 := mp.c0; have mp_1 := mp.c1; have mp_2 := mp.c2; have mp_l := mp.lt; have mp_f := mp.fz
            have mq : MBox w10 (w9.heap.size) (oM QO).r (oM QO).c (.slice A9 (oM QO).l.length c9) := MBox.grows (MBox.new_ w9 (oM QO).r (oM QO).c (.slice A9 (oM QO).l.length c9) 26 (by simp)) (w' := w10) (by exact bel1 g_w10)
            have mq_0 := mq.c0; have mq_1 := mq.c1; have mq_2 := mq.c2; have mq_l := mq.lt; have mq_f := mq.fz
            replace HG : Grows w w10 := by exact bel2 g_w10 HG
            have h_w10 := Below.size HG
            obtain ⟨A10, c10, rfl, _, _⟩ := o10.val
            clear o8 o9 o10 CP' CQ' CR'
            clear mp_0 mp_1 mp_2 mp_l mp_f
            clear mq_0 mq_1 mq_2 mq_l mq_f
            clear mp mq
            go_wp2_with fail
            refine (CX'.out _ (by exact Rd.grows rd3 (by exact bel0)) (by exact Rd.grows rd2 (by exact bel0))).mono ?_; rintro e w11 ⟨rfl, g_w11⟩
            have s_w11 := Below.size g_w11; (try simp at s_w11)
            replace rd2 := rd2.grows (w' := w11) (by exact bel1 g_w11)
            replace rd22 := rd22.grows (w' := w11) (by exact bel1 g_w11)
            clear ma_0 ma_1 ma_2 ma_l ma_f
            replace ma := ma.grows (w' := w11) (by exact bel1 g_w11)
            have ma_0 := ma.c0; have ma_1 := ma.c1; have ma_2 := ma.c2; have ma_l := ma.lt; have ma_f := ma.fz
            clear mb_0 mb_1 mb_2 mb_l mb_f
            replace mb := mb.grows (w' := w11) (by exact bel1 g_w11)
            have mb_0 := mb.c0; have mb_1 := mb.c1; have mb_2 := mb.c2; have mb_l := mb.lt; have mb_f := mb.fz
            replace rd3 := rd3.grows (w' := w11) (by exact bel1 g_w11)
            clear ms_0 ms_1 ms_2 ms_l ms_f
            replace ms := ms.grows (w' := w11) (by exact bel1 g_w11)
            have ms_0 := ms.c0; have ms_1 := ms.c1; have ms_2 := ms.c2; have ms_l := ms.lt; have ms_f := ms.fz
            replace rd5 := rd5.grows (w' := w11) (by exact bel1 g_w11)
            clear mm_0 mm_1 mm_2 mm_l mm_f
            replace mm := mm.grows (w' := w11) (by exact bel1 g_w11)
            have mm_0 := mm.c0; have mm_1 := mm.c1; have mm_2 := mm.c2; have mm_l := mm.lt; have mm_f := mm.fz
            have mr' : MBox w11 (w10.heap.size) (oM RO).r (oM RO).c (.slice A10 (oM RO).l.length c10) := MBox.grows (MBox.new_ w10 (oM RO).r (oM RO).c (.slice A10 (oM RO).l.length c10) 26 (by simp)) (w' := w11) (by exact bel1 g_w11)
            have mr'_0 := mr'.c0; have mr'_1 := mr'.c1; have mr'_2 := mr'.c2; have mr'_l := mr'.lt; have mr'_f := mr'.fz
            replace HG : Grows w w11 := by exact bel2 g_w11 HG
            have h_w11 := Below.size HG
            go_wp2_with fail
            refine (CY'.out _ (by exact Rd.grows rd22 (by exact bel0)) (by exact Rd.grows rd5 (by exact bel0))).mono ?_; rintro e w12 ⟨rfl, g_w12⟩
            have s_w12 := Below.size g_w12; (try simp at s_w12)
            replace rd2 := rd2.grows (w' := w12) (by exact bel1 g_w12)
            replace rd22 := rd22.grows (w' := w12) (by exact bel1 g_w12)
            clear ma_0 ma_1 ma_2 ma_l ma_f
            replace ma := ma.grows (w' := w12) (by exact bel1 g_w12)
            have ma_0 := ma.c0; have ma_1 := ma.c1; have ma_2 := ma.c2; have ma_l := ma.lt; have ma_f := ma.fz
            clear mb_0 mb_1 mb_2 mb_l mb_f
            replace mb := mb.grows (w' := w12) (by exact bel1 g_w12)
            have mb_0 := mb.c0; have mb_1 := mb.c1; have mb_2 := mb.c2; have mb_l := mb.lt; have mb_f := mb.fz
            replace rd3 := rd3.grows (w' := w12) (by exact bel1 g_w12)
            clear ms_0 ms_1 ms_2 ms_l ms_f
            replace ms := ms.grows (w' := w12) (by exact bel1 g_w12)
            have ms_0 := ms.c0; have ms_1 := ms.c1; have ms_2 := ms.c2; have ms_l := ms.lt; have ms_f := ms.fz
            replace rd5 := rd5.grows (w' := w12) (by exact bel1 g_w12)
            clear mm_0 mm_1 mm_2 mm_l mm_f
            replace mm := mm.grows (w' := w12) (by exact bel1 g_w12)
            have mm_0 := mm.c0; have mm_1 := mm.c1; have mm_2 := mm.c2; have mm_l := mm.lt; have mm_f := mm.fz
            clear mr'_0 mr'_1 mr'_2 mr'_l mr'_f
            replace mr' := mr'.grows (w' := w12) (by exact bel1 g_w12)
            have mr'_0 := mr'.c0; have mr'_1 := mr'.c1; have mr'_2 := mr'.c2; have mr'_l := mr'.lt; have mr'_f := mr'.fz
            replace HG : Grows w w12 := by exact bel2 g_w12 HG
            have h_w12 := Below.size HG
            clear CX' CY'
            cases X with
            | none =>
              go_wp2_with fail
              all_goals (go_ret; exact ⟨by first | rfl | simp, by exact bel1 HG⟩)
            | some x =>
              cases Y with
              | none =>
                go_wp2_with fail
                all_goals (go_ret; exact ⟨by first | rfl | simp, by exact bel1 HG⟩)
              | some y =>
                obtain rfl : x = y := HI.out x y rfl rfl
                go_wp2_with fail
                all_goals (go_ret; exact ⟨by first | rfl | simp, by exact bel1 HG⟩)
end
end Go.Proofs.Ythajmffhgbenpaa


namespace Go.Proofs.Ythajmffhgbenpaa
set_option linter.unusedSimpArgs false
set_option linter.unusedVariables false
open Go.ChangeShapes Go.WideShapes Go.ChangeAt Go.RowKit Go.Joins
set_option linter.unusedVariables false

set_option maxRecDepth 100000 in
theorem fnMeets_lifted (os : Os) (started : os.Started) (H : Type) (enc : TypeId × Value → H) :
    ReturnsInHanded {} Try.checked os 3 .any (Rows.fnMeetsSpec.pre6 enc Try.prog Try.f3 Rows.fnMeetsRow.domain false) (Rows.fnMeetsSpec.post enc Try.prog Try.f3 false true false false) := by
  refine returnsInHanded_of_change (C := Try.checked) own started (by kernel_rfl) Try.func3
    (ChangeSpec.witness6 (enc := enc) (C := Try.checked) false ⟨#[], #[.slice none 0 0], []⟩ 8 (by kernel_rfl) (by kernel_rfl) (by kernel_rfl) (by kernel_rfl)) ?_
  intro W base args ds gs before hval0 hW hcnd _
  have hval : ∀ (j : Nat) t v, Try.f3.params[j]? = some t → args[j]? = some v → Value.okWide Try.prog W .any base t v := hval0
  have hW' := hW
  obtain ⟨p, q, hA0, hV, rfl, hfz, hnd⟩ := hW
  have hA : DataW.TrodAll enc Try.prog W 0 (fun _ => true) true Try.f3.params.toList args.toList ds p := hA0
  rw [Try.params3] at hA hval
  obtain ⟨v0, vs0, d0, ds0, p0, q0, hargs, rfl, rfl, h0, r0⟩ := trodAll_cons hA
  obtain ⟨rfl, rfl, rfl⟩ := trodAll_nil r0
  obtain rfl : args = #[v0] := by cases args; simp_all
  obtain ⟨rfl, rfl⟩ := trodVars_none hV
  have k0 := h0
  have lt0 : ∀ x ∈ p0, x.block < W.heap.size := by obtain ⟨m, hm⟩ := k0; exact DataW.trod_lt m _ _ _ hm
  obtain ⟨a00, len0, cap0, rfl⟩ := okWide_slice Try.underlying22 (hval 0 22 v0 rfl rfl)
  obtain ⟨A0, l0, c0, e0, ir0⟩ : ∃ A l c, Value.slice a00 len0 cap0 = .slice A (List.length l) c ∧ InCode W A l c := by obtain ⟨fuel, hf⟩ := h0; simp only [Value.cells] at hf; exact open_code hf
  rw [e0] at hval hW' k0 ⊢
  clear hA0 hval0
  refine (lawMee_c A0 l0 c0 W ir0).mono fun e W' ⟨he, bel⟩ => ?_
  subst he
  exact ⟨_, rfl, _, _, _, [], _, [], hW', trodAll_mk1 (shut_bool Try.underlying4 _), (trodAll_cons_mk (Below.trod laidOut (by kernel_rfl) (of_decide_eq_true (by kernel_rfl)) k0 bel lt0) trodAll_mk0), rfl, bel.frame _, fun h => by cases h⟩

theorem fnMeets_closed : joinedFacts Try.pinned.checked.prog 3 Try.f3 Rows.fnMeetsSpec Rows.fnMeetsRow = true := by
  unfold joinedFacts
  rw [fLaid, fRowed, fStops, fEnter, fLift, fMake]
  change _ = true
  kernel_rfl
/-- The statement. -/
theorem fnMeets_holds : Rows.FnMeetsSaid :=
  OpenClaim.holds_of_wide 3 Try.f3 rfl rfl rfl rfl rfl rfl rfl ⟨rfl, rfl, rfl, rfl, rfl⟩ rfl rfl rfl rfl rfl (by kernel_rfl) Try.func3 fnMeets_closed
    (of_decide_eq_true (by kernel_rfl)) (by unfold Func.isWrapper; first | (rw [if_pos (by decide +kernel)]; kernel_rfl) | (rw [if_neg (by decide +kernel)]; exact ⟨rfl, rfl⟩))
    (fun os started H enc _ => fnMeets_lifted os started H enc)
end Go.Proofs.Ythajmffhgbenpaa
