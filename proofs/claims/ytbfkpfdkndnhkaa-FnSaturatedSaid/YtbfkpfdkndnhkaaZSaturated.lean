/- The row of FnSaturated: proved for every input, no condition beyond those of the row. -/
import Derived.Test.YtbfkpfdkndnhkaaPkDr
import Derived.Test.YtbfkpfdkndnhkaaPkDt
import Derived.Test.YtbfkpfdkndnhkaaPkKx
import Derived.Test.YtbfkpfdkndnhkaaPkKz
import Derived.Test.YtbfkpfdkndnhkaaQFacts

namespace Go.Proofs.Ytbfkpfdkndnhkaa
set_option linter.unusedSimpArgs false
set_option linter.unusedVariables false
open Go.RowKit
set_option linter.unusedVariables false

/-- all that the law needs of a saturation and a basis -/
theorem sn_law {m s b : MX} (h : satO m = some s) (hb : basO m = some b) :
    ∃ (S C : Nat) (sl bl : List Int), s = ⟨S, C, sl⟩ ∧ b = ⟨S, C, bl⟩ ∧ S ≤ 24 ∧ C ≤ 24 ∧ sl.length ≤ 576 ∧ bl.length ≤ 576 ∧
      ((satO ⟨S, C, sl⟩).isSome = true → eqMat (oM (satO ⟨S, C, sl⟩)).r (oM (satO ⟨S, C, sl⟩)).c (oM (satO ⟨S, C, sl⟩)).l S C sl = true) ∧
      ((idxO ⟨S, C, sl⟩ ⟨S, C, bl⟩).isSome = true → 0 < oI (idxO ⟨S, C, sl⟩ ⟨S, C, bl⟩) ∧ ((isSatO m).getD false = true ↔ oI (idxO ⟨S, C, sl⟩ ⟨S, C, bl⟩) = 1)) ∧
      ∀ t x t' x', EchO ⟨S, C, sl⟩ t x → EchO ⟨S, C, bl⟩ t' x' → t = t' ∧ t ≤ S ∧ x.take (t * C) = x'.take (t * C) := by
  obtain ⟨S, C, sl, bl, rfl, rfl, _, hS, hC, h1, h2, _, _, hag, hix, hech⟩ := sat_law h hb
  refine ⟨S, C, sl, bl, rfl, rfl, hS, hC, h1, h2, fun hs => ?_, fun hs => ?_, hech⟩
  · obtain ⟨s2, hs2⟩ := Option.isSome_iff_exists.1 hs
    rw [hs2]
    have := hag s2 hs2
    subst this
    exact eqMat_same _ _ _
  · obtain ⟨n, hn⟩ := Option.isSome_iff_exists.1 hs
    obtain ⟨p1, p2⟩ := hix n hn
    rw [hn]
    have e : isSatO m = some (eqMat S C sl S C bl) := by unfold isSatO; rw [h, hb]; rfl
    rw [e]
    exact ⟨p1, (eqMat_iff (a := ⟨S, C, sl⟩) (b := ⟨S, C, bl⟩)).trans p2.symm⟩
section
set_option maxHeartbeats 8000000
set_option maxRecDepth 100000
theorem lawFsa_c (A : Option Addr) (lc : List Int) (cap : Nat) (w : World) (hi : InCode w A lc cap) :
    Calls Try.prog 5 #[.slice A lc.length cap] w fun e w' => e = .returned (.bool true) ∧ Grows w w' := by
  obtain ⟨hr, hc1, hc2⟩ := hi
  simp only [maxLen] at hc2
  have CB := big_c A lc.length cap w (by omega)
  by_cases hn : lc.length ≤ 1048576
  rotate_left
  · rw [decide_eq_true (by omega)] at CB
    have CB' := Lib.hid CB
    clear CB
    go_enter Try.func5, Try.ntmps5
    go_wp2_with fail
    refine CB'.out.mono ?_; rintro e w' ⟨rfl, rfl⟩
    go_wp2_with fail
    go_ret
    exact ⟨rfl, by exact bel0⟩
  · rw [decide_eq_false (by omega)] at CB
    have CB' := Lib.hid CB
    have CD := Lib.hid (matDrawSaturationOf_c A lc.length cap w hr hn)
    clear CB
    go_enter Try.func5, Try.ntmps5
    go_wp2_with fail
    refine CB'.out.mono ?_; rintro e w' ⟨rfl, h0⟩
    have h1 := h0.symm
    clear h0
    subst h1
    go_wp2_with fail
    refine CD.out.mono ?_; rintro e w2 ⟨r, c, V, cv, l, rfl, hrb, hl, o2, HG⟩
    have rd2 := o2.rd'
    have h_w2 := Below.size HG
    have CI := Lib.hid fun W h => (iSat_c r c V l l.length cv W rfl h (by omega)).mono fun _ _ h => matRet_out h
    have CS := Lib.hid fun W h => (sSat_c r c V l l.length cv W rfl h (by omega)).mono fun _ _ h => matRet_out h
    have CB2 := Lib.hid fun W h => (iBas_c r c V l l.length cv W rfl h (by omega)).mono fun _ _ h => matRet_out h
    have CT := Lib.hid fun W h => iIsSat_c r c V l l.length cv W rfl h (by omega)
    have HF := Lib.hid fun s b (h : satO ⟨r, c, l⟩ = some s) (hb : basO ⟨r, c, l⟩ = some b) => sn_law h hb
    generalize satO ⟨r, c, l⟩ = SO at *
    generalize basO ⟨r, c, l⟩ = BO at *
    generalize (isSatO ⟨r, c, l⟩).isSome = three at *
    generalize (isSatO ⟨r, c, l⟩).getD false = full at *
    clear CD hr hc1 hc2 o2 hrb
    go_wp2_with fail
    refine (CI.out _ (by exact Rd.grows rd2 (by exact bel0))).mono ?_; rintro e w3 ⟨v3, rfl, o3, g_w3⟩
    have s_w3 := Below.size g_w3; (try simp at s_w3)
    replace rd2 := rd2.grows (w' := w3) (by exact bel1 g_w3)
    have mm : MBox w3 (w2.heap.size) r c (.slice V l.length cv) := MBox.grows (MBox.new_ w2 r c (.slice V l.length cv) 26 (by simp)) (w' := w3) (by exact bel1 g_w3)
    have mm_0 := mm.c0; have mm_1 := mm.c1; have mm_2 := mm.c2; have mm_l := mm.lt; have mm_f := mm.fz
    replace HG : Grows w w3 := by exact bel2 g_w3 HG
    have h_w3 := Below.size HG
    obtain ⟨A3, c3, rfl, rd3, _⟩ := o3.val
    obtain ⟨_, hc3, hc32⟩ := o3.caps
    go_wp2_with fail
    refine (CS.out _ (by exact Rd.grows rd2 (by exact bel0))).mono ?_; rintro e w4 ⟨v4, rfl, o4, g_w4⟩
    have s_w4 := Below.size g_w4; (try simp at s_w4)
    replace rd2 := rd2.grows (w' := w4) (by exact bel1 g_w4)
    clear mm_0 mm_1 mm_2 mm_l mm_f
    replace mm := mm.grows (w' := w4) (by exact bel1 g_w4)
    have mm_0 := mm.c0; have mm_1 := mm.c1; have mm_2 := mm.c2; have mm_l := mm.lt; have mm_f := mm.fz
    replace rd3 := rd3.grows (w' := w4) (by exact bel1 g_w4)
    have ms : MBox w4 (w3.heap.size) (oM SO).r (oM SO).c (.slice A3 (oM SO).l.length c3) := MBox.grows (MBox.new_ w3 (oM SO).r (oM SO).c (.slice A3 (oM SO).l.length c3) 26 (by simp)) (w' := w4) (by exact bel1 g_w4)
    have ms_0 := ms.c0; have ms_1 := ms.c1; have ms_2 := ms.c2; have ms_l := ms.lt; have ms_f := ms.fz
    replace HG : Grows w w4 := by exact bel2 g_w4 HG
    have h_w4 := Below.size HG
    obtain ⟨A4, c4, rfl, _, _⟩ := o4.val
    clear o3 o4 CI CS
    go_wp2_with fail
    refine (CB2.out _ (by exact Rd.grows rd2 (by exact bel0))).mono ?_; rintro e w5 ⟨v5, rfl, o5, g_w5⟩
    have s_w5 := Below.size g_w5; (try simp at s_w5)
    replace rd2 := rd2.grows (w' := w5) (by exact bel1 g_w5)
    clear mm_0 mm_1 mm_2 mm_l mm_f
    replace mm := mm.grows (w' := w5) (by exact bel1 g_w5)
    have mm_0 := mm.c0; have mm_1 := mm.c1; have mm_2 := mm.c2; have mm_l := mm.lt; have mm_f := mm.fz
    replace rd3 := rd3.grows (w' := w5) (by exact bel1 g_w5)
    clear ms_0 ms_1 ms_2 ms_l ms_f
    replace ms := ms.grows (w' := w5) (by exact bel1 g_w5)
    have ms_0 := ms.c0; have ms_1 := ms.c1; have ms_2 := ms.c2; have ms_l := ms.lt; have ms_f := ms.fz
    replace HG : Grows w w5 := by exact bel2 g_w5 HG
    have h_w5 := Below.size HG
    obtain ⟨A5, c5, rfl, rd5, _⟩ := o5.val
    obtain ⟨_, hc5, hc52⟩ := o5.caps
    clear o5 CB2
    obtain ⟨w6, hw6⟩ : ∃ w6, w6 = w5.alloc (.cells #[.int .i64 (oM BO).r, .int .i64 (oM BO).c, .slice A5 (oM BO).l.length c5] 26) := ⟨_, rfl⟩
    have mb : MBox w6 w5.heap.size (oM BO).r (oM BO).c (.slice A5 (oM BO).l.length c5) := by rw [hw6]; exact MBox.mk_ _ _ _ _ _
    have g56 : Grows w5 w6 := by rw [hw6]; exact bel0
    have HW6 := Lib.hid hw6
    clear hw6
    have s_w6 := Below.size g56; (try simp at s_w6)
    replace rd2 := rd2.grows (w' := w6) (by exact bel1 g56)
    clear mm_0 mm_1 mm_2 mm_l mm_f
    replace mm := mm.grows (w' := w6) (by exact bel1 g56)
    have mm_0 := mm.c0; have mm_1 := mm.c1; have mm_2 := mm.c2; have mm_l := mm.lt; have mm_f := mm.fz
    replace rd3 := rd3.grows (w' := w6) (by exact bel1 g56)
    clear ms_0 ms_1 ms_2 ms_l ms_f
    replace ms := ms.grows (w' := w6) (by exact bel1 g56)
    have ms_0 := ms.c0; have ms_1 := ms.c1; have ms_2 := ms.c2; have ms_l := ms.lt; have ms_f := ms.fz
    replace rd5 := rd5.grows (w' := w6) (by exact bel1 g56)
    replace HG : Grows w w6 := by exact bel2 g56 HG
    have h_w6 := Below.size HG
    go_upto_region 9 with fail
    rw [← HW6.out]
    cases SO with
    | none =>
      have e1 : (oM (none : Option MX)).l.length = 0 := rfl
      clear HF
      rw [e1] at ms_2 ⊢
      simp only [Option.isSome_none]
      go_wp2_with fail
      go_ret
      exact ⟨rfl, by exact bel1 HG⟩
    | some s => cases BO with
      | none =>
        clear HF
        simp only [Option.isSome_none, Option.isSome_some]
        go_wp2_with fail
        go_ret
        exact ⟨rfl, by exact bel1 HG⟩
      | some b =>
        obtain ⟨S, C, sl, bl, rfl, rfl, hS, hC, hsl, hbl, hag, hix, hech⟩ := HF.out s b rfl rfl
        have ms : MBox w6 w3.heap.size S C (.slice A3 sl.length c3) := ms
        have mb : MBox w6 w5.heap.size S C (.slice A5 bl.length c5) := mb
        have rd3 : Rd w6 A3 sl := rd3
        have rd5 : Rd w6 A5 bl := rd5
        have hc3 : sl.length ≤ c3 := hc3
        have hc5 : bl.length ≤ c5 := hc5
        clear ms_0 ms_1 ms_2 ms_l ms_f HF
        have ms_0 := ms.c0; have ms_1 := ms.c1; have ms_2 := ms.c2; have ms_l := ms.lt; have ms_f := ms.fz
        have mb_0 := mb.c0; have mb_1 := mb.c1; have mb_2 := mb.c2; have mb_l := mb.lt; have mb_f := mb.fz
        have CA := Lib.hid fun W h => (iSat_c S C A3 sl sl.length c3 W rfl h (by omega)).mono fun _ _ h => matRet_out h
        have CX := Lib.hid fun W h h' => iIdx_c S C S C A3 A5 sl bl sl.length bl.length c3 c5 W rfl rfl hc3 hc32 hc5 hc52 h h' (by omega) (by omega)
        have CP := Lib.hid fun W h h' => iSpc_c S C S A3 A5 sl bl sl.length bl.length c3 c5 W rfl rfl h h' (by omega) (by omega) hech
        have hGl : (oM (satO ⟨S, C, sl⟩)).l.length ≤ 576 := oM_length fun m h => satO_ok h
        generalize satO ⟨S, C, sl⟩ = GO at *
        generalize GO.isSome = one at *
        generalize oM GO = G at *
        generalize idxO ⟨S, C, sl⟩ ⟨S, C, bl⟩ = XO at *
        have CX2 := Lib.hid fun W h h' => (show Calls Try.prog 24 #[.agg #[.int .i64 S, .int .i64 C, .slice A3 sl.length c3], .agg #[.int .i64 S, .int .i64 C, .slice A5 bl.length c5]] W (fun e w' => e = .returned (.tuple #[.int .i64 (oI XO), .bool XO.isSome]) ∧ Grows W w') from CX.out W h h')
        generalize XO.isSome = two at *
        generalize oI XO = n at *
        have CE := fun W A ca h h' => sameMatrix_c G.r G.c S C A A3 G.l sl G.l.length sl.length ca c3 W rfl rfl h h' (by omega) (by omega)
        generalize eqMat G.r G.c G.l S C sl = eq2 at *
        have CE2 := Lib.hid CE
        have HAG := Lib.hid hag
        have HIX := Lib.hid hix
        clear hag hix hech CX CE
        go_wp2_with fail
        refine (CA.out _ (by exact Rd.grows rd3 (by exact bel0))).mono ?_; rintro e w7 ⟨v7, rfl, o7, g_w7⟩
        have s_w7 := Below.size g_w7; (try simp at s_w7)
        replace rd2 := rd2.grows (w' := w7) (by exact bel1 g_w7)
        clear mm_0 mm_1 mm_2 mm_l mm_f
        replace mm := mm.grows (w' := w7) (by exact bel1 g_w7)
        have mm_0 := mm.c0; have mm_1 := mm.c1; have mm_2 := mm.c2; have mm_l := mm.lt; have mm_f := mm.fz
        replace rd3 := rd3.grows (w' := w7) (by exact bel1 g_w7)
        clear ms_0 ms_1 ms_2 ms_l ms_f
        replace ms := ms.grows (w' := w7) (by exact bel1 g_w7)
        have ms_0 := ms.c0; have ms_1 := ms.c1; have ms_2 := ms.c2; have ms_l := ms.lt; have ms_f := ms.fz
        replace rd5 := rd5.grows (w' := w7) (by exact bel1 g_w7)
        clear mb_0 mb_1 mb_2 mb_l mb_f
        replace mb := mb.grows (w' := w7) (by exact bel1 g_w7)
        have mb_0 := mb.c0; have mb_1 := mb.c1; have mb_2 := mb.c2; have mb_l := mb.lt; have mb_f := mb.fz
        replace HG : Grows w w7 := by exact bel2 g_w7 HG
        have h_w7 := Below.size HG
        obtain ⟨A7, c7, rfl, rd7, _⟩ := o7.val
        clear o7 CA
        go_wp2_with fail
        refine (CX2.out _ (by exact Rd.grows rd3 (by exact bel0)) (by exact Rd.grows rd5 (by exact bel0))).mono ?_; rintro e w8 ⟨rfl, g_w8⟩
        have s_w8 := Below.size g_w8; (try simp at s_w8)
        replace rd2 := rd2.grows (w' := w8) (by exact bel1 g_w8)
        clear mm_0 mm_1 mm_2 mm_l mm_f
        replace mm := mm.grows (w' := w8) (by exact bel1 g_w8)
        have mm_0 := mm.c0; have mm_1 := mm.c1; have mm_2 := mm.c2; have mm_l := mm.lt; have mm_f := mm.fz
        replace rd3 := rd3.grows (w' := w8) (by exact bel1 g_w8)
        clear ms_0 ms_1 ms_2 ms_l ms_f
        replace ms := ms.grows (w' := w8) (by exact bel1 g_w8)
        have ms_0 := ms.c0; have ms_1 := ms.c1; have ms_2 := ms.c2; have ms_l := ms.lt; have ms_f := ms.fz
        replace rd5 := rd5.grows (w' := w8) (by exact bel1 g_w8)
        clear mb_0 mb_1 mb_2 mb_l mb_f
        replace mb := mb.grows (w' := w8) (by exact bel1 g_w8)
        have mb_0 := mb.c0; have mb_1 := mb.c1; have mb_2 := mb.c2; have mb_l := mb.lt; have mb_f := mb.fz
        replace rd7 := rd7.grows (w' := w8) (by exact bel1 g_w8)
        have mg : MBox w8 (w7.heap.size) G.r G.c (.slice A7 G.l.length c7) := MBox.grows (MBox.new_ w7 G.r G.c (.slice A7 G.l.length c7) 26 (by simp)) (w' := w8) (by exact bel1 g_w8)
        have mg_0 := mg.c0; have mg_1 := mg.c1; have mg_2 := mg.c2; have mg_l := mg.lt; have mg_f := mg.fz
        replace HG : Grows w w8 := by exact bel2 g_w8 HG
        have h_w8 := Below.size HG
        clear CX2
        go_wp2_with fail
        refine (CT.out _ (by exact Rd.grows rd2 (by exact bel0))).mono ?_; rintro e w9 ⟨rfl, g_w9⟩
        have s_w9 := Below.size g_w9; (try simp at s_w9)
        replace rd2 := rd2.grows (w' := w9) (by exact bel1 g_w9)
        clear mm_0 mm_1 mm_2 mm_l mm_f
        replace mm := mm.grows (w' := w9) (by exact bel1 g_w9)
        have mm_0 := mm.c0; have mm_1 := mm.c1; have mm_2 := mm.c2; have mm_l := mm.lt; have mm_f := mm.fz
        replace rd3 := rd3.grows (w' := w9) (by exact bel1 g_w9)
        clear ms_0 ms_1 ms_2 ms_l ms_f
        replace ms := ms.grows (w' := w9) (by exact bel1 g_w9)
        have ms_0 := ms.c0; have ms_1 := ms.c1; have ms_2 := ms.c2; have ms_l := ms.lt; have ms_f := ms.fz
        replace rd5 := rd5.grows (w' := w9) (by exact bel1 g_w9)
        clear mb_0 mb_1 mb_2 mb_l mb_f
        replace mb := mb.grows (w' := w9) (by exact bel1 g_w9)
        have mb_0 := mb.c0; have mb_1 := mb.c1; have mb_2 := mb.c2; have mb_l := mb.lt; have mb_f := mb.fz
        replace rd7 := rd7.grows (w' := w9) (by exact bel1 g_w9)
        clear mg_0 mg_1 mg_2 mg_l mg_f
        replace mg := mg.grows (w' := w9) (by exact bel1 g_w9)
        have mg_0 := mg.c0; have mg_1 := mg.c1; have mg_2 := mg.c2; have mg_l := mg.lt; have mg_f := mg.fz
        replace HG : Grows w w9 := by exact bel2 g_w9 HG
        have h_w9 := Below.size HG
        clear CT
        go_wp2_with fail
        refine (CP.out _ (by exact Rd.grows rd3 (by exact bel0)) (by exact Rd.grows rd5 (by exact bel0))).mono ?_; rintro e w10 ⟨four, rfl, g_w10⟩
        have s_w10 := Below.size g_w10; (try simp at s_w10)
        replace rd2 := rd2.grows (w' := w10) (by exact bel1 g_w10)
        clear mm_0 mm_1 mm_2 mm_l mm_f
        replace mm := mm.grows (w' := w10) (by exact bel1 g_w10)
        have mm_0 := mm.c0; have mm_1 := mm.c1; have mm_2 := mm.c2; have mm_l := mm.lt; have mm_f := mm.fz
        replace rd3 := rd3.grows (w' := w10) (by exact bel1 g_w10)
        clear ms_0 ms_1 ms_2 ms_l ms_f
        replace ms := ms.grows (w' := w10) (by exact bel1 g_w10)
        have ms_0 := ms.c0; have ms_1 := ms.c1; have ms_2 := ms.c2; have ms_l := ms.lt; have ms_f := ms.fz
        replace rd5 := rd5.grows (w' := w10) (by exact bel1 g_w10)
        clear mb_0 mb_1 mb_2 mb_l mb_f
        replace mb := mb.grows (w' := w10) (by exact bel1 g_w10)
        have mb_0 := mb.c0; have mb_1 := mb.c1; have mb_2 := mb.c2; have mb_l := mb.lt; have mb_f := mb.fz
        replace rd7 := rd7.grows (w' := w10) (by exact bel1 g_w10)
        clear mg_0 mg_1 mg_2 mg_l mg_f
        replace mg := mg.grows (w' := w10) (by exact bel1 g_w10)
        have mg_0 := mg.c0; have mg_1 := mg.c1; have mg_2 := mg.c2; have mg_l := mg.lt; have mg_f := mg.fz
        replace HG : Grows w w10 := by exact bel2 g_w10 HG
        have h_w10 := Below.size HG
        clear CP
        have hag := HAG.out
        have hix := HIX.out
        clear HAG HIX
        go_upto_region 15 with fail
        cases one
        · clear hag CE2
          cases two
          case' false => clear hix
          case' true =>
            obtain ⟨hn0, hn1⟩ := hix rfl
            clear hix
            have hn2 := eq_true hn0
          all_goals cases three
          all_goals cases full
          all_goals first | (have hn3 : n = 1 := hn1.1 rfl) | (have hn3 : ¬ n = 1 := fun h => Bool.noConfusion (hn1.2 h)) | skip
          all_goals first | clear hn1 | skip
          all_goals cases four
          all_goals
            go_wp2_with fail
            go_ret
            exact ⟨by first | rfl | (simp; done) | (simp; omega), by exact bel1 HG⟩
        · obtain rfl := hag rfl
          clear hag
          cases two
          case' false => clear hix
          case' true =>
            obtain ⟨hn0, hn1⟩ := hix rfl
            clear hix
            have hn2 := eq_true hn0
          all_goals cases three
          all_goals cases full
          all_goals first | (have hn3 : n = 1 := hn1.1 rfl) | (have hn3 : ¬ n = 1 := fun h => Bool.noConfusion (hn1.2 h)) | skip
          all_goals first | clear hn1 | skip
          all_goals cases four
          all_goals
            go_wp2_with fail
            refine (CE2.out _ _ _ (by exact Rd.grows rd7 (by exact bel0)) (by exact Rd.grows rd3 (by exact bel0))).mono ?_; rintro e w11 ⟨rfl, g_w11⟩
            have s_w11 := Below.size g_w11; (try simp at s_w11)
            replace rd2 := rd2.grows (w' := w11) (by exact bel1 g_w11)
            clear mm_0 mm_1 mm_2 mm_l mm_f
            replace mm := mm.grows (w' := w11) (by exact bel1 g_w11)
            have mm_0 := mm.c0; have mm_1 := mm.c1; have mm_2 := mm.c2; have mm_l := mm.lt; have mm_f := mm.fz
            replace rd3 := rd3.grows (w' := w11) (by exact bel1 g_w11)
            clear ms_0 ms_1 ms_2 ms_l ms_f
            replace ms := ms.grows (w' := w11) (by exact bel1 g_w11)
            have ms_0 := ms.c0; have ms_1 := ms.c1; have ms_2 := ms.c2; have ms_l := ms.lt; have ms_f := ms.fz
            replace rd5 := rd5.grows (w' := w11) (by exact bel1 g_w11)
            clear mb_0 mb_1 mb_2 mb_l mb_f
            replace mb := mb.grows (w' := w11) (by exact bel1 g_w11)
            have mb_0 := mb.c0; have mb_1 := mb.c1; have mb_2 := mb.c2; have mb_l := mb.lt; have mb_f := mb.fz
            replace rd7 := rd7.grows (w' := w11) (by exact bel1 g_w11)
            clear mg_0 mg_1 mg_2 mg_l mg_f
            replace mg := mg.grows (w' := w11) (by exact bel1 g_w11)
            have mg_0 := mg.c0; have mg_1 := mg.c1; have mg_2 := mg.c2; have mg_l := mg.lt; have mg_f := mg.fz
            replace HG : Grows w w11 := by exact bel2 g_w11 HG
            have h_w11 := Below.size HG
            go_wp2_with fail
            go_ret
            exact ⟨by first | rfl | (simp; done) | (simp; omega), by exact bel1 HG⟩
end
end Go.Proofs.Ytbfkpfdkndnhkaa


namespace Go.Proofs.Ytbfkpfdkndnhkaa
set_option linter.unusedSimpArgs false
set_option linter.unusedVariables false
open Go.ChangeShapes Go.WideShapes Go.ChangeAt Go.RowKit Go.Joins
set_option linter.unusedVariables false

set_option maxRecDepth 100000 in
theorem fnSaturated_lifted (os : Os) (started : os.Started) (H : Type) (enc : TypeId × Value → H) :
    ReturnsInHanded {} Try.checked os 5 .any (Rows.fnSaturatedSpec.pre6 enc Try.prog Try.f5 Rows.fnSaturatedRow.domain false) (Rows.fnSaturatedSpec.post enc Try.prog Try.f5 false true false false) := by
  refine returnsInHanded_of_change (C := Try.checked) own started (by kernel_rfl) Try.func5
    (ChangeSpec.witness6 (enc := enc) (C := Try.checked) false ⟨#[], #[.slice none 0 0], []⟩ 8 (by kernel_rfl) (by kernel_rfl) (by kernel_rfl) (by kernel_rfl)) ?_
  intro W base args ds gs before hval0 hW hcnd _
  have hval : ∀ (j : Nat) t v, Try.f5.params[j]? = some t → args[j]? = some v → Value.okWide Try.prog W .any base t v := hval0
  have hW' := hW
  obtain ⟨p, q, hA0, hV, rfl, hfz, hnd⟩ := hW
  have hA : DataW.TrodAll enc Try.prog W 0 (fun _ => true) true Try.f5.params.toList args.toList ds p := hA0
  rw [Try.params5] at hA hval
  obtain ⟨v0, vs0, d0, ds0, p0, q0, hargs, rfl, rfl, h0, r0⟩ := trodAll_cons hA
  obtain ⟨rfl, rfl, rfl⟩ := trodAll_nil r0
  obtain rfl : args = #[v0] := by cases args; simp_all
  obtain ⟨rfl, rfl⟩ := trodVars_none hV
  have k0 := h0
  have lt0 : ∀ x ∈ p0, x.block < W.heap.size := by obtain ⟨m, hm⟩ := k0; exact DataW.trod_lt m _ _ _ hm
  obtain ⟨a00, len0, cap0, rfl⟩ := okWide_slice Try.underlying22 (hval 0 22 v0 rfl rfl)
  obtain ⟨A0, l0, c0, e0, ir0⟩ : ∃ A l c, Value.slice a00 len0 cap0 = .slice A (List.length l) c ∧ InCode W A l c := by obtain ⟨fuel, hf⟩ := h0; simp only [Value.cells] at hf; exact open_code hf
  rw [e0] at hval hW' k0 ⊢
  clear hA0 hval0
  refine (lawFsa_c A0 l0 c0 W ir0).mono fun e W' ⟨he, bel⟩ => ?_
  subst he
  exact ⟨_, rfl, _, _, _, [], _, [], hW', trodAll_mk1 (shut_bool Try.underlying4 _), (trodAll_cons_mk (Below.trod laidOut (by kernel_rfl) (of_decide_eq_true (by kernel_rfl)) k0 bel lt0) trodAll_mk0), rfl, bel.frame _, fun h => by cases h⟩

theorem fnSaturated_closed : joinedFacts Try.pinned.checked.prog 5 Try.f5 Rows.fnSaturatedSpec Rows.fnSaturatedRow = true := by
  unfold joinedFacts
  rw [fLaid, fRowed, fStops, fEnter, fLift, fMake]
  change _ = true
  kernel_rfl
/-- The statement. -/
theorem fnSaturated_holds : Rows.FnSaturatedSaid :=
  OpenClaim.holds_of_wide 5 Try.f5 rfl rfl rfl rfl rfl rfl rfl ⟨rfl, rfl, rfl, rfl, rfl⟩ rfl rfl rfl rfl rfl (by kernel_rfl) Try.func5 fnSaturated_closed
    (of_decide_eq_true (by kernel_rfl)) (by unfold Func.isWrapper; first | (rw [if_pos (by decide +kernel)]; kernel_rfl) | (rw [if_neg (by decide +kernel)]; exact ⟨rfl, rfl⟩))
    (fun os started H enc _ => fnSaturated_lifted os started H enc)
end Go.Proofs.Ytbfkpfdkndnhkaa
