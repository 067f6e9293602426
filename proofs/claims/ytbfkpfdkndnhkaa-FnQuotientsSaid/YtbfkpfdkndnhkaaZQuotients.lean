/- The row of FnQuotients: proved for every input, no condition beyond those of the row. -/
import Derived.Test.YtbfkpfdkndnhkaaPkDq
import Derived.Test.YtbfkpfdkndnhkaaPkDr
import Derived.Test.YtbfkpfdkndnhkaaPkKx
import Derived.Test.YtbfkpfdkndnhkaaPkSe
import Derived.Test.YtbfkpfdkndnhkaaPkSf
import Derived.Test.YtbfkpfdkndnhkaaQFacts

namespace Go.Proofs.Ytbfkpfdkndnhkaa
set_option linter.unusedSimpArgs false
set_option linter.unusedVariables false
open Go.RowKit
set_option linter.unusedVariables false

section
set_option maxHeartbeats 8000000
set_option maxRecDepth 100000
theorem lawFqu_c (A : Option Addr) (lc : List Int) (cap : Nat) (w : World) (hi : InCode w A lc cap) :
    Calls Try.prog 6 #[.slice A lc.length cap] w fun e w' => e = .returned (.bool true) ∧ Grows w w' := by
  obtain ⟨hr, hc1, hc2⟩ := hi
  simp only [maxLen] at hc2
  have CB := big_c A lc.length cap w (by omega)
  by_cases hn : lc.length ≤ 1048576
  rotate_left
  · rw [decide_eq_true (by omega)] at CB
    have CB' := Lib.hid CB
    clear CB
    go_enter Try.func6, Try.ntmps6
    go_wp2_with fail
    refine CB'.out.mono ?_; rintro e w' ⟨rfl, rfl⟩
    go_wp2_with fail
    go_ret
    exact ⟨rfl, by exact bel0⟩
  · rw [decide_eq_false (by omega)] at CB
    have CB' := Lib.hid CB
    have CD := Lib.hid (drawQuo_c A lc.length cap w hr hn)
    clear CB
    go_enter Try.func6, Try.ntmps6
    go_wp2_with fail
    refine CB'.out.mono ?_; rintro e w' ⟨rfl, h0⟩
    have h1 := h0.symm
    clear h0
    subst h1
    go_wp2_with fail
    refine CD.out.mono ?_; rintro e w2 ⟨r, c, V, cv, l, r2, c2, V2, cv2, l2, rfl, hl, hl2, o2, o22, HG⟩
    have rd2 := o2.rd'
    have rd22 := o22.rd'
    obtain ⟨_, hcv, hcv2⟩ := o2.caps
    obtain ⟨_, hcw, hcw2⟩ := o22.caps
    have h_w2 := Below.size HG
    have CI := Lib.hid fun W h h' => (iQuo_c r c r2 c2 V V2 l l2 l.length l2.length cv cv2 W rfl rfl hcv hcv2 hcw hcw2 h h' (by omega) (by omega)).mono fun _ _ h => quoRet_out h
    have CS := Lib.hid fun W h h' => (sQuo_c r c r2 c2 V V2 l l2 l.length l2.length cv cv2 W rfl rfl hcw hcw2 h h' (by omega) (by omega)).mono fun _ _ h => quoRet_out h
    have HF := Lib.hid fun q (h : quoO ⟨r, c, l⟩ ⟨r2, c2, l2⟩ = some q) => qn_law h
    generalize quoO ⟨r, c, l⟩ ⟨r2, c2, l2⟩ = QO at *
    clear CD hr hc1 hc2 o2 o22
    go_wp2_with fail
    cases QO with
    | none =>
      have e0 : qoL (none : Option (List Int × Int)) = [] := rfl
      have e1 : qoN (none : Option (List Int × Int)) = 0 := rfl
      rw [e0, e1] at CI CS
      clear HF e0 e1
      refine (CI.out _ (by exact Rd.grows rd2 (by exact bel0)) (by exact Rd.grows rd22 (by exact bel0))).mono ?_; rintro e w3 ⟨v3, rfl, o3, g_w3⟩
      have s_w3 := Below.size g_w3; (try simp at s_w3)
      replace rd2 := rd2.grows (w' := w3) (by exact bel1 g_w3)
      replace rd22 := rd22.grows (w' := w3) (by exact bel1 g_w3)
      have ml : MBox w3 (w2.heap.size) r c (.slice V l.length cv) := MBox.grows (MBox.new_ w2 r c (.slice V l.length cv) 26 (by simp)) (w' := w3) (by exact bel1 g_w3)
      have ml_0 := ml.c0; have ml_1 := ml.c1; have ml_2 := ml.c2; have ml_l := ml.lt; have ml_f := ml.fz
      have ms : MBox w3 (w2.heap.size + 1) r2 c2 (.slice V2 l2.length cv2) := MBox.grows (MBox.new_ (w2.alloc (.cells #[.int .i64 r, .int .i64 c, .slice V l.length cv] 26)) r2 c2 (.slice V2 l2.length cv2) 26 (by simp)) (w' := w3) (by exact bel1 g_w3)
      have ms_0 := ms.c0; have ms_1 := ms.c1; have ms_2 := ms.c2; have ms_l := ms.lt; have ms_f := ms.fz
      replace HG : Grows w w3 := by exact bel2 g_w3 HG
      have h_w3 := Below.size HG
      obtain ⟨A3, c3, rfl, rd3, _⟩ := o3.val
      go_wp2_with fail
      refine (CS.out _ (by exact Rd.grows rd2 (by exact bel0)) (by exact Rd.grows rd22 (by exact bel0))).mono ?_; rintro e w4 ⟨v4, rfl, o4, g_w4⟩
      have s_w4 := Below.size g_w4; (try simp at s_w4)
      replace rd2 := rd2.grows (w' := w4) (by exact bel1 g_w4)
      replace rd22 := rd22.grows (w' := w4) (by exact bel1 g_w4)
      clear ml_0 ml_1 ml_2 ml_l ml_f
      replace ml := ml.grows (w' := w4) (by exact bel1 g_w4)
      have ml_0 := ml.c0; have ml_1 := ml.c1; have ml_2 := ml.c2; have ml_l := ml.lt; have ml_f := ml.fz
      clear ms_0 ms_1 ms_2 ms_l ms_f
      replace ms := ms.grows (w' := w4) (by exact bel1 g_w4)
      have ms_0 := ms.c0; have ms_1 := ms.c1; have ms_2 := ms.c2; have ms_l := ms.lt; have ms_f := ms.fz
      replace HG : Grows w w4 := by exact bel2 g_w4 HG
      have h_w4 := Below.size HG
      obtain ⟨A4, c4, rfl, rd4, _⟩ := o4.val
      go_wp2_with fail
      go_ret
      exact ⟨by first | rfl | (simp; done), by exact bel1 HG⟩
    | some q =>
      obtain ⟨R, C, R', rfl, rfl, rfl, hR, hR', hfr, hol, hop, hix, hp0, hp1⟩ := HF.out q rfl
      obtain ⟨o, fr⟩ := q
      replace hfr : fr = (R : Int) - (R' : Int) := hfr
      subst hfr
      replace hol : o.length ≤ 24 := hol
      replace hop : ∀ i, i < o.length → 1 ≤ nth o i := hop
      have e0 : qoL (some (o, (R : Int) - (R' : Int))) = o := rfl
      have e1 : qoN (some (o, (R : Int) - (R' : Int))) = (R : Int) - (R' : Int) := rfl
      rw [e0, e1] at CI CS
      clear HF e0 e1
      have CX := Lib.hid fun W h h' => (show Calls Try.prog 24 #[.agg #[.int .i64 R, .int .i64 C, .slice V l.length cv], .agg #[.int .i64 R', .int .i64 c2, .slice V2 l2.length cv2]] W (fun e w' => e = .returned (.tuple #[.int .i64 (oI (idxO ⟨R, C, l⟩ ⟨R', c2, l2⟩)), .bool (idxO ⟨R, C, l⟩ ⟨R', c2, l2⟩).isSome]) ∧ Grows W w') from iIdx_c R C R' c2 V V2 l l2 l.length l2.length cv cv2 W rfl rfl hcv hcv2 hcw hcw2 h h' (by omega) (by omega))
      have CL := Lib.hid fun W h => (iSL_c R C 3 V l l.length cv W rfl hcv hcv2 h (by omega)).mono fun _ _ h => matRet_out h
      have hDl : (oM (slO ⟨R, C, l⟩ 3)).l.length ≤ 576 := oM_length fun m h => slO_ok h
      replace hix : (idxO ⟨R, C, l⟩ ⟨R', c2, l2⟩).isSome = true → prI o o.length = oI (idxO ⟨R, C, l⟩ ⟨R', c2, l2⟩) ∧ prI o o.length ≤ 400000000 := hix
      generalize (idxO ⟨R, C, l⟩ ⟨R', c2, l2⟩).isSome = two at *
      generalize oI (idxO ⟨R, C, l⟩ ⟨R', c2, l2⟩) = n at *
      generalize slO ⟨R, C, l⟩ 3 = DO at *
      generalize DO.isSome = fits at *
      generalize oM DO = D at *
      replace hp0 : (quoO ⟨R, C, l⟩ ⟨D.r, D.c, D.l⟩).isSome = false → (qoL (quoO ⟨R, C, l⟩ ⟨D.r, D.c, D.l⟩)).length = 0 := hp0
      replace hp1 : (quoO ⟨R, C, l⟩ ⟨D.r, D.c, D.l⟩).isSome = true → (qoL (quoO ⟨R, C, l⟩ ⟨D.r, D.c, D.l⟩)).length = R ∧ qoN (quoO ⟨R, C, l⟩ ⟨D.r, D.c, D.l⟩) = 0 ∧ ∀ i, i < R → nth (qoL (quoO ⟨R, C, l⟩ ⟨D.r, D.c, D.l⟩)) i = 3 := hp1
      have CQ := Lib.hid fun W A6 c6 (h1 : D.l.length ≤ c6) (h2 : c6 ≤ 9223372036854775807) h h' => (iQuo_c R C D.r D.c V A6 l D.l l.length D.l.length cv c6 W rfl rfl hcv hcv2 h1 h2 h h' (by omega) (by omega)).mono fun _ _ h => quoRet_out h
      have hpl : (qoL (quoO ⟨R, C, l⟩ ⟨D.r, D.c, D.l⟩)).length ≤ 24 := quoO_len
      generalize quoO ⟨R, C, l⟩ ⟨D.r, D.c, D.l⟩ = PO at *
      generalize PO.isSome = fine at *
      generalize qoN PO = pn at *
      generalize qoL PO = p at *
      have HOP := Lib.hid hop
      have HIX := Lib.hid hix
      have HP0 := Lib.hid hp0
      have HP1 := Lib.hid hp1
      clear hop hix hp0 hp1
      refine (CI.out _ (by exact Rd.grows rd2 (by exact bel0)) (by exact Rd.grows rd22 (by exact bel0))).mono ?_; rintro e w3 ⟨v3, rfl, o3, g_w3⟩
      have s_w3 := Below.size g_w3; (try simp at s_w3)
      replace rd2 := rd2.grows (w' := w3) (by exact bel1 g_w3)
      replace rd22 := rd22.grows (w' := w3) (by exact bel1 g_w3)
      have ml : MBox w3 (w2.heap.size) (R : Int) (C : Int) (.slice V l.length cv) := MBox.grows (MBox.new_ w2 (R : Int) (C : Int) (.slice V l.length cv) 26 (by simp)) (w' := w3) (by exact bel1 g_w3)
      have ml_0 := ml.c0; have ml_1 := ml.c1; have ml_2 := ml.c2; have ml_l := ml.lt; have ml_f := ml.fz
      have ms : MBox w3 (w2.heap.size + 1) (R' : Int) c2 (.slice V2 l2.length cv2) := MBox.grows (MBox.new_ (w2.alloc (.cells #[.int .i64 (R : Int), .int .i64 (C : Int), .slice V l.length cv] 26)) (R' : Int) c2 (.slice V2 l2.length cv2) 26 (by simp)) (w' := w3) (by exact bel1 g_w3)
      have ms_0 := ms.c0; have ms_1 := ms.c1; have ms_2 := ms.c2; have ms_l := ms.lt; have ms_f := ms.fz
      replace HG : Grows w w3 := by exact bel2 g_w3 HG
      have h_w3 := Below.size HG
      obtain ⟨A3, c3, rfl, rd3, _⟩ := o3.val
      go_wp2_with fail
      refine (CS.out _ (by exact Rd.grows rd2 (by exact bel0)) (by exact Rd.grows rd22 (by exact bel0))).mono ?_; rintro e w4 ⟨v4, rfl, o4, g_w4⟩
      have s_w4 := Below.size g_w4; (try simp at s_w4)
      replace rd2 := rd2.grows (w' := w4) (by exact bel1 g_w4)
      replace rd22 := rd22.grows (w' := w4) (by exact bel1 g_w4)
      clear ml_0 ml_1 ml_2 ml_l ml_f
      replace ml := ml.grows (w' := w4) (by exact bel1 g_w4)
      have ml_0 := ml.c0; have ml_1 := ml.c1; have ml_2 := ml.c2; have ml_l := ml.lt; have ml_f := ml.fz
      clear ms_0 ms_1 ms_2 ms_l ms_f
      replace ms := ms.grows (w' := w4) (by exact bel1 g_w4)
      have ms_0 := ms.c0; have ms_1 := ms.c1; have ms_2 := ms.c2; have ms_l := ms.lt; have ms_f := ms.fz
      replace rd3 := rd3.grows (w' := w4) (by exact bel1 g_w4)
      replace HG : Grows w w4 := by exact bel2 g_w4 HG
      have h_w4 := Below.size HG
      obtain ⟨A4, c4, rfl, rd4, _⟩ := o4.val
      clear o3 o4 CI CS rd4
      go_wp2_with fail
      refine (CX.out _ (by exact Rd.grows rd2 (by exact bel0)) (by exact Rd.grows rd22 (by exact bel0))).mono ?_; rintro e w5 ⟨rfl, g_w5⟩
      have s_w5 := Below.size g_w5; (try simp at s_w5)
      replace rd2 := rd2.grows (w' := w5) (by exact bel1 g_w5)
      replace rd22 := rd22.grows (w' := w5) (by exact bel1 g_w5)
      clear ml_0 ml_1 ml_2 ml_l ml_f
      replace ml := ml.grows (w' := w5) (by exact bel1 g_w5)
      have ml_0 := ml.c0; have ml_1 := ml.c1; have ml_2 := ml.c2; have ml_l := ml.lt; have ml_f := ml.fz
      clear ms_0 ms_1 ms_2 ms_l ms_f
      replace ms := ms.grows (w' := w5) (by exact bel1 g_w5)
      have ms_0 := ms.c0; have ms_1 := ms.c1; have ms_2 := ms.c2; have ms_l := ms.lt; have ms_f := ms.fz
      replace rd3 := rd3.grows (w' := w5) (by exact bel1 g_w5)
      replace HG : Grows w w5 := by exact bel2 g_w5 HG
      have h_w5 := Below.size HG
      clear CX
      go_wp2_with fail
      refine (CL.out _ (by exact Rd.grows rd2 (by exact bel0))).mono ?_; rintro e w6 ⟨v6, rfl, o6, g_w6⟩
      have s_w6 := Below.size g_w6; (try simp at s_w6)
      replace rd2 := rd2.grows (w' := w6) (by exact bel1 g_w6)
      replace rd22 := rd22.grows (w' := w6) (by exact bel1 g_w6)
      clear ml_0 ml_1 ml_2 ml_l ml_f
      replace ml := ml.grows (w' := w6) (by exact bel1 g_w6)
      have ml_0 := ml.c0; have ml_1 := ml.c1; have ml_2 := ml.c2; have ml_l := ml.lt; have ml_f := ml.fz
      clear ms_0 ms_1 ms_2 ms_l ms_f
      replace ms := ms.grows (w' := w6) (by exact bel1 g_w6)
      have ms_0 := ms.c0; have ms_1 := ms.c1; have ms_2 := ms.c2; have ms_l := ms.lt; have ms_f := ms.fz
      replace rd3 := rd3.grows (w' := w6) (by exact bel1 g_w6)
      replace HG : Grows w w6 := by exact bel2 g_w6 HG
      have h_w6 := Below.size HG
      obtain ⟨A6, c6, rfl, rd6, _⟩ := o6.val
      obtain ⟨_, hc6, hc62⟩ := o6.caps
      clear o6 CL
      go_wp2_with fail
      refine (CQ.out _ A6 c6 hc6 hc62 (by exact Rd.grows rd2 (by exact bel0)) (by exact Rd.grows rd6 (by exact bel0))).mono ?_; rintro e w7 ⟨v7, rfl, o7, g_w7⟩
      have s_w7 := Below.size g_w7; (try simp at s_w7)
      replace rd2 := rd2.grows (w' := w7) (by exact bel1 g_w7)
      replace rd22 := rd22.grows (w' := w7) (by exact bel1 g_w7)
      clear ml_0 ml_1 ml_2 ml_l ml_f
      replace ml := ml.grows (w' := w7) (by exact bel1 g_w7)
      have ml_0 := ml.c0; have ml_1 := ml.c1; have ml_2 := ml.c2; have ml_l := ml.lt; have ml_f := ml.fz
      clear ms_0 ms_1 ms_2 ms_l ms_f
      replace ms := ms.grows (w' := w7) (by exact bel1 g_w7)
      have ms_0 := ms.c0; have ms_1 := ms.c1; have ms_2 := ms.c2; have ms_l := ms.lt; have ms_f := ms.fz
      replace rd3 := rd3.grows (w' := w7) (by exact bel1 g_w7)
      replace rd6 := rd6.grows (w' := w7) (by exact bel1 g_w7)
      have md : MBox w7 (w6.heap.size) D.r D.c (.slice A6 D.l.length c6) := MBox.grows (MBox.new_ w6 D.r D.c (.slice A6 D.l.length c6) 26 (by simp)) (w' := w7) (by exact bel1 g_w7)
      have md_0 := md.c0; have md_1 := md.c1; have md_2 := md.c2; have md_l := md.lt; have md_f := md.fz
      replace HG : Grows w w7 := by exact bel2 g_w7 HG
      have h_w7 := Below.size HG
      obtain ⟨A7, c7, rfl, rd7, _⟩ := o7.val
      clear o7 CQ
      have hop := HOP.out
      have CPR := Lib.hid fun W h hk => prod_c A3 o o.length c3 W rfl h hop hk hol
      clear hop HOP
      cases fine
      · have hpz : ¬ (0 : Int) < (p.length : Int) := by have := HP0.out rfl; omega
        clear HP0 HP1
        go_wp2_with fail
        go_loopw [18] (fun i wr => i = .int .i64 0 ∧ wr = w7) (fun i _ => 0)
        case atStart => exact ⟨rfl, by first | rfl | trivial⟩
        case round =>
          obtain ⟨rfl, rfl⟩ := hrel
          obtain ⟨w7, rfl⟩ : ∃ x : World, x = wr := ⟨_, rfl⟩
          cases two
          · cases fits
            all_goals
              go_wp2_with fail
              go_ret
              exact ⟨by first | rfl | (simp; done), by exact bel1 HG⟩
          · obtain ⟨hn1, hn2⟩ := HIX.out rfl
            rw [hn1] at CPR hn2
            clear HIX hn1
            cases fits
            all_goals
              go_wp2_with fail
              refine (CPR.out _ (by exact Rd.grows rd3 (by exact bel0)) hn2).mono ?_; rintro e w8 ⟨rfl, g_w8⟩
              have s_w8 := Below.size g_w8; (try simp at s_w8)
              replace rd2 := rd2.grows (w' := w8) (by exact bel1 g_w8)
              replace rd22 := rd22.grows (w' := w8) (by exact bel1 g_w8)
              clear ml_0 ml_1 ml_2 ml_l ml_f
              replace ml := ml.grows (w' := w8) (by exact bel1 g_w8)
              have ml_0 := ml.c0; have ml_1 := ml.c1; have ml_2 := ml.c2; have ml_l := ml.lt; have ml_f := ml.fz
              clear ms_0 ms_1 ms_2 ms_l ms_f
              replace ms := ms.grows (w' := w8) (by exact bel1 g_w8)
              have ms_0 := ms.c0; have ms_1 := ms.c1; have ms_2 := ms.c2; have ms_l := ms.lt; have ms_f := ms.fz
              replace rd3 := rd3.grows (w' := w8) (by exact bel1 g_w8)
              replace rd6 := rd6.grows (w' := w8) (by exact bel1 g_w8)
              clear md_0 md_1 md_2 md_l md_f
              replace md := md.grows (w' := w8) (by exact bel1 g_w8)
              have md_0 := md.c0; have md_1 := md.c1; have md_2 := md.c2; have md_l := md.lt; have md_f := md.fz
              replace rd7 := rd7.grows (w' := w8) (by exact bel1 g_w8)
              replace HG : Grows w w8 := by exact bel2 g_w8 HG
              have h_w8 := Below.size HG
              go_wp2_with fail
              go_ret
              exact ⟨by first | rfl | (simp; done), by exact bel1 HG⟩
      · obtain ⟨hq1, rfl, hq3⟩ := HP1.out rfl
        have HQ3 := Lib.hid hq3
        have HQ1 := Lib.hid hq1
        clear HP0 HP1 hq3 hq1
        go_wp2_with fail
        go_loopw [18] (fun i wr => ∃ I : Nat, i = .int .i64 I ∧ I ≤ p.length ∧ wr = w7) (fun i _ => p.length - (intOf i).toNat)
        case atStart => exact ⟨0, rfl, Nat.zero_le _, by first | rfl | trivial⟩
        case round =>
          obtain ⟨I, rfl, hI, rfl⟩ := hrel
          by_cases hlt : I < p.length
          · have hlt' : (I : Int) < (p.length : Int) := by omega
            obtain ⟨bs, fs, rfl, hbs, s0⟩ := rd7.at_ I hlt
            have hz := HQ3.out I (by rw [← HQ1.out]; exact hlt)
            rw [hz] at s0
            clear hz
            go_wp2_with fail
            go_round
            case rel => exact ⟨I + 1, by go_num, by omega, by first | rfl | trivial⟩
            case measure => first | (simp [intOf]; done) | (simp [intOf]; omega)
          · have hlt' : ¬ (I : Int) < (p.length : Int) := by omega
            clear hlt
            obtain ⟨w7, rfl⟩ : ∃ x : World, x = wr := ⟨_, rfl⟩
            have hl1 := eq_true (show (p.length : Int) = (R : Int) by have := HQ1.out; omega)
            have hl2 : ((p.length : Int) == (R : Int)) = true := by simp [hl1]
            clear HQ1 HQ3
            cases two
            · cases fits
              all_goals
                go_wp2_with fail
                go_ret
                exact ⟨by first | rfl | (simp; done) | (simp [hl1]; done), by exact bel1 HG⟩
            · obtain ⟨hn1, hn2⟩ := HIX.out rfl
              rw [hn1] at CPR hn2
              clear HIX hn1
              cases fits
              all_goals
                go_wp2_with fail
                refine (CPR.out _ (by exact Rd.grows rd3 (by exact bel0)) hn2).mono ?_; rintro e w8 ⟨rfl, g_w8⟩
                have s_w8 := Below.size g_w8; (try simp at s_w8)
                replace rd2 := rd2.grows (w' := w8) (by exact bel1 g_w8)
                replace rd22 := rd22.grows (w' := w8) (by exact bel1 g_w8)
                clear ml_0 ml_1 ml_2 ml_l ml_f
                replace ml := ml.grows (w' := w8) (by exact bel1 g_w8)
                have ml_0 := ml.c0; have ml_1 := ml.c1; have ml_2 := ml.c2; have ml_l := ml.lt; have ml_f := ml.fz
                clear ms_0 ms_1 ms_2 ms_l ms_f
                replace ms := ms.grows (w' := w8) (by exact bel1 g_w8)
                have ms_0 := ms.c0; have ms_1 := ms.c1; have ms_2 := ms.c2; have ms_l := ms.lt; have ms_f := ms.fz
                replace rd3 := rd3.grows (w' := w8) (by exact bel1 g_w8)
                replace rd6 := rd6.grows (w' := w8) (by exact bel1 g_w8)
                clear md_0 md_1 md_2 md_l md_f
                replace md := md.grows (w' := w8) (by exact bel1 g_w8)
                have md_0 := md.c0; have md_1 := md.c1; have md_2 := md.c2; have md_l := md.lt; have md_f := md.fz
                replace rd7 := rd7.grows (w' := w8) (by exact bel1 g_w8)
                replace HG : Grows w w8 := by exact bel2 g_w8 HG
                have h_w8 := Below.size HG
                go_wp2_with fail
                go_ret
                exact ⟨by first | rfl | (simp; done) | (simp [hl1]; done), by exact bel1 HG⟩
end
end Go.Proofs.Ytbfkpfdkndnhkaa


namespace Go.Proofs.Ytbfkpfdkndnhkaa
set_option linter.unusedSimpArgs false
set_option linter.unusedVariables false
open Go.ChangeShapes Go.WideShapes Go.ChangeAt Go.RowKit Go.Joins
set_option linter.unusedVariables false

set_option maxRecDepth 100000 in
theorem fnQuotients_lifted (os : Os) (started : os.Started) (H : Type) (enc : TypeId × Value → H) :
    ReturnsInHanded {} Try.checked os 6 .any (Rows.fnQuotientsSpec.pre6 enc Try.prog Try.f6 Rows.fnQuotientsRow.domain false) (Rows.fnQuotientsSpec.post enc Try.prog Try.f6 false true false false) := by
  refine returnsInHanded_of_change (C := Try.checked) own started (by kernel_rfl) Try.func6
    (ChangeSpec.witness6 (enc := enc) (C := Try.checked) false ⟨#[], #[.slice none 0 0], []⟩ 8 (by kernel_rfl) (by kernel_rfl) (by kernel_rfl) (by kernel_rfl)) ?_
  intro W base args ds gs before hval0 hW hcnd _
  have hval : ∀ (j : Nat) t v, Try.f6.params[j]? = some t → args[j]? = some v → Value.okWide Try.prog W .any base t v := hval0
  have hW' := hW
  obtain ⟨p, q, hA0, hV, rfl, hfz, hnd⟩ := hW
  have hA : DataW.TrodAll enc Try.prog W 0 (fun _ => true) true Try.f6.params.toList args.toList ds p := hA0
  rw [Try.params6] at hA hval
  obtain ⟨v0, vs0, d0, ds0, p0, q0, hargs, rfl, rfl, h0, r0⟩ := trodAll_cons hA
  obtain ⟨rfl, rfl, rfl⟩ := trodAll_nil r0
  obtain rfl : args = #[v0] := by cases args; simp_all
  obtain ⟨rfl, rfl⟩ := trodVars_none hV
  have k0 := h0
  have lt0 : ∀ x ∈ p0, x.block < W.heap.size := by obtain ⟨m, hm⟩ := k0; exact DataW.trod_lt m _ _ _ hm
  obtain ⟨a00, len0, cap0, rfl⟩ := okWide_slice Try.underlying22 (hval 0 22 v0 rfl rfl)
  obtain ⟨A0, l0, c0, e0, ir0⟩ : ∃ A l c, Value.slice a00 len0 cap0 = .slice A (List.length l) c ∧ InCode W A l c := by obtain ⟨fuel, hf⟩ := h0; simp only [Value.cells] at hf; exact open_code hf
  rw [e0] at hval hW' k0 ⊢
  clear hA0 hval0
  refine (lawFqu_c A0 l0 c0 W ir0).mono fun e W' ⟨he, bel⟩ => ?_
  subst he
  exact ⟨_, rfl, _, _, _, [], _, [], hW', trodAll_mk1 (shut_bool Try.underlying4 _), (trodAll_cons_mk (Below.trod laidOut (by kernel_rfl) (of_decide_eq_true (by kernel_rfl)) k0 bel lt0) trodAll_mk0), rfl, bel.frame _, fun h => by cases h⟩

theorem fnQuotients_closed : joinedFacts Try.pinned.checked.prog 6 Try.f6 Rows.fnQuotientsSpec Rows.fnQuotientsRow = true := by
  unfold joinedFacts
  rw [fLaid, fRowed, fStops, fEnter, fLift, fMake]
  change _ = true
  kernel_rfl
/-- The statement. -/
theorem fnQuotients_holds : Rows.FnQuotientsSaid :=
  OpenClaim.holds_of_wide 6 Try.f6 rfl rfl rfl rfl rfl rfl rfl ⟨rfl, rfl, rfl, rfl, rfl⟩ rfl rfl rfl rfl rfl (by kernel_rfl) Try.func6 fnQuotients_closed
    (of_decide_eq_true (by kernel_rfl)) (by unfold Func.isWrapper; first | (rw [if_pos (by decide +kernel)]; kernel_rfl) | (rw [if_neg (by decide +kernel)]; exact ⟨rfl, rfl⟩))
    (fun os started H enc _ => fnQuotients_lifted os started H enc)
end Go.Proofs.Ytbfkpfdkndnhkaa
