/- The row of FnShort: proved for every input, no condition beyond those of the row. -/
import Derived.Test.YtbfkpfdkndnhkaaGreatPkDrF
import Derived.Test.YtbfkpfdkndnhkaaGreatPkTD
import Derived.Test.YtbfkpfdkndnhkaaGreatQFacts

namespace Go.Proofs.YtbfkpfdkndnhkaaGreat
set_option linter.unusedSimpArgs false
set_option linter.unusedVariables false
open Go.RowKit
set_option linter.unusedVariables false

theorem rowsRet_rd {o : Option (List KV)} {w w' : World} {e : Ending} (h : RowsRet o w e w') : ∃ A c, e = .returned (.tuple #[.slice A (oRows o).length c, .bool o.isSome]) ∧ RdR RSI w' A (oRows o) ∧ Grows w w' := by
  obtain ⟨v, vs, h1, h2, h3⟩ := rowsRet_out h
  obtain ⟨A, c, rfl, h4, _⟩ := h2.val
  exact ⟨A, c, h1, h4, h3⟩
section
set_option maxHeartbeats 8000000
set_option maxRecDepth 100000
theorem lawFsh_c (A : Option Addr) (lc : List Int) (cap : Nat) (w : World) (hi : InCode w A lc cap) :
    Calls Tryz.prog 3 #[.slice A lc.length cap] w fun e w' => e = .returned (.bool true) ∧ Grows w w' := by
  obtain ⟨hr, hc1, hc2⟩ := hi
  simp only [maxLen] at hc2
  have CB := big_c A lc.length cap w (by omega)
  by_cases hn : lc.length ≤ 1048576
  rotate_left
  · rw [decide_eq_true (by omega)] at CB
    have CB' := Lib.hid CB
    clear CB
    go_enter Tryz.func3, Tryz.ntmps3
    go_wp2_with fail
    refine CB'.out.mono ?_; rintro e w' ⟨rfl, rfl⟩
    go_wp2_with fail
    go_ret
    exact ⟨rfl, by exact bel0⟩
  · rw [decide_eq_false (by omega)] at CB
    have CB' := Lib.hid CB
    have CD := Lib.hid (askDrawShortVectors_c A lc.length cap w hr hn)
    clear CB
    go_enter Tryz.func3, Tryz.ntmps3
    go_wp2_with fail
    refine CB'.out.mono ?_; rintro e w' ⟨rfl, h0⟩
    have h1 := h0.symm
    clear h0
    subst h1
    go_wp2_with fail
    refine CD.out.mono ?_; rintro e w2 ⟨r, c, V, cv, l, x, rfl, hrb, hl, o2, HG⟩
    have rd2 := o2.rd'
    obtain ⟨_, hcv, hcv2⟩ := o2.caps
    have h_w2 := Below.size HG
    have CS := Lib.hid fun W h => (iShv_c r c x V l l.length cv W rfl hcv hcv2 h (by omega)).mono fun _ _ h => rowsRet_rd h
    have CT := Lib.hid fun W h => (sShv_c r c x V l l.length cv W rfl h (by omega)).mono fun _ _ h => rowsGet_out h
    have CY := Lib.hid fun W h => (iSbt_c r c x V l l.length cv W rfl hcv hcv2 h (by omega)).mono fun _ _ h => rowsRet_rd h
    have HF := Lib.hid fun s (h : shvO ⟨r, c, l⟩ x = some s) => fsh_names (V := V) (cv := cv) (l := l) (by omega) h
    have HE := Lib.hid fun s (h : shvO ⟨r, c, l⟩ x = some s) => fsh_same (T := sbtO ⟨r, c, l⟩ x) h rfl
    generalize shvO ⟨r, c, l⟩ x = S at *
    generalize sbtO ⟨r, c, l⟩ x = T at *
    generalize T.isSome = two at *
    generalize oRows T = L2 at *
    obtain ⟨M, hM⟩ : ∃ M, L2.length = M := ⟨_, rfl⟩
    rw [hM] at CY
    have HM := Lib.hid hM
    clear hM
    clear CD hr hc1 hc2 o2
    go_wp2_with fail
    cases S with
    | none =>
      have e0 : oRows (none : Option (List KV)) = [] := rfl
      rw [e0] at CS CT
      clear HF HE
      refine (CS.out _ (by exact Rd.grows rd2 (by exact bel0))).mono ?_; rintro e w3 ⟨A3, c3, rfl, rd3, g_w3⟩
      have s_w3 := Below.size g_w3; (try simp at s_w3)
      replace rd2 := rd2.grows (w' := w3) (by exact bel1 g_w3)
      have mg : MBox w3 (w2.heap.size) r c (.slice V l.length cv) := MBox.grows (MBox.new_ w2 r c (.slice V l.length cv) 26 (by simp)) (w' := w3) (by exact bel1 g_w3)
      have mg_0 := mg.c0; have mg_1 := mg.c1; have mg_2 := mg.c2; have mg_l := mg.lt; have mg_f := mg.fz
      replace HG : Grows w w3 := by exact bel2 g_w3 HG
      have h_w3 := Below.size HG
      go_wp2_with fail
      refine (CT.out _ (by exact Rd.grows rd2 (by exact bel0))).mono ?_; rintro e w4 ⟨A4, c4, rfl, rd4, g_w4⟩
      have s_w4 := Below.size g_w4; (try simp at s_w4)
      replace rd2 := rd2.grows (w' := w4) (by exact bel1 g_w4)
      clear mg_0 mg_1 mg_2 mg_l mg_f
      replace mg := mg.grows (w' := w4) (by exact bel1 g_w4)
      have mg_0 := mg.c0; have mg_1 := mg.c1; have mg_2 := mg.c2; have mg_l := mg.lt; have mg_f := mg.fz
      replace HG : Grows w w4 := by exact bel2 g_w4 HG
      have h_w4 := Below.size HG
      go_wp2_with fail
      refine (CY.out _ (by exact Rd.grows rd2 (by exact bel0))).mono ?_; rintro e w5 ⟨A5, c5, rfl, rd5, g_w5⟩
      have s_w5 := Below.size g_w5; (try simp at s_w5)
      replace rd2 := rd2.grows (w' := w5) (by exact bel1 g_w5)
      clear mg_0 mg_1 mg_2 mg_l mg_f
      replace mg := mg.grows (w' := w5) (by exact bel1 g_w5)
      have mg_0 := mg.c0; have mg_1 := mg.c1; have mg_2 := mg.c2; have mg_l := mg.lt; have mg_f := mg.fz
      replace HG : Grows w w5 := by exact bel2 g_w5 HG
      have h_w5 := Below.size HG
      cases two
      all_goals (
        go_wp2_with fail
        go_ret
        exact ⟨by first | rfl | simp, by exact bel1 HG⟩)
    | some s =>
      obtain ⟨R, X, I, K, rfl, hR6, hN4, hI0, HIS, HIL, HXB, HCV, HCK, HCT⟩ := HF.out s rfl
      have e0 : oRows (some s) = rowsK s := rfl
      rw [e0] at CS CT
      have HEE := Lib.hid (HE.out s rfl)
      generalize rowsK s = L at *
      obtain ⟨N, hN⟩ : ∃ N, L.length = N := ⟨_, rfl⟩
      rw [hN] at CS CT hN4 HXB HCT
      have HN := Lib.hid hN
      have HIS' := Lib.hid HIS
      have HIL' := Lib.hid HIL
      have HXB' := Lib.hid HXB
      have HCV' := Lib.hid HCV
      have HCK' := Lib.hid HCK
      have HCT' := Lib.hid HCT
      have HI0 := Lib.hid hI0
      have HLX := Lib.hid fun z (hz : z ∈ L) => show z.length ≤ 1024 by
        obtain ⟨i, hi, rfl⟩ := List.getElem_of_mem hz
        have := (HCV i hi).1
        omega
      clear HIS HIL HXB HCV HCK HCT hI0 hN HF HE e0
      refine (CS.out _ (by exact Rd.grows rd2 (by exact bel0))).mono ?_; rintro e w3 ⟨A3, c3, rfl, rd3, g_w3⟩
      have s_w3 := Below.size g_w3; (try simp at s_w3)
      replace rd2 := rd2.grows (w' := w3) (by exact bel1 g_w3)
      have mg : MBox w3 (w2.heap.size) (R : Int) c (.slice V l.length cv) := MBox.grows (MBox.new_ w2 (R : Int) c (.slice V l.length cv) 26 (by simp)) (w' := w3) (by exact bel1 g_w3)
      have mg_0 := mg.c0; have mg_1 := mg.c1; have mg_2 := mg.c2; have mg_l := mg.lt; have mg_f := mg.fz
      replace HG : Grows w w3 := by exact bel2 g_w3 HG
      have h_w3 := Below.size HG
      go_wp2_with fail
      refine (CT.out _ (by exact Rd.grows rd2 (by exact bel0))).mono ?_; rintro e w4 ⟨A4, c4, rfl, rd4, g_w4⟩
      have s_w4 := Below.size g_w4; (try simp at s_w4)
      replace rd2 := rd2.grows (w' := w4) (by exact bel1 g_w4)
      clear mg_0 mg_1 mg_2 mg_l mg_f
      replace mg := mg.grows (w' := w4) (by exact bel1 g_w4)
      have mg_0 := mg.c0; have mg_1 := mg.c1; have mg_2 := mg.c2; have mg_l := mg.lt; have mg_f := mg.fz
      replace rd3 := rd3.grows RSI.good (w' := w4) (by exact bel1 g_w4)
      replace HG : Grows w w4 := by exact bel2 g_w4 HG
      have h_w4 := Below.size HG
      clear rd4
      go_wp2_with fail
      refine (CY.out _ (by exact Rd.grows rd2 (by exact bel0))).mono ?_; rintro e w5 ⟨A5, c5, rfl, rd5, g_w5⟩
      have s_w5 := Below.size g_w5; (try simp at s_w5)
      replace rd2 := rd2.grows (w' := w5) (by exact bel1 g_w5)
      clear mg_0 mg_1 mg_2 mg_l mg_f
      replace mg := mg.grows (w' := w5) (by exact bel1 g_w5)
      have mg_0 := mg.c0; have mg_1 := mg.c1; have mg_2 := mg.c2; have mg_l := mg.lt; have mg_f := mg.fz
      replace rd3 := rd3.grows RSI.good (w' := w5) (by exact bel1 g_w5)
      replace HG : Grows w w5 := by exact bel2 g_w5 HG
      have h_w5 := Below.size HG
      clear CS CT CY
      go_upto_region 9 with fail
      go_cut [59] (fun s59 wx => s59 = .bool false ∧ Grows w5 wx)
      case first =>
        have HEO := HEE.out
        cases two
        · clear HEO; go_wp2_with fail; go_meet; exact ⟨rfl, by exact bel0⟩
        · obtain rfl : L2 = L := HEO rfl
          clear HEO
          obtain rfl : M = N := HM.out.symm.trans HN.out
          have CQ := Lib.hid fun W h h' => sameRows_c A3 A5 L2 M c3 c5 W HN.out h h' (by omega) HLX.out
          go_wp2_with fail
          refine (CQ.out _ (rd3.grows RSI.good (by exact bel0)) (rd5.grows RSI.good (by exact bel0))).mono ?_; rintro e w7 ⟨rfl, g7⟩
          go_wp2_with fail
          go_meet
          exact ⟨rfl, by exact bel1 g7⟩
      case rest =>
        obtain ⟨rfl, hg6⟩ := hcut
        obtain ⟨w6, rfl⟩ : ∃ x : World, x = wc := ⟨_, rfl⟩
        clear HEE rd5
        have s_w6 := Below.size hg6; (try simp at s_w6)
        replace rd2 := rd2.grows (w' := w6) (by exact bel1 hg6)
        clear mg_0 mg_1 mg_2 mg_l mg_f
        replace mg := mg.grows (w' := w6) (by exact bel1 hg6)
        have mg_0 := mg.c0; have mg_1 := mg.c1; have mg_2 := mg.c2; have mg_l := mg.lt; have mg_f := mg.fz
        replace rd3 := rd3.grows RSI.good (w' := w6) (by exact bel1 hg6)
        replace HG : Grows w w6 := by exact bel2 hg6 HG
        have h_w6 := Below.size HG
        by_cases hR : R ≤ 3
        rotate_left
        · have i1 : (3 : Int) < (R : Int) := by omega
          go_wp2_with fail
          go_ret
          exact ⟨rfl, by exact bel1 HG⟩
        by_cases hR0 : R = 0
        · have i1 : ¬ (3 : Int) < (R : Int) := by omega
          have i2 : (R : Int) = 0 := by omega
          go_wp2_with fail
          go_ret
          exact ⟨rfl, by exact bel1 HG⟩
        have i1 : ¬ (3 : Int) < (R : Int) := by omega
        have i2 : ¬ (R : Int) = 0 := by omega
        have HTL := Lib.hid (HCT'.out (by omega) hR)
        obtain ⟨F, hF⟩ : ∃ F : Nat → Bool, F = fun j => fsG R j && K j := ⟨_, rfl⟩
        rw [← hF] at HTL
        have HFF := Lib.hid hF
        clear hF HCT'
        go_wp2_with fail
        go_loopw [11, 12] (fun s11 s12 wr => ∃ j : Nat, s11 = .int .i64 (tal F j : Nat) ∧ s12 = .int .i64 (j : Nat) ∧ j ≤ 125 ∧ Grows w6 wr) (fun _ i _ => 125 - (intOf i).toNat)
        case atStart => exact ⟨0, rfl, rfl, by omega, Below.refl _ _⟩
        case round =>
          obtain ⟨j, rfl, rfl, hj, hgr⟩ := hrel
          obtain ⟨wo, rfl⟩ : ∃ wo : World, wo = wr := ⟨_, rfl⟩
          have mgo := mg.grows hgr
          have rdo := rd2.grows hgr
          clear mg_0 mg_1 mg_2 mg_l mg_f
          obtain ⟨mo0, mo1, mo2⟩ := mgo.cells
          have mof := mgo.fz
          have mol := mgo.lt
          by_cases hlt : j < 125
          · obtain ⟨y, ok, hK, CV⟩ := HCK'.out j (by omega)
            have i3 : (j : Int) < 125 := by omega
            obtain ⟨a0, ha0⟩ : ∃ a0 : Int, a0 = ((j % 5 : Nat) : Int) := ⟨_, rfl⟩
            obtain ⟨c1, hc1⟩ : ∃ c1 : Int, c1 = ((j / 5 : Nat) : Int) := ⟨_, rfl⟩
            obtain ⟨a1, ha1⟩ : ∃ a1 : Int, a1 = ((j / 5 % 5 : Nat) : Int) := ⟨_, rfl⟩
            obtain ⟨a2, ha2⟩ : ∃ a2 : Int, a2 = ((j / 25 : Nat) : Int) := ⟨_, rfl⟩
            have m0 : (j : Int).tmod 5 = a0 := by rw [ha0, Int.tmod_eq_emod_of_nonneg (by omega)]; omega
            have q1 : (j : Int).tdiv 5 = c1 := by rw [hc1, Int.tdiv_eq_ediv_of_nonneg (by omega)]; omega
            have m1 : c1.tmod 5 = a1 := by rw [ha1, Int.tmod_eq_emod_of_nonneg (by omega)]; omega
            have q2 : (j : Int).tdiv 25 = a2 := by rw [ha2, Int.tdiv_eq_ediv_of_nonneg (by omega)]; omega
            have b0 : 0 ≤ a0 := by omega
            have b1 : a0 ≤ 4 := by omega
            have b2 : 0 ≤ a1 := by omega
            have b3 : a1 ≤ 4 := by omega
            have b4 : 0 ≤ a2 := by omega
            have b5 : a2 ≤ 4 := by omega
            have b6 : 0 ≤ c1 := by omega
            have b7 : c1 ≤ 24 := by omega
            have hfv := Lib.hid (show fsV R j = ([a0 - 2, a1 - 2, a2 - 2] : List Int).take R by unfold fsV; rw [ha0, ha1, ha2])
            have CV' := Lib.hid CV
            have HTJ := Lib.hid (show tal F (j + 1) = tal F j + if F j then 1 else 0 from rfl)
            have HFJ := Lib.hid (show F j = (fsG R j && (ok && decide (0 < y) && decide (y ≤ x))) by rw [HFF.out, hK])
            have htl := tal_le F j
            generalize tal F j = n at *
            clear ha0 ha1 ha2 hc1 CV hK
            go_upto_region 18 with fail
            obtain ⟨w7, hw7⟩ : ∃ w7, w7 = wo.alloc (.cells #[.int .i64 (a0 - 2), .int .i64 (a1 - 2), .int .i64 (a2 - 2)] 3) := ⟨_, rfl⟩
            have g07 : Grows wo w7 := by rw [hw7]; exact bel0
            have rdL : Rd w7 (some ⟨wo.heap.size, 0, none⟩) [a0 - 2, a1 - 2, a2 - 2] := by
              rw [hw7]
              exact (Own.of_lit wo wo.heap.size (Nat.le_refl _) [a0 - 2, a1 - 2, a2 - 2] (by simp [maxLen])).rd_
            have rdV : Rd w7 (some ⟨wo.heap.size, 0, none⟩) (fsV R j) := by
              rw [hfv.out]
              intro k hk
              rw [List.length_take] at hk
              obtain ⟨b', o', e1, e2, e3⟩ := rdL k (by omega)
              refine ⟨b', o', e1, e2, ?_⟩
              rw [e3]
              congr 2
              unfold nth
              rw [List.getD_eq_getElem?_getD, List.getD_eq_getElem?_getD, List.getElem?_take, if_pos (by omega)]
            have mg7 := mgo.grows g07
            have rd7 := rdo.grows g07
            have hgr7 : Grows w6 w7 := by exact bel2 g07 hgr
            have s7 := Below.size g07
            have HW7 := Lib.hid hw7
            clear hw7 mo0 mo1 mo2 mof mol rdL
            rw [← HW7.out]
            obtain ⟨mo0, mo1, mo2⟩ := mg7.cells
            have mof := mg7.fz
            have mol := mg7.lt
            go_cut [111] (fun s111 wx => s111 = .bool (fsG R j) ∧ Grows w7 wx)
            case first =>
              clear mg mgo mg7 i1 i2 HXB' HCV' HTJ HFJ HFF HTL CV' rdV rd7 rdo hfv
              have e : fsG R j = (decide (R = 3) || (decide (R = 2) && decide (j < 25)) || decide (j < 5)) := by rw [Bool.eq_iff_iff]; simp [fsG]
              have HE := Lib.hid e
              clear e
              by_cases r3 : (R : Int) = 3
              · have r3' : ((R : Int) = 3) = True := eq_true r3
                have HG3 := Lib.hid (show fsG R j = true by rw [HE.out, decide_eq_true (show R = 3 by omega)]; rfl)
                clear r3 HE
                go_wp2_with fail
                go_meet
                exact ⟨by (rw [HG3.out]; first | done | rfl | (simp [r3]; done) | (simp; omega)), by exact bel0⟩
              · by_cases r2 : (R : Int) = 2
                · have r2' : ((R : Int) = 2) = True := eq_true r2
                  have e2 : fsG R j = (decide (j < 25) || decide (j < 5)) := by rw [HE.out, decide_eq_false (show ¬ R = 3 by omega), decide_eq_true (show R = 2 by omega)]; rfl
                  have HE2 := Lib.hid e2
                  clear r2 e2 HE
                  by_cases c25 : (j : Int) < 25
                  · have HG3 := Lib.hid (show fsG R j = true by rw [HE2.out, decide_eq_true (show j < 25 by omega)]; rfl)
                    go_wp2_with fail
                    go_meet
                    exact ⟨by (rw [HG3.out]; first | done | rfl | (simp [r3]; done) | (simp; omega)), by exact bel0⟩
                  · have c5 : ¬ (j : Int) < 5 := by omega
                    have HG3 := Lib.hid (show fsG R j = false by rw [HE2.out, decide_eq_false (show ¬ j < 25 by omega), decide_eq_false (show ¬ j < 5 by omega)]; rfl)
                    go_wp2_with fail
                    go_meet
                    exact ⟨by (rw [HG3.out]; first | done | rfl | (simp [r3]; done) | (simp; omega)), by exact bel0⟩
                · have e2 : fsG R j = decide (j < 5) := by rw [HE.out, decide_eq_false (show ¬ R = 3 by omega), decide_eq_false (show ¬ R = 2 by omega)]; rfl
                  have HE2 := Lib.hid e2
                  clear e2 HE
                  by_cases c5 : (j : Int) < 5
                  · have HG3 := Lib.hid (show fsG R j = true by rw [HE2.out, decide_eq_true (show j < 5 by omega)])
                    go_wp2_with fail
                    go_meet
                    exact ⟨by (rw [HG3.out]; first | done | rfl | (simp [r3]; done) | (simp; omega)), by exact bel0⟩
                  · have HG3 := Lib.hid (show fsG R j = false by rw [HE2.out, decide_eq_false (show ¬ j < 5 by omega)])
                    go_wp2_with fail
                    go_meet
                    exact ⟨by (rw [HG3.out]; first | done | rfl | (simp [r3]; done) | (simp; omega)), by exact bel0⟩
            case rest =>
              obtain ⟨rfl, hg8⟩ := hcut
              obtain ⟨w8, rfl⟩ : ∃ x : World, x = wc := ⟨_, rfl⟩
              have mg8 := mg7.grows hg8
              have rd8 := rd7.grows hg8
              have rdV8 := rdV.grows hg8
              clear mo0 mo1 mo2 mof mol
              obtain ⟨mo0, mo1, mo2⟩ := mg8.cells
              have mof := mg8.fz
              have mol := mg8.lt
              have s8 := Below.size hg8
              have HFJ' := HFJ.out
              clear HFJ HFF
              generalize fsG R j = G at *
              cases G
              · have HN1 := Lib.hid (show tal F (j + 1) = n by rw [HTJ.out, HFJ']; simp)
                clear HFJ'
                go_wp2_with fail
                go_round
                case rel => exact ⟨j + 1, by rw [HN1.out], by go_num, by omega, by exact bel2 hg8 hgr7⟩
                case measure => simp [intOf]; omega
              · go_wp2_with fail
                refine (CV'.out _ _ _ rd8 rdV8).mono ?_; rintro e w9 ⟨rfl, g9⟩
                cases ok
                · have HN1 := Lib.hid (show tal F (j + 1) = n by rw [HTJ.out, HFJ']; simp)
                  clear HFJ'
                  go_wp2_with fail
                  go_round
                  case rel => exact ⟨j + 1, by rw [HN1.out], by go_num, by omega, by exact bel3 g9 hg8 hgr7⟩
                  case measure => simp [intOf]; omega
                · by_cases y0 : 0 < y
                  · by_cases yx : y ≤ x
                    · have HN1 := Lib.hid (show tal F (j + 1) = n + 1 by rw [HTJ.out, HFJ']; simp [y0, yx])
                      have hn1 : (n : Int) ≤ 125 := by omega
                      clear HFJ'
                      go_wp2_with fail
                      go_round
                      case rel => exact ⟨j + 1, by rw [HN1.out]; go_num, by go_num, by omega, by exact bel3 g9 hg8 hgr7⟩
                      case measure => simp [intOf]; omega
                    · have HN1 := Lib.hid (show tal F (j + 1) = n by rw [HTJ.out, HFJ']; simp [y0, yx])
                      clear HFJ'
                      go_wp2_with fail
                      go_round
                      case rel => exact ⟨j + 1, by rw [HN1.out], by go_num, by omega, by exact bel3 g9 hg8 hgr7⟩
                      case measure => simp [intOf]; omega
                  · have HN1 := Lib.hid (show tal F (j + 1) = n by rw [HTJ.out, HFJ']; simp [y0])
                    clear HFJ'
                    go_wp2_with fail
                    go_round
                    case rel => exact ⟨j + 1, by rw [HN1.out], by go_num, by omega, by exact bel3 g9 hg8 hgr7⟩
                    case measure => simp [intOf]; omega
          · have i3 : ¬ (j : Int) < 125 := by omega
            have e125 : tal F j = 2 * I N := by rw [show j = 125 by omega]; exact HTL.out
            rw [e125]
            clear e125 hlt hj
            have HIL := HIL'.out N
            have eN : ((2 * I N : Nat) : Int) = 2 * (I N : Int) - 2 * (I 0 : Int) := by rw [HI0.out]; omega
            rw [eN]
            clear eN HCK' HTL HFF
            go_upto_block 1 with fail
            go_loopw [11, 16, 17] (fun s11 s16 s17 wr => ∃ (i : Nat) (z : Int), s11 = .int .i64 (2 * (I N : Int) - 2 * (I i : Int)) ∧ s16 = .int .i64 z ∧ s17 = .int .i64 (i : Nat) ∧ i ≤ N ∧ 0 ≤ z ∧ z ≤ 10000 ∧ (i < N → z ≤ X i) ∧ Grows w6 wr) (fun _ _ i _ => N - (intOf i).toNat)
            case atStart => exact ⟨0, 0, rfl, rfl, rfl, by omega, by omega, by omega, fun h => by have := HXB'.out 0 h; omega, hgr⟩
            case round =>
              clear mgo rdo mo0 mo1 mo2 mof mol hgr
              obtain ⟨i, z, rfl, rfl, rfl, hi, hz0, hz1, hzx, hgr⟩ := hrel
              obtain ⟨w7, rfl⟩ : ∃ x : World, x = wr := ⟨_, rfl⟩
              have mg7 := mg.grows hgr
              have rd7 := rd2.grows hgr
              have rr7 := rd3.grows RSI.good hgr
              have s7 := Below.size hgr
              obtain ⟨mo0, mo1, mo2⟩ := mg7.cells
              have mof := mg7.fz
              have mol := mg7.lt
              have hII := HIL'.out i
              by_cases hlt : i < N
              · have i3 : (i : Int) < (N : Int) := by omega
                have hiL : i < L.length := by rw [HN.out]; exact hlt
                obtain ⟨x1, x2, x3, x4⟩ := HXB'.out i hlt
                obtain ⟨hvl, hvb, CV⟩ := HCV'.out i hiL
                obtain ⟨b8, o8, u8, rfl, hb8, hc8, A6, c6, rfl, hr6, _⟩ := rr7.at_ i hiL
                have HII := Lib.hid (HIS'.out i hiL)
                have hzx' := hzx hlt
                have hIs : I (i + 1) ≤ i + 1 := HIL'.out (i + 1)
                generalize L[i] = v at *
                generalize hX : X i = xv at *
                have CV' := Lib.hid fun W h h' => CV W A6 c6 h h'
                have HVB := Lib.hid hvb
                have HVL := Lib.hid hvl
                have y0 := mg7.ext.1; have y1 := mg7.ext.2.1; have y2 := mg7.ext.2.2; have y3 := ext_is hc8
                have j1 : ¬ xv < 1 := by omega
                have j2 : ¬ xv < z := by omega
                have j3 : ¬ x < xv := by omega
                clear CV hvb hvl mo0 mo1 mo2 mof mol hiL hzx rr7 hX
                go_wp2_with fail
                ((refine wp_region_ext (by kernel_rfl) (by kernel_rfl) ?_); (repeat (go_big_quiet_step ((go_at_call 10; with_reducible exact extC (CV'.out _ (Rd.ext rd7 _) (Rd.ext hr6 _)))))); refine wpQuiet_nil ?_; rintro w9 ⟨w90, hw90⟩; have g9 := grows_of_ext hw90; clear hw90 w90)
                have hc9 : w9.cell? ⟨b8, o8 + i, none⟩ = some (.slice A6 v.length c6) := (g9.cell (p := ⟨b8, o8 + i, none⟩) hb8).trans hc8
                have hb9 : b8 < w9.heap.size := Nat.lt_of_lt_of_le hb8 (Below.size g9)
                have hr9 := hr6.grows g9
                have hg9 : Grows w6 w9 := by exact bel2 g9 hgr
                clear y0 y1 y2 y3 hc8 hb8 hr6 mg7 rd7 g9 CV'
                go_upto_region 27 with fail
                go_cut [157] (fun s157 wx => s157 = .bool false ∧ wx = w9)
                case first =>
                  go_wp2_with fail
                  go_meet
                  have e1 : ¬ xv < max z 1 := by omega
                  exact ⟨by simp [e1, j3]; try omega, rfl⟩
                case rest =>
                  obtain ⟨rfl, rfl⟩ := hcut
                  obtain ⟨w9, rfl⟩ : ∃ x : World, x = wc := ⟨_, rfl⟩
                  go_wp2_with fail
                  go_loopw [20, 21] (fun s20 s21 wr => ∃ (k : Nat), s20 = .bool (insV (v.take k)) ∧ s21 = .int .i64 (k : Nat) ∧ k ≤ v.length ∧ Grows w9 wr) (fun _ k _ => v.length - (intOf k).toNat)
                  case atStart => exact ⟨0, rfl, rfl, Nat.zero_le _, Below.refl _ _⟩
                  case round =>
                    obtain ⟨k, rfl, rfl, hk, hgk⟩ := hrel
                    obtain ⟨wk, rfl⟩ : ∃ x : World, x = wr := ⟨_, rfl⟩
                    have hck : wk.cell? ⟨b8, o8 + i, none⟩ = some (.slice A6 v.length c6) := (hgk.cell (p := ⟨b8, o8 + i, none⟩) hb9).trans hc9
                    have hbk : b8 < wk.heap.size := Nat.lt_of_lt_of_le hb9 (Below.size hgk)
                    have hrk := hr9.grows hgk
                    clear hc9 hb9 hr9
                    by_cases hkl : k < v.length
                    · have k1 : (k : Int) < (v.length : Int) := by omega
                      have k6 : (k : Int) ≤ 6 := by have := HVL.out; omega
                      obtain ⟨b6, o6, rfl, hb6, hc6⟩ := hrk.at_ k hkl
                      have HT := Lib.hid (insV_take hkl)
                      obtain ⟨q1, q2⟩ := HVB.out k (by have := HVL.out; omega)
                      have CA := fun W => absv_c (nth v k) W q1 q2
                      generalize nth v k = q at *
                      generalize max q (-q) = mx at *
                      generalize insV (v.take k) = inn at *
                      have CA' := Lib.hid CA
                      clear CA hrk
                      cases inn
                      · have HT' := Lib.hid (show insV (v.take (k + 1)) = false by rw [HT.out]; rfl)
                        go_wp2_with fail
                        go_round
                        case rel => exact ⟨k + 1, by rw [HT'.out], by go_num, by omega, hgk⟩
                        case measure => simp [intOf]; omega
                      · have HT' := Lib.hid (show insV (v.take (k + 1)) = decide (mx ≤ 2) by rw [HT.out]; rfl)
                        by_cases hm2 : mx ≤ 2
                        all_goals
                          go_wp2_with fail
                          refine (CA'.out _).mono ?_; rintro e w10 ⟨rfl, g10⟩
                          go_wp2_with fail
                          go_round
                          case rel => exact ⟨k + 1, by (rw [HT'.out]; try simp [hm2]), by go_num, by omega, by exact bel2 g10 hgk⟩
                          case measure => simp [intOf]; omega
                    · obtain rfl : k = v.length := by omega
                      rw [List.take_length]
                      have k1 : ¬ (v.length : Int) < (v.length : Int) := by omega
                      have HII' := HII.out
                      have hg10 : Grows w6 wk := by exact bel2 hgk hg9
                      have hIN : I N ≤ 4000 := by omega
                      clear hkl hII HII
                      generalize insV v = iv at *
                      generalize hP : I N = P at *
                      generalize hq : I i = q at *
                      have hqN : q ≤ 4000 := by omega
                      cases iv
                      · have HI1 := Lib.hid (show I (i + 1) = q by rw [HII']; simp)
                        clear HII'
                        go_wp2_with fail
                        go_round
                        case rel => exact ⟨i + 1, xv, by rw [hP, HI1.out], rfl, by go_num, by omega, by omega, by omega, fun h => x4 h, hg10⟩
                        case measure => simp [intOf]; omega
                      · have HI1 := Lib.hid (show I (i + 1) = q + 1 by rw [HII']; simp)
                        clear HII'
                        go_wp2_with fail
                        go_round
                        case rel => exact ⟨i + 1, xv, by (rw [hP, HI1.out]; go_num), rfl, by go_num, by omega, by omega, by omega, fun h => x4 h, hg10⟩
                        case measure => simp [intOf]; omega
              · obtain rfl : i = N := by omega
                have i3 : ¬ (i : Int) < (i : Int) := by omega
                go_wp2_with fail
                go_ret
                exact ⟨by simp, by exact bel2 hgr HG⟩
end
end Go.Proofs.YtbfkpfdkndnhkaaGreat


namespace Go.Proofs.YtbfkpfdkndnhkaaGreat
set_option linter.unusedSimpArgs false
set_option linter.unusedVariables false
open Go.ChangeShapes Go.WideShapes Go.ChangeAt Go.RowKit Go.Joins
set_option linter.unusedVariables false

set_option maxRecDepth 100000 in
theorem fnShort_lifted (os : Os) (started : os.Started) (H : Type) (enc : TypeId × Value → H) :
    ReturnsInHanded {} Tryz.checked os 3 .any (Rows.fnShortSpec.pre6 enc Tryz.prog Tryz.f3 Rows.fnShortRow.domain false) (Rows.fnShortSpec.post enc Tryz.prog Tryz.f3 false true false false) := by
  refine returnsInHanded_of_change (C := Tryz.checked) own started (by kernel_rfl) Tryz.func3
    (ChangeSpec.witness6 (enc := enc) (C := Tryz.checked) false ⟨#[], #[.slice none 0 0], []⟩ 8 (by kernel_rfl) (by kernel_rfl) (by kernel_rfl) (by kernel_rfl)) ?_
  intro W base args ds gs before hval0 hW hcnd _
  have hval : ∀ (j : Nat) t v, Tryz.f3.params[j]? = some t → args[j]? = some v → Value.okWide Tryz.prog W .any base t v := hval0
  have hW' := hW
  obtain ⟨p, q, hA0, hV, rfl, hfz, hnd⟩ := hW
  have hA : DataW.TrodAll enc Tryz.prog W 0 (fun _ => true) true Tryz.f3.params.toList args.toList ds p := hA0
  rw [Tryz.params3] at hA hval
  obtain ⟨v0, vs0, d0, ds0, p0, q0, hargs, rfl, rfl, h0, r0⟩ := trodAll_cons hA
  obtain ⟨rfl, rfl, rfl⟩ := trodAll_nil r0
  obtain rfl : args = #[v0] := by cases args; simp_all
  obtain ⟨rfl, rfl⟩ := trodVars_none hV
  have k0 := h0
  have lt0 : ∀ x ∈ p0, x.block < W.heap.size := by obtain ⟨m, hm⟩ := k0; exact DataW.trod_lt m _ _ _ hm
  obtain ⟨a00, len0, cap0, rfl⟩ := okWide_slice Tryz.underlying22 (hval 0 22 v0 rfl rfl)
  obtain ⟨A0, l0, c0, e0, ir0⟩ : ∃ A l c, Value.slice a00 len0 cap0 = .slice A (List.length l) c ∧ InCode W A l c := by obtain ⟨fuel, hf⟩ := h0; simp only [Value.cells] at hf; exact open_code hf
  rw [e0] at hval hW' k0 ⊢
  clear hA0 hval0
  refine (lawFsh_c A0 l0 c0 W ir0).mono fun e W' ⟨he, bel⟩ => ?_
  subst he
  exact ⟨_, rfl, _, _, _, [], _, [], hW', trodAll_mk1 (shut_bool Tryz.underlying4 _), (trodAll_cons_mk (Below.trod laidOut (by kernel_rfl) (of_decide_eq_true (by kernel_rfl)) k0 bel lt0) trodAll_mk0), rfl, bel.frame _, fun h => by cases h⟩

theorem fnShort_closed : joinedFacts Tryz.pinned.checked.prog 3 Tryz.f3 Rows.fnShortSpec Rows.fnShortRow = true := by
  unfold joinedFacts
  rw [fLaid, fRowed, fStops, fEnter, fLift, fMake]
  change _ = true
  kernel_rfl
/-- The statement. -/
theorem fnShort_holds : Rows.FnShortSaid :=
  OpenClaim.holds_of_wide 3 Tryz.f3 rfl rfl rfl rfl rfl rfl rfl ⟨rfl, rfl, rfl, rfl, rfl⟩ rfl rfl rfl rfl rfl (by kernel_rfl) Tryz.func3 fnShort_closed
    (of_decide_eq_true (by kernel_rfl)) (by unfold Func.isWrapper; first | (rw [if_pos (by decide +kernel)]; kernel_rfl) | (rw [if_neg (by decide +kernel)]; exact ⟨rfl, rfl⟩))
    (fun os started H enc _ => fnShort_lifted os started H enc)
end Go.Proofs.YtbfkpfdkndnhkaaGreat
