/- The row of FnClosest: proved for every input, no condition beyond those of the row. -/
import Derived.Test.YtbfkpfdkndnhkaaPkCb
import Derived.Test.YtbfkpfdkndnhkaaPkCc
import Derived.Test.YtbfkpfdkndnhkaaPkCd
import Derived.Test.YtbfkpfdkndnhkaaPkCe
import Derived.Test.YtbfkpfdkndnhkaaPkDr
import Derived.Test.YtbfkpfdkndnhkaaQFacts

namespace Go.Proofs.Ytbfkpfdkndnhkaa
set_option linter.unusedSimpArgs false
set_option linter.unusedVariables false
open Go.RowKit
set_option linter.unusedVariables false

theorem cloRet_rd {o : Option (List (List Int) × Int)} {w w' : World} {e : Ending} (h : CloRet o w e w') : ∃ A c, e = .returned (.tuple #[.slice A (oC o).1.length c, .int .i64 (oC o).2, .bool o.isSome]) ∧ RdR RSI w' A (oC o).1 ∧ Grows w w' := by
  obtain ⟨v, vs, h1, h2, h3⟩ := h
  obtain ⟨A, c, rfl, h4, _⟩ := h2.val
  exact ⟨A, c, h1, h4, h3⟩
section
set_option maxHeartbeats 8000000
set_option maxRecDepth 100000
theorem lawFcl_c (A : Option Addr) (lc : List Int) (cap : Nat) (w : World) (hi : InCode w A lc cap) :
    Calls Try.prog 7 #[.slice A lc.length cap] w fun e w' => e = .returned (.bool true) ∧ Grows w w' := by
  obtain ⟨hr, hc1, hc2⟩ := hi
  simp only [maxLen] at hc2
  have CB := big_c A lc.length cap w (by omega)
  by_cases hn : lc.length ≤ 1048576
  rotate_left
  · rw [decide_eq_true (by omega)] at CB
    have CB' := Lib.hid CB
    clear CB
    go_enter Try.func7, Try.ntmps7
    go_wp2_with fail
    refine CB'.out.mono ?_; rintro e w' ⟨rfl, rfl⟩
    go_wp2_with fail
    go_ret
    exact ⟨rfl, by exact bel0⟩
  · rw [decide_eq_false (by omega)] at CB
    have CB' := Lib.hid CB
    have CD := Lib.hid (drawClo_c A lc.length cap w hr hn)
    clear CB
    go_enter Try.func7, Try.ntmps7
    go_wp2_with fail
    refine CB'.out.mono ?_; rintro e w' ⟨rfl, h0⟩
    have h1 := h0.symm
    clear h0
    subst h1
    go_wp2_with fail
    refine CD.out.mono ?_; rintro e w2 ⟨r, c, V, cv, l, T, ct, t, rfl, hl, hl2, o2, o3, HG⟩
    have rd2 := o2.rd'
    have rdt := o3.rd'
    have h_w2 := Below.size HG
    have CS := Lib.hid fun W h h' => (iClo_c r c V T l t l.length cv t.length ct W rfl h (by omega) rfl h' (by omega)).mono fun _ _ h => cloRet_rd h
    have CT := Lib.hid fun W h h' => (sClo_c r c V T l t l.length cv t.length ct W rfl h (by omega) rfl h' (by omega)).mono fun _ _ h => cloGet_out h
    have CR := Lib.hid fun W h h' => iRto_c r c V T l t l.length cv t.length ct W rfl h (by omega) rfl h' (by omega)
    have CE := Lib.hid fun X (y : List Int) m cy W (hm : y.length = m) (hm6 : m ≤ 6) h hx h' => iDistanceOf_c r c V X T l y t l.length m t.length cv cy ct W rfl hm rfl h hx h' (by omega) (by omega) (by omega)
    change RowKit.Hid (∀ X (y : List Int) m cy W (hm : y.length = m) (hm6 : m ≤ 6) (h : Rd W V l) (hx : Rd W X y) (h' : Rd W T t), Calls Try.prog 40 #[.agg #[.int .i64 r, .int .i64 c, .slice V l.length cv], .slice X m cy, .slice T t.length ct] W fun e w' => e = .returned (.tuple #[.int .i64 (dF ⟨r, c, l⟩ t y), .bool (dK ⟨r, c, l⟩ t y)]) ∧ Grows W w') at CE
    have HF := Lib.hid fun L d (h : closO ⟨r, c, l⟩ t = some (L, d)) => clo_names h
    generalize closO ⟨r, c, l⟩ t = S at *
    clear CD hr hc1 hc2 o2 o3
    go_wp2_with fail
    cases S with
    | none =>
      have e0 : oC (none : Option (List (List Int) × Int)) = ([], 0) := rfl
      rw [e0] at CS CT
      clear HF CR CE
      refine (CS.out _ (by exact Rd.grows rd2 (by exact bel0)) (by exact Rd.grows rdt (by exact bel0))).mono ?_; rintro e w3 ⟨A3, c3, rfl, rd3, g_w3⟩
      have s_w3 := Below.size g_w3; (try simp at s_w3)
      replace rd2 := rd2.grows (w' := w3) (by exact bel1 g_w3)
      replace rdt := rdt.grows (w' := w3) (by exact bel1 g_w3)
      have mg : MBox w3 (w2.heap.size) r c (.slice V l.length cv) := MBox.grows (MBox.new_ w2 r c (.slice V l.length cv) 26 (by simp)) (w' := w3) (by exact bel1 g_w3)
      have mg_0 := mg.c0; have mg_1 := mg.c1; have mg_2 := mg.c2; have mg_l := mg.lt; have mg_f := mg.fz
      replace HG : Grows w w3 := by exact bel2 g_w3 HG
      have h_w3 := Below.size HG
      go_wp2_with fail
      refine (CT.out _ (by exact Rd.grows rd2 (by exact bel0)) (by exact Rd.grows rdt (by exact bel0))).mono ?_; rintro e w4 ⟨A4, c4, rfl, rd4, g_w4⟩
      have s_w4 := Below.size g_w4; (try simp at s_w4)
      replace rd2 := rd2.grows (w' := w4) (by exact bel1 g_w4)
      replace rdt := rdt.grows (w' := w4) (by exact bel1 g_w4)
      clear mg_0 mg_1 mg_2 mg_l mg_f
      replace mg := mg.grows (w' := w4) (by exact bel1 g_w4)
      have mg_0 := mg.c0; have mg_1 := mg.c1; have mg_2 := mg.c2; have mg_l := mg.lt; have mg_f := mg.fz
      replace HG : Grows w w4 := by exact bel2 g_w4 HG
      have h_w4 := Below.size HG
      go_wp2_with fail
      go_ret
      exact ⟨by first | rfl | simp, by exact bel1 HG⟩
    | some s =>
      obtain ⟨L, d⟩ := s
      obtain ⟨x, F⟩ := HF.out L d rfl
      have e0 : oC (some (L, d)) = (L, d) := rfl
      rw [e0] at CS CT
      rw [F.rnd] at CR
      have HXL := Lib.hid F.xl
      have HBE := Lib.hid F.best
      have HNE := Lib.hid F.ne
      have HLN := Lib.hid F.len
      have HRW := Lib.hid F.row
      have HMI := Lib.hid F.min
      obtain ⟨N, hN⟩ : ∃ N, L.length = N := ⟨_, rfl⟩
      simp only [hN] at CS CT
      have HN := Lib.hid hN
      have hN0 : ¬ (N : Int) = 0 := fun h => F.ne (List.eq_nil_of_length_eq_zero (by omega))
      have hN4 : N ≤ 4000 := by have := F.len; omega
      obtain ⟨DX, hDX⟩ : ∃ y, y = dF ⟨r, c, l⟩ t x := ⟨_, rfl⟩
      obtain ⟨KX, hKX⟩ : ∃ y, y = dK ⟨r, c, l⟩ t x := ⟨_, rfl⟩
      have hbe : ¬ DX < d := by rw [hDX]; have := F.best; omega
      have CEX := fun X m cy W (hm : x.length = m) h hx h' => CE.out X x m cy W hm (by have := F.xl; omega) h hx h'
      rw [← hDX, ← hKX] at CEX
      have CEX' := Lib.hid CEX
      clear F HF hN hDX hKX CEX e0
      refine (CS.out _ (by exact Rd.grows rd2 (by exact bel0)) (by exact Rd.grows rdt (by exact bel0))).mono ?_; rintro e w3 ⟨A3, c3, rfl, rd3, g_w3⟩
      have s_w3 := Below.size g_w3; (try simp at s_w3)
      replace rd2 := rd2.grows (w' := w3) (by exact bel1 g_w3)
      replace rdt := rdt.grows (w' := w3) (by exact bel1 g_w3)
      have mg : MBox w3 (w2.heap.size) r c (.slice V l.length cv) := MBox.grows (MBox.new_ w2 r c (.slice V l.length cv) 26 (by simp)) (w' := w3) (by exact bel1 g_w3)
      have mg_0 := mg.c0; have mg_1 := mg.c1; have mg_2 := mg.c2; have mg_l := mg.lt; have mg_f := mg.fz
      replace HG : Grows w w3 := by exact bel2 g_w3 HG
      have h_w3 := Below.size HG
      go_wp2_with fail
      refine (CT.out _ (by exact Rd.grows rd2 (by exact bel0)) (by exact Rd.grows rdt (by exact bel0))).mono ?_; rintro e w4 ⟨A4, c4, rfl, rd4, g_w4⟩
      have s_w4 := Below.size g_w4; (try simp at s_w4)
      replace rd2 := rd2.grows (w' := w4) (by exact bel1 g_w4)
      replace rdt := rdt.grows (w' := w4) (by exact bel1 g_w4)
      clear mg_0 mg_1 mg_2 mg_l mg_f
      replace mg := mg.grows (w' := w4) (by exact bel1 g_w4)
      have mg_0 := mg.c0; have mg_1 := mg.c1; have mg_2 := mg.c2; have mg_l := mg.lt; have mg_f := mg.fz
      replace rd3 := rd3.grows RSI.good (w' := w4) (by exact bel1 g_w4)
      replace HG : Grows w w4 := by exact bel2 g_w4 HG
      have h_w4 := Below.size HG
      clear rd4
      go_wp2_with fail
      refine (CR.out _ (by exact Rd.grows rd2 (by exact bel0)) (by exact Rd.grows rdt (by exact bel0))).mono ?_; rintro e w5 ⟨v5, rfl, o5, g_w5⟩
      have s_w5 := Below.size g_w5; (try simp at s_w5)
      replace rd2 := rd2.grows (w' := w5) (by exact bel1 g_w5)
      replace rdt := rdt.grows (w' := w5) (by exact bel1 g_w5)
      clear mg_0 mg_1 mg_2 mg_l mg_f
      replace mg := mg.grows (w' := w5) (by exact bel1 g_w5)
      have mg_0 := mg.c0; have mg_1 := mg.c1; have mg_2 := mg.c2; have mg_l := mg.lt; have mg_f := mg.fz
      replace rd3 := rd3.grows RSI.good (w' := w5) (by exact bel1 g_w5)
      replace HG : Grows w w5 := by exact bel2 g_w5 HG
      have h_w5 := Below.size HG
      obtain ⟨A5, c5, rfl, rd5, _⟩ := o5.val
      have rd5 : Rd w5 A5 x := rd5
      clear o5
      have e1 : oL (some x) = x := rfl
      rw [e1]
      clear e1
      go_wp2_with fail
      refine (CEX'.out A5 x.length c5 _ rfl (by exact Rd.grows rd2 (by exact bel0)) (by exact Rd.grows rd5 (by exact bel0)) (by exact Rd.grows rdt (by exact bel0))).mono ?_; rintro e w6 ⟨rfl, g_w6⟩
      have s_w6 := Below.size g_w6; (try simp at s_w6)
      replace rd2 := rd2.grows (w' := w6) (by exact bel1 g_w6)
      replace rdt := rdt.grows (w' := w6) (by exact bel1 g_w6)
      clear mg_0 mg_1 mg_2 mg_l mg_f
      replace mg := mg.grows (w' := w6) (by exact bel1 g_w6)
      have mg_0 := mg.c0; have mg_1 := mg.c1; have mg_2 := mg.c2; have mg_l := mg.lt; have mg_f := mg.fz
      replace rd3 := rd3.grows RSI.good (w' := w6) (by exact bel1 g_w6)
      replace rd5 := rd5.grows (w' := w6) (by exact bel1 g_w6)
      replace HG : Grows w w6 := by exact bel2 g_w6 HG
      have h_w6 := Below.size HG
      clear rd5 CS CT CR CEX'
      go_upto_region 12 with fail
      go_cut [83] (fun s83 wx => s83 = .bool false ∧ wx = w6)
      case first =>
        cases KX
        all_goals
          go_wp2_with fail
          go_meet
          exact ⟨by simp [hbe, hN0]; try omega, rfl⟩
      case rest =>
        obtain ⟨rfl, rfl⟩ := hcut
        obtain ⟨w6, rfl⟩ : ∃ x : World, x = wc := ⟨_, rfl⟩
        go_wp2_with fail
        go_loopw [15] (fun s15 wr => ∃ (i : Nat), s15 = .int .i64 (i : Nat) ∧ i ≤ N ∧ Grows w6 wr) (fun i _ => N - (intOf i).toNat)
        case atStart => exact ⟨0, rfl, Nat.zero_le _, Below.refl _ _⟩
        case round =>
          clear mg_0 mg_1 mg_2 mg_l mg_f
          obtain ⟨i, rfl, hi, hgr⟩ := hrel
          obtain ⟨w7, rfl⟩ : ∃ x : World, x = wr := ⟨_, rfl⟩
          have mg7 := mg.grows hgr
          have rd7 := rd2.grows hgr
          have rt7 := rdt.grows hgr
          have rr7 := rd3.grows RSI.good hgr
          have s7 := Below.size hgr
          by_cases hlt : i < N
          · have i3 : (i : Int) < (N : Int) := by omega
            have hiL : i < L.length := by rw [HN.out]; exact hlt
            obtain ⟨hvl, hvb, hvk, hvd⟩ := HRW.out i hiL
            obtain ⟨b8, o8, u8, rfl, hb8, hc8, A6, c6, rfl, hr6, _⟩ := rr7.at_ i hiL
            generalize L[i] = v at *
            have CEV := fun W h hx h' => CE.out A6 v v.length c6 W rfl hvl h hx h'
            rw [hvd, hvk] at CEV
            have CEV' := Lib.hid CEV
            have HVB := Lib.hid hvb
            have y0 := mg7.ext.1; have y1 := mg7.ext.2.1; have y2 := mg7.ext.2.2; have y3 := ext_is hc8
            clear CEV hvb hvk hvd hiL rr7
            go_wp2_with fail
            ((refine wp_region_ext (by kernel_rfl) (by kernel_rfl) ?_); (repeat (go_big_quiet_step ((go_at_call 40; with_reducible exact extC (CEV'.out _ (Rd.ext rd7 _) (Rd.ext hr6 _) (Rd.ext rt7 _)))))); refine wpQuiet_nil ?_; rintro w9 ⟨w90, hw90⟩; have g9 := grows_of_ext hw90; clear hw90 w90)
            have hc9 : w9.cell? ⟨b8, o8 + i, none⟩ = some (.slice A6 v.length c6) := (g9.cell (p := ⟨b8, o8 + i, none⟩) hb8).trans hc8
            have hb9 : b8 < w9.heap.size := Nat.lt_of_lt_of_le hb8 (Below.size g9)
            have hr9 := hr6.grows g9
            have mg9 := mg7.grows g9
            have rd9 := rd7.grows g9
            have rt9 := rt7.grows g9
            have hg9 : Grows w6 w9 := by exact bel2 g9 hgr
            have s9 := Below.size hg9
            clear y0 y1 y2 y3 hc8 hb8 hr6 mg7 rd7 rt7 g9 CEV' hgr s7
            go_wp2_with fail
            go_loopw [18] (fun s18 wr => ∃ (j : Nat), s18 = .int .i64 (j : Nat) ∧ j ≤ v.length ∧ Grows w9 wr) (fun j _ => v.length - (intOf j).toNat)
            case atStart => exact ⟨0, rfl, Nat.zero_le _, Below.refl _ _⟩
            case round =>
              obtain ⟨j, rfl, hj, hgj⟩ := hrel
              obtain ⟨wj, rfl⟩ : ∃ x : World, x = wr := ⟨_, rfl⟩
              have hcj : wj.cell? ⟨b8, o8 + i, none⟩ = some (.slice A6 v.length c6) := (hgj.cell (p := ⟨b8, o8 + i, none⟩) hb9).trans hc9
              have hbj : b8 < wj.heap.size := Nat.lt_of_lt_of_le hb9 (Below.size hgj)
              have hrj := hr9.grows hgj
              have mgj := mg9.grows hgj
              have rdj := rd9.grows hgj
              have rtj := rt9.grows hgj
              have sj := Below.size hgj
              clear hc9 hb9 hr9 mg9 rd9 rt9
              by_cases hjl : j < v.length
              · have k1 : (j : Int) < (v.length : Int) := by omega
                have k6 : (j : Int) ≤ 6 := by omega
                go_wp2_with fail
                go_loopw [19] (fun s19 wr => ∃ (s : Int), s19 = .int .i64 s ∧ (s = -1 ∨ s = 1 ∨ s = 3) ∧ Grows wj wr) (fun s _ => (3 - intOf s).toNat)
                case atStart => exact ⟨-1, rfl, .inl rfl, Below.refl _ _⟩
                case round =>
                  obtain ⟨s, rfl, hs, hgs⟩ := hrel
                  obtain ⟨ws, rfl⟩ : ∃ x : World, x = wr := ⟨_, rfl⟩
                  by_cases hs1 : s ≤ 1
                  · have hs2 : -1 ≤ s := by omega
                    have hcs : ws.cell? ⟨b8, o8 + i, none⟩ = some (.slice A6 v.length c6) := (hgs.cell (p := ⟨b8, o8 + i, none⟩) hbj).trans hcj
                    have hbs : b8 < ws.heap.size := Nat.lt_of_lt_of_le hbj (Below.size hgs)
                    have hrs := hrj.grows hgs
                    have mgs := mgj.grows hgs
                    have rds := rdj.grows hgs
                    have rts := rtj.grows hgs
                    have ss := Below.size hgs
                    clear hcj hbj hrj mgj rdj rtj
                    obtain ⟨q, hq⟩ : ∃ q, nth v j = q := ⟨_, rfl⟩
                    have hqb := HVB.out j
                    rw [hq] at hqb
                    have hqb1 := hqb.1
                    have hqb2 := hqb.2
                    have HQ := Lib.hid hq
                    clear hqb hq
                    go_upto_region 27 with (at_builtin; refine wpList_app rfl (.tmp 120) (.tmp 124) rfl _ ws.heap.size _ [] (by rfl) (Own.new_ ws rfl (Nat.le_refl _)) A6 v v.length c6 (by rfl) rfl (by exact (Rd.grows hrs (by exact bel0))) (by simp; omega) (by simp) ?_; intro v4 w4 ho4 hg4 _; have g4 : Grows ws w4 := Below.trans (show Grows ws (ws.alloc (.cells #[] 3)) by exact bel0) (below_app (Own.new_ ws rfl (Nat.le_refl _)) (by simp) hg4); rw [List.nil_append] at ho4; clear hg4; obtain ⟨gy, cy, rfl, hgy1, hgy2⟩ := ho4.form (by omega); have hcy := ho4.cell j hjl; have hfy := ho4.free j; rw [HQ.out] at hcy)
                    obtain ⟨w5, hw5⟩ : ∃ w5, w5 = w4.setCell ⟨gy, j, none⟩ (.int .i64 (q + s)) := ⟨_, rfl⟩
                    have oy := ho4.set j (q + s)
                    rw [← hw5] at oy
                    have g5 : Grows ws w5 := by rw [hw5]; exact bel1 g4
                    have ry := oy.rd_
                    have HW5 := Lib.hid hw5
                    have mg4 := mgs.grows g5
                    have CY := fun W h hx h' => CE.out (some ⟨gy, 0, none⟩) (v.set j (q + s)) v.length cy W (by rw [List.length_set]) hvl h hx h'
                    have HM := HMI.out (v.set j (q + s))
                    generalize dF ⟨r, c, l⟩ t (v.set j (q + s)) = DY at *
                    generalize dK ⟨r, c, l⟩ t (v.set j (q + s)) = KY at *
                    have CY' := Lib.hid CY
                    have s5 := Below.size g5
                    have s4 := Below.size g4
                    obtain ⟨z0, z1, z2⟩ := mg4.cells
                    have zf := mg4.fz
                    have zl := mg4.lt
                    have mgl := mgs.lt
                    have n1 : ¬ (w2.heap.size = gy) := by omega
                    have n2 : ¬ (gy = w2.heap.size) := by omega
                    clear hw5 CY ho4 oy
                    go_upto_region 28 with fail
                    rw [← HW5.out]
                    go_wp2_with fail
                    refine (CY'.out _ (rds.grows g5) ry (rts.grows g5)).mono ?_; rintro e w10 ⟨rfl, g10⟩
                    clear z0 z1 z2 zf zl hcy hfy
                    cases KY
                    · clear HM
                      go_wp2_with fail
                      go_round
                      case rel => exact ⟨s + 2, by go_num, by omega, by exact bel3 g10 g5 hgs⟩
                      case measure => simp [intOf]; omega
                    · have hmin : ¬ DY < d := by have := HM rfl; omega
                      clear HM
                      go_wp2_with fail
                      go_round
                      case rel => exact ⟨s + 2, by go_num, by omega, by exact bel3 g10 g5 hgs⟩
                      case measure => simp [intOf]; omega
                  · obtain rfl : s = 3 := by omega
                    go_wp2_with fail
                    go_round
                    case rel => exact ⟨j + 1, by go_num, by omega, by exact bel2 hgs hgj⟩
                    case measure => simp [intOf]; omega
              · obtain rfl : j = v.length := by omega
                have k1 : ¬ (v.length : Int) < (v.length : Int) := by omega
                go_wp2_with fail
                go_round
                case rel => exact ⟨i + 1, by go_num, by omega, by exact bel2 hgj hg9⟩
                case measure => simp [intOf]; omega
          · obtain rfl : i = N := by omega
            have i3 : ¬ (i : Int) < (i : Int) := by omega
            go_wp2_with fail
            go_ret
            exact ⟨rfl, by exact bel2 hgr HG⟩
end
end Go.Proofs.Ytbfkpfdkndnhkaa


namespace Go.Proofs.Ytbfkpfdkndnhkaa
set_option linter.unusedSimpArgs false
set_option linter.unusedVariables false
open Go.ChangeShapes Go.WideShapes Go.ChangeAt Go.RowKit Go.Joins
set_option linter.unusedVariables false

set_option maxRecDepth 100000 in
theorem fnClosest_lifted (os : Os) (started : os.Started) (H : Type) (enc : TypeId × Value → H) :
    ReturnsInHanded {} Try.checked os 7 .any (Rows.fnClosestSpec.pre6 enc Try.prog Try.f7 Rows.fnClosestRow.domain false) (Rows.fnClosestSpec.post enc Try.prog Try.f7 false true false false) := by
  refine returnsInHanded_of_change (C := Try.checked) own started (by kernel_rfl) Try.func7
    (ChangeSpec.witness6 (enc := enc) (C := Try.checked) false ⟨#[], #[.slice none 0 0], []⟩ 8 (by kernel_rfl) (by kernel_rfl) (by kernel_rfl) (by kernel_rfl)) ?_
  intro W base args ds gs before hval0 hW hcnd _
  have hval : ∀ (j : Nat) t v, Try.f7.params[j]? = some t → args[j]? = some v → Value.okWide Try.prog W .any base t v := hval0
  have hW' := hW
  obtain ⟨p, q, hA0, hV, rfl, hfz, hnd⟩ := hW
  have hA : DataW.TrodAll enc Try.prog W 0 (fun _ => true) true Try.f7.params.toList args.toList ds p := hA0
  rw [Try.params7] at hA hval
  obtain ⟨v0, vs0, d0, ds0, p0, q0, hargs, rfl, rfl, h0, r0⟩ := trodAll_cons hA
  obtain ⟨rfl, rfl, rfl⟩ := trodAll_nil r0
  obtain rfl : args = #[v0] := by cases args; simp_all
  obtain ⟨rfl, rfl⟩ := trodVars_none hV
  have k0 := h0
  have lt0 : ∀ x ∈ p0, x.block < W.heap.size := by obtain ⟨m, hm⟩ := k0; exact DataW.trod_lt m _ _ _ hm
  obtain ⟨a00, len0, cap0, rfl⟩ := okWide_slice Try.underlying22 (hval 0 22 v0 rfl rfl)
  obtain ⟨A0, l0, c0, e0, ir0⟩ : ∃ A l c, Value.slice a00 len0 cap0 = .slice A (List.length l) c ∧ InCode W A l c := by obtain ⟨fuel, hf⟩ := h0; simp only [Value.cells] at hf; exact open_code hf
  rw [e0] at hval hW' k0 ⊢
  clear hA0 hval0
  refine (lawFcl_c A0 l0 c0 W ir0).mono fun e W' ⟨he, bel⟩ => ?_
  subst he
  exact ⟨_, rfl, _, _, _, [], _, [], hW', trodAll_mk1 (shut_bool Try.underlying4 _), (trodAll_cons_mk (Below.trod laidOut (by kernel_rfl) (of_decide_eq_true (by kernel_rfl)) k0 bel lt0) trodAll_mk0), rfl, bel.frame _, fun h => by cases h⟩

theorem fnClosest_closed : joinedFacts Try.pinned.checked.prog 7 Try.f7 Rows.fnClosestSpec Rows.fnClosestRow = true := by
  unfold joinedFacts
  rw [fLaid, fRowed, fStops, fEnter, fLift, fMake]
  change _ = true
  kernel_rfl
/-- The statement. -/
theorem fnClosest_holds : Rows.FnClosestSaid :=
  OpenClaim.holds_of_wide 7 Try.f7 rfl rfl rfl rfl rfl rfl rfl ⟨rfl, rfl, rfl, rfl, rfl⟩ rfl rfl rfl rfl rfl (by kernel_rfl) Try.func7 fnClosest_closed
    (of_decide_eq_true (by kernel_rfl)) (by unfold Func.isWrapper; first | (rw [if_pos (by decide +kernel)]; kernel_rfl) | (rw [if_neg (by decide +kernel)]; exact ⟨rfl, rfl⟩))
    (fun os started H enc _ => fnClosest_lifted os started H enc)
end Go.Proofs.Ytbfkpfdkndnhkaa
