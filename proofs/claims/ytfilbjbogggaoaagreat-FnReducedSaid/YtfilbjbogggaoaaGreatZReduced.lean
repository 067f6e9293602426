/- The row of FnReduced: proved for every input, no condition beyond those of the row. -/
import Derived.Test.YtfilbjbogggaoaaGreatPkDB
import Derived.Test.YtfilbjbogggaoaaGreatPkDr
import Derived.Test.YtfilbjbogggaoaaGreatPkRCD
import Derived.Test.YtfilbjbogggaoaaGreatPkRDD
import Derived.Test.YtfilbjbogggaoaaGreatPkVD
import Derived.Test.YtfilbjbogggaoaaGreatQFacts

namespace Go.Proofs.YtfilbjbogggaoaaGreat
set_option linter.unusedSimpArgs false
set_option linter.unusedVariables false
open Go.RowKit
set_option linter.unusedVariables false

theorem minRet_two {o : Option Int} {w w' : World} {e : Ending} (h : MinRet o w e w') : e = .returned (.tuple #[.int .i64 (oN o), .bool o.isSome]) ∧ Grows w w' := h
section
set_option maxHeartbeats 8000000
set_option maxRecDepth 100000
theorem lawRdd_c (A : Option Addr) (lc : List Int) (cap : Nat) (w : World) (hi : InCode w A lc cap) :
    Calls Tryz.prog 4 #[.slice A lc.length cap] w fun e w' => e = .returned (.bool true) ∧ Grows w w' := by
  obtain ⟨hr, hc1, hc2⟩ := hi
  simp only [maxLen] at hc2
  have CB := big_c A lc.length cap w (by omega)
  by_cases hn : lc.length ≤ 1048576
  rotate_left
  · rw [decide_eq_true (by omega)] at CB
    have CB' := Lib.hid CB
    clear CB
    go_enter Tryz.func4, Tryz.ntmps4
    go_wp2_with fail
    refine CB'.out.mono ?_; rintro e w' ⟨rfl, rfl⟩
    go_wp2_with fail
    go_ret
    exact ⟨rfl, by exact bel0⟩
  · rw [decide_eq_false (by omega)] at CB
    have CB' := Lib.hid CB
    have CD := Lib.hid (matDrawReduceGram_c A lc.length cap w hr hn)
    clear CB
    go_enter Tryz.func4, Tryz.ntmps4
    go_wp2_with fail
    refine CB'.out.mono ?_; rintro e w' ⟨rfl, h0⟩
    have h1 := h0.symm
    clear h0
    subst h1
    go_wp2_with fail
    refine CD.out.mono ?_; rintro e w2 ⟨r, c, V, cv, l, rfl, hrb, hl, o2, HG⟩
    have rd2 := o2.rd'
    obtain ⟨_, hcv, hcv2⟩ := o2.caps
    have h_w2 := Below.size HG
    have CI0 := fun W h => (iRg_c r c V l l.length cv W rfl hcv hcv2 h (by omega)).mono fun _ _ h => mat2_out h
    have CS0 := fun W h => (sRg_c r c V l l.length cv W rfl h (by omega)).mono fun _ _ h => mat2_out h
    rcases rdd_names ⟨r, c, l⟩ with ⟨U, hPU, hok, rfl⟩ | ⟨R, P, U, hPU, hok, hR6, hPl, hUl, hd, hcb, hrd, hmin⟩
    · rw [hPU, hok] at CI0 CS0
      simp only [MX.nil, List.length_nil] at CI0 CS0
      have CI := Lib.hid CI0
      have CS := Lib.hid CS0
      clear CD hr hc1 hc2 o2 hPU hok CI0 CS0
      go_wp2_with fail
      refine (CI.out _ (by exact Rd.grows rd2 (by exact bel0))).mono ?_; rintro e w3 ⟨v3, u3, rfl, o3, p3, _, g_w3⟩
      have s_w3 := Below.size g_w3; (try simp at s_w3)
      replace rd2 := rd2.grows (w' := w3) (by exact bel1 g_w3)
      have mg : MBox w3 (w2.heap.size) r c (.slice V l.length cv) := MBox.grows (MBox.new_ w2 r c (.slice V l.length cv) 26 (by simp)) (w' := w3) (by exact bel1 g_w3)
      have mg_0 := mg.c0; have mg_1 := mg.c1; have mg_2 := mg.c2; have mg_l := mg.lt; have mg_f := mg.fz
      replace HG : Grows w w3 := by exact bel2 g_w3 HG
      have h_w3 := Below.size HG
      obtain ⟨A3, c3, rfl, rd3, _⟩ := o3.val
      obtain ⟨B3, d3, rfl, re3, _⟩ := p3.val
      clear o3 p3 rd3 re3
      (try simp only [List.length_nil])
      go_wp2_with fail
      refine (CS.out _ (by exact Rd.grows rd2 (by exact bel0))).mono ?_; rintro e w4 ⟨v4, u4, rfl, o4, p4, _, g_w4⟩
      have s_w4 := Below.size g_w4; (try simp at s_w4)
      replace rd2 := rd2.grows (w' := w4) (by exact bel1 g_w4)
      clear mg_0 mg_1 mg_2 mg_l mg_f
      replace mg := mg.grows (w' := w4) (by exact bel1 g_w4)
      have mg_0 := mg.c0; have mg_1 := mg.c1; have mg_2 := mg.c2; have mg_l := mg.lt; have mg_f := mg.fz
      have mp : MBox w4 (w3.heap.size) 0 0 (.slice A3 0 c3) := MBox.grows (MBox.new_ w3 0 0 (.slice A3 0 c3) 26 (by simp)) (w' := w4) (by exact bel1 g_w4)
      have mp_0 := mp.c0; have mp_1 := mp.c1; have mp_2 := mp.c2; have mp_l := mp.lt; have mp_f := mp.fz
      have mu : MBox w4 (w3.heap.size + 1) 0 0 (.slice B3 0 d3) := MBox.grows (MBox.new_ (w3.alloc (.cells #[.int .i64 0, .int .i64 0, .slice A3 0 c3] 26)) 0 0 (.slice B3 0 d3) 26 (by simp)) (w' := w4) (by exact bel1 g_w4)
      have mu_0 := mu.c0; have mu_1 := mu.c1; have mu_2 := mu.c2; have mu_l := mu.lt; have mu_f := mu.fz
      replace HG : Grows w w4 := by exact bel2 g_w4 HG
      have h_w4 := Below.size HG
      obtain ⟨A4, c4, rfl, rd4, _⟩ := o4.val
      obtain ⟨B4, d4, rfl, re4, _⟩ := p4.val
      clear o4 p4 rd4 re4
      go_wp2_with fail
      go_ret
      exact ⟨rfl, by exact bel1 HG⟩
    · rw [hPU, hok] at CI0 CS0
      simp only at CI0 CS0
      have CI := Lib.hid CI0
      have CS := Lib.hid CS0
      have hP36 : P.length ≤ 36 := by rw [hPl]; exact Nat.mul_le_mul hR6 hR6
      have HPL := Lib.hid hPl
      clear hPl
      have CCB0 := fun Vu cu W h h' => (iCB_c r c U.r U.c V Vu l U.l l.length U.l.length cv cu W rfl rfl h h' (by omega) (by omega)).mono fun _ _ h => matRet_out h
      have CRI0 := fun Vp cp W h1 h2 h => iRed_c R R Vp P P.length cp W rfl h1 h2 h (by omega)
      have CRS0 := fun Vp cp W h => sRed_c R R Vp P P.length cp W rfl h (by omega)
      have CM0 := fun Vp cp W h1 h2 h => (iMin_c R R Vp P P.length cp W rfl h1 h2 h (by omega)).mono fun _ _ h => minRet_two h
      have CSa0 := fun Va ca Vb cb W h h' => sameMatrix_c R R R R Va Vb P P P.length P.length ca cb W rfl rfl h h' (by omega) (by omega)
      have CUn := Lib.hid fun Vu cu W h => lUni_c U.r U.c Vu U.l U.l.length cu W rfl h (by omega) hd
      have eqs : eqMat (R : Int) R P R R P = true := by unfold eqMat eqL; simp
      rw [eqs] at CSa0
      have HLC := Lib.hid (oM_length (o := cbO ⟨r, c, l⟩ U) fun m h => cbO_ok h)
      have hcb' : (cbO ⟨r, c, l⟩ ⟨U.r, U.c, U.l⟩).isSome = true → oM (cbO ⟨r, c, l⟩ ⟨U.r, U.c, U.l⟩) = ⟨R, R, P⟩ := hcb
      generalize cbO ⟨r, c, l⟩ ⟨U.r, U.c, U.l⟩ = HO at *
      generalize HO.isSome = one at *
      generalize oM HO = H at *
      generalize (rdcO ⟨R, R, P⟩).1 = gd at *
      generalize (rdcO ⟨R, R, P⟩).2 = two at *
      generalize minO ⟨R, R, P⟩ = MO at *
      have CCB := Lib.hid CCB0
      have CRI := Lib.hid CRI0
      have CRS := Lib.hid CRS0
      have CM := Lib.hid CM0
      have CSa := Lib.hid CSa0
      have HCB := Lib.hid hcb'
      have HRD := Lib.hid hrd
      have HMN := Lib.hid hmin
      clear CD hr hc1 hc2 o2 hPU hok CI0 CS0 CCB0 CRI0 CRS0 CM0 CSa0 hcb hcb' hrd hmin hd eqs HO
      go_wp2_with fail
      refine (CI.out _ (by exact Rd.grows rd2 (by exact bel0))).mono ?_; rintro e w3 ⟨v3, u3, rfl, o3, p3, _, g_w3⟩
      have s_w3 := Below.size g_w3; (try simp at s_w3)
      replace rd2 := rd2.grows (w' := w3) (by exact bel1 g_w3)
      have mg : MBox w3 (w2.heap.size) r c (.slice V l.length cv) := MBox.grows (MBox.new_ w2 r c (.slice V l.length cv) 26 (by simp)) (w' := w3) (by exact bel1 g_w3)
      have mg_0 := mg.c0; have mg_1 := mg.c1; have mg_2 := mg.c2; have mg_l := mg.lt; have mg_f := mg.fz
      replace HG : Grows w w3 := by exact bel2 g_w3 HG
      have h_w3 := Below.size HG
      obtain ⟨A3, c3, rfl, rd3, _⟩ := o3.val
      obtain ⟨B3, d3, rfl, re3, _⟩ := p3.val
      obtain ⟨_, hc3, hc3'⟩ := o3.caps
      clear o3 p3
      go_wp2_with fail
      refine (CS.out _ (by exact Rd.grows rd2 (by exact bel0))).mono ?_; rintro e w4 ⟨v4, u4, rfl, o4, p4, _, g_w4⟩
      have s_w4 := Below.size g_w4; (try simp at s_w4)
      replace rd2 := rd2.grows (w' := w4) (by exact bel1 g_w4)
      clear mg_0 mg_1 mg_2 mg_l mg_f
      replace mg := mg.grows (w' := w4) (by exact bel1 g_w4)
      have mg_0 := mg.c0; have mg_1 := mg.c1; have mg_2 := mg.c2; have mg_l := mg.lt; have mg_f := mg.fz
      replace rd3 := rd3.grows (w' := w4) (by exact bel1 g_w4)
      replace re3 := re3.grows (w' := w4) (by exact bel1 g_w4)
      have mp : MBox w4 (w3.heap.size) R R (.slice A3 P.length c3) := MBox.grows (MBox.new_ w3 R R (.slice A3 P.length c3) 26 (by simp)) (w' := w4) (by exact bel1 g_w4)
      have mp_0 := mp.c0; have mp_1 := mp.c1; have mp_2 := mp.c2; have mp_l := mp.lt; have mp_f := mp.fz
      have mu : MBox w4 (w3.heap.size + 1) U.r U.c (.slice B3 U.l.length d3) := MBox.grows (MBox.new_ (w3.alloc (.cells #[.int .i64 R, .int .i64 R, .slice A3 P.length c3] 26)) U.r U.c (.slice B3 U.l.length d3) 26 (by simp)) (w' := w4) (by exact bel1 g_w4)
      have mu_0 := mu.c0; have mu_1 := mu.c1; have mu_2 := mu.c2; have mu_l := mu.lt; have mu_f := mu.fz
      replace HG : Grows w w4 := by exact bel2 g_w4 HG
      have h_w4 := Below.size HG
      obtain ⟨A4, c4, rfl, rd4, _⟩ := o4.val
      obtain ⟨B4, d4, rfl, re4, _⟩ := p4.val
      clear o4 p4 rd4 re4 CI CS
      obtain ⟨w5, hw5⟩ : ∃ w5, w5 = ((w4.alloc (.cells #[.int .i64 R, .int .i64 R, .slice A4 P.length c4] 26)).alloc (.cells #[.int .i64 U.r, .int .i64 U.c, .slice B4 U.l.length d4] 26)) := ⟨_, rfl⟩
      have g5 : Grows w4 w5 := by rw [hw5]; exact bel0
      have HW5 := Lib.hid hw5
      clear hw5
      have s_w5 := Below.size g5; (try simp at s_w5)
      replace rd2 := rd2.grows (w' := w5) (by exact bel1 g5)
      clear mg_0 mg_1 mg_2 mg_l mg_f
      replace mg := mg.grows (w' := w5) (by exact bel1 g5)
      have mg_0 := mg.c0; have mg_1 := mg.c1; have mg_2 := mg.c2; have mg_l := mg.lt; have mg_f := mg.fz
      replace rd3 := rd3.grows (w' := w5) (by exact bel1 g5)
      replace re3 := re3.grows (w' := w5) (by exact bel1 g5)
      clear mp_0 mp_1 mp_2 mp_l mp_f
      replace mp := mp.grows (w' := w5) (by exact bel1 g5)
      have mp_0 := mp.c0; have mp_1 := mp.c1; have mp_2 := mp.c2; have mp_l := mp.lt; have mp_f := mp.fz
      clear mu_0 mu_1 mu_2 mu_l mu_f
      replace mu := mu.grows (w' := w5) (by exact bel1 g5)
      have mu_0 := mu.c0; have mu_1 := mu.c1; have mu_2 := mu.c2; have mu_l := mu.lt; have mu_f := mu.fz
      replace HG : Grows w w5 := by exact bel2 g5 HG
      have h_w5 := Below.size HG
      go_upto_region 10 with fail
      rw [← HW5.out]
      go_wp2_with fail
      refine (CCB.out _ _ _ (by exact Rd.grows rd2 (by exact bel0)) (by exact Rd.grows re3 (by exact bel0))).mono ?_; rintro e w6 ⟨v6, rfl, o6, g_w6⟩
      have s_w6 := Below.size g_w6; (try simp at s_w6)
      replace rd2 := rd2.grows (w' := w6) (by exact bel1 g_w6)
      clear mg_0 mg_1 mg_2 mg_l mg_f
      replace mg := mg.grows (w' := w6) (by exact bel1 g_w6)
      have mg_0 := mg.c0; have mg_1 := mg.c1; have mg_2 := mg.c2; have mg_l := mg.lt; have mg_f := mg.fz
      replace rd3 := rd3.grows (w' := w6) (by exact bel1 g_w6)
      replace re3 := re3.grows (w' := w6) (by exact bel1 g_w6)
      clear mp_0 mp_1 mp_2 mp_l mp_f
      replace mp := mp.grows (w' := w6) (by exact bel1 g_w6)
      have mp_0 := mp.c0; have mp_1 := mp.c1; have mp_2 := mp.c2; have mp_l := mp.lt; have mp_f := mp.fz
      clear mu_0 mu_1 mu_2 mu_l mu_f
      replace mu := mu.grows (w' := w6) (by exact bel1 g_w6)
      have mu_0 := mu.c0; have mu_1 := mu.c1; have mu_2 := mu.c2; have mu_l := mu.lt; have mu_f := mu.fz
      replace HG : Grows w w6 := by exact bel2 g_w6 HG
      have h_w6 := Below.size HG
      obtain ⟨A6, c6, rfl, rd6, _⟩ := o6.val
      clear o6 CCB
      go_wp2_with fail
      refine (CRI.out _ _ _ hc3 hc3' (by exact Rd.grows rd3 (by exact bel0))).mono ?_; rintro e w7 ⟨rfl, g_w7⟩
      have s_w7 := Below.size g_w7; (try simp at s_w7)
      replace rd2 := rd2.grows (w' := w7) (by exact bel1 g_w7)
      clear mg_0 mg_1 mg_2 mg_l mg_f
      replace mg := mg.grows (w' := w7) (by exact bel1 g_w7)
      have mg_0 := mg.c0; have mg_1 := mg.c1; have mg_2 := mg.c2; have mg_l := mg.lt; have mg_f := mg.fz
      replace rd3 := rd3.grows (w' := w7) (by exact bel1 g_w7)
      replace re3 := re3.grows (w' := w7) (by exact bel1 g_w7)
      clear mp_0 mp_1 mp_2 mp_l mp_f
      replace mp := mp.grows (w' := w7) (by exact bel1 g_w7)
      have mp_0 := mp.c0; have mp_1 := mp.c1; have mp_2 := mp.c2; have mp_l := mp.lt; have mp_f := mp.fz
      clear mu_0 mu_1 mu_2 mu_l mu_f
      replace mu := mu.grows (w' := w7) (by exact bel1 g_w7)
      have mu_0 := mu.c0; have mu_1 := mu.c1; have mu_2 := mu.c2; have mu_l := mu.lt; have mu_f := mu.fz
      replace rd6 := rd6.grows (w' := w7) (by exact bel1 g_w7)
      have mc : MBox w7 (w6.heap.size) H.r H.c (.slice A6 H.l.length c6) := MBox.grows (MBox.new_ w6 H.r H.c (.slice A6 H.l.length c6) 26 (by simp)) (w' := w7) (by exact bel1 g_w7)
      have mc_0 := mc.c0; have mc_1 := mc.c1; have mc_2 := mc.c2; have mc_l := mc.lt; have mc_f := mc.fz
      replace HG : Grows w w7 := by exact bel2 g_w7 HG
      have h_w7 := Below.size HG
      go_wp2_with fail
      refine (CRS.out _ _ _ (by exact Rd.grows rd3 (by exact bel0))).mono ?_; rintro e w8 ⟨rfl, g_w8⟩
      have s_w8 := Below.size g_w8; (try simp at s_w8)
      replace rd2 := rd2.grows (w' := w8) (by exact bel1 g_w8)
      clear mg_0 mg_1 mg_2 mg_l mg_f
      replace mg := mg.grows (w' := w8) (by exact bel1 g_w8)
      have mg_0 := mg.c0; have mg_1 := mg.c1; have mg_2 := mg.c2; have mg_l := mg.lt; have mg_f := mg.fz
      replace rd3 := rd3.grows (w' := w8) (by exact bel1 g_w8)
      replace re3 := re3.grows (w' := w8) (by exact bel1 g_w8)
      clear mp_0 mp_1 mp_2 mp_l mp_f
      replace mp := mp.grows (w' := w8) (by exact bel1 g_w8)
      have mp_0 := mp.c0; have mp_1 := mp.c1; have mp_2 := mp.c2; have mp_l := mp.lt; have mp_f := mp.fz
      clear mu_0 mu_1 mu_2 mu_l mu_f
      replace mu := mu.grows (w' := w8) (by exact bel1 g_w8)
      have mu_0 := mu.c0; have mu_1 := mu.c1; have mu_2 := mu.c2; have mu_l := mu.lt; have mu_f := mu.fz
      replace rd6 := rd6.grows (w' := w8) (by exact bel1 g_w8)
      clear mc_0 mc_1 mc_2 mc_l mc_f
      replace mc := mc.grows (w' := w8) (by exact bel1 g_w8)
      have mc_0 := mc.c0; have mc_1 := mc.c1; have mc_2 := mc.c2; have mc_l := mc.lt; have mc_f := mc.fz
      replace HG : Grows w w8 := by exact bel2 g_w8 HG
      have h_w8 := Below.size HG
      go_wp2_with fail
      refine (CM.out _ _ _ hc3 hc3' (by exact Rd.grows rd3 (by exact bel0))).mono ?_; rintro e w9 ⟨rfl, g_w9⟩
      have s_w9 := Below.size g_w9; (try simp at s_w9)
      replace rd2 := rd2.grows (w' := w9) (by exact bel1 g_w9)
      clear mg_0 mg_1 mg_2 mg_l mg_f
      replace mg := mg.grows (w' := w9) (by exact bel1 g_w9)
      have mg_0 := mg.c0; have mg_1 := mg.c1; have mg_2 := mg.c2; have mg_l := mg.lt; have mg_f := mg.fz
      replace rd3 := rd3.grows (w' := w9) (by exact bel1 g_w9)
      replace re3 := re3.grows (w' := w9) (by exact bel1 g_w9)
      clear mp_0 mp_1 mp_2 mp_l mp_f
      replace mp := mp.grows (w' := w9) (by exact bel1 g_w9)
      have mp_0 := mp.c0; have mp_1 := mp.c1; have mp_2 := mp.c2; have mp_l := mp.lt; have mp_f := mp.fz
      clear mu_0 mu_1 mu_2 mu_l mu_f
      replace mu := mu.grows (w' := w9) (by exact bel1 g_w9)
      have mu_0 := mu.c0; have mu_1 := mu.c1; have mu_2 := mu.c2; have mu_l := mu.lt; have mu_f := mu.fz
      replace rd6 := rd6.grows (w' := w9) (by exact bel1 g_w9)
      clear mc_0 mc_1 mc_2 mc_l mc_f
      replace mc := mc.grows (w' := w9) (by exact bel1 g_w9)
      have mc_0 := mc.c0; have mc_1 := mc.c1; have mc_2 := mc.c2; have mc_l := mc.lt; have mc_f := mc.fz
      replace HG : Grows w w9 := by exact bel2 g_w9 HG
      have h_w9 := Below.size HG
      clear CRI CRS CM
      go_upto_region 14 with fail
      go_cut [95] (fun s95 wx => s95 = .bool false ∧ Grows w9 wx)
      case first =>
        have HRD1 := HRD.out
        have HCB1 := HCB.out
        clear HRD HCB HMN
        go_wp2_with fail
        refine (CUn.out _ _ _ (Rd.grows re3 (by exact bel0))).mono ?_; rintro e w10 ⟨rfl, g10⟩
        have mc10 := mc.grows g10
        have mp10 := mp.grows g10
        have rd6x := rd6.grows g10
        have rd3x := rd3.grows g10
        clear mg_0 mg_1 mg_2 mg_l mg_f mp_0 mp_1 mp_2 mp_l mp_f mu_0 mu_1 mu_2 mu_l mu_f mc_0 mc_1 mc_2 mc_l mc_f
        cases one
        · clear HCB1
          cases two
          · clear HRD1; go_wp2_with fail; go_meet; exact ⟨rfl, by exact bel1 g10⟩
          · obtain rfl := HRD1 rfl
            clear HRD1
            go_wp2_with fail; go_meet; exact ⟨rfl, by exact bel1 g10⟩
        · obtain rfl := HCB1 rfl
          clear HCB1
          have mc11 : MBox w10 w6.heap.size R R (.slice A6 P.length c6) := mc10
          have rd6y : Rd w10 A6 P := rd6x
          clear mc10 rd6x
          obtain ⟨m0, m1, m2⟩ := mc11.cells
          obtain ⟨p0, p1, p2⟩ := mp10.cells
          have ml := mc11.lt
          have pl := mp10.lt
          cases two
          · clear HRD1
            go_wp2_with fail
            refine (CSa.out _ _ _ _ _ (Rd.grows rd6y (by exact bel0)) (Rd.grows rd3x (by exact bel0))).mono ?_; rintro e w11 ⟨rfl, g11⟩
            go_wp2_with fail; go_meet; exact ⟨rfl, by exact bel2 g11 g10⟩
          · obtain rfl := HRD1 rfl
            clear HRD1
            go_wp2_with fail
            refine (CSa.out _ _ _ _ _ (Rd.grows rd6y (by exact bel0)) (Rd.grows rd3x (by exact bel0))).mono ?_; rintro e w11 ⟨rfl, g11⟩
            go_wp2_with fail; go_meet; exact ⟨rfl, by exact bel2 g11 g10⟩
      case rest =>
        obtain ⟨rfl, hg10⟩ := hcut
        obtain ⟨w10, rfl⟩ : ∃ x : World, x = wc := ⟨_, rfl⟩
        clear CSa HCB HRD CUn
        have s_w10 := Below.size hg10; (try simp at s_w10)
        replace rd2 := rd2.grows (w' := w10) (by exact bel1 hg10)
        clear mg_0 mg_1 mg_2 mg_l mg_f
        replace mg := mg.grows (w' := w10) (by exact bel1 hg10)
        have mg_0 := mg.c0; have mg_1 := mg.c1; have mg_2 := mg.c2; have mg_l := mg.lt; have mg_f := mg.fz
        replace rd3 := rd3.grows (w' := w10) (by exact bel1 hg10)
        replace re3 := re3.grows (w' := w10) (by exact bel1 hg10)
        clear mp_0 mp_1 mp_2 mp_l mp_f
        replace mp := mp.grows (w' := w10) (by exact bel1 hg10)
        have mp_0 := mp.c0; have mp_1 := mp.c1; have mp_2 := mp.c2; have mp_l := mp.lt; have mp_f := mp.fz
        clear mu_0 mu_1 mu_2 mu_l mu_f
        replace mu := mu.grows (w' := w10) (by exact bel1 hg10)
        have mu_0 := mu.c0; have mu_1 := mu.c1; have mu_2 := mu.c2; have mu_l := mu.lt; have mu_f := mu.fz
        replace rd6 := rd6.grows (w' := w10) (by exact bel1 hg10)
        clear mc_0 mc_1 mc_2 mc_l mc_f
        replace mc := mc.grows (w' := w10) (by exact bel1 hg10)
        have mc_0 := mc.c0; have mc_1 := mc.c1; have mc_2 := mc.c2; have mc_l := mc.lt; have mc_f := mc.fz
        replace HG : Grows w w10 := by exact bel2 hg10 HG
        have h_w10 := Below.size HG
        clear mg_0 mg_1 mg_2 mg_l mg_f mu_0 mu_1 mu_2 mu_l mu_f mc_0 mc_1 mc_2 mc_l mc_f mg mu mc rd2 re3 rd6
        cases MO with
        | none =>
          go_wp2_with fail
          go_quiet (fail)
          go_wp2_with fail
          go_ret
          exact ⟨rfl, by exact bel1 HG⟩
        | some n =>
          obtain ⟨hR1, hn1, hn2, hle⟩ := HMN.out n rfl
          have hP0 : 0 < P.length := by rw [HPL.out]; exact Nat.mul_pos hR1 hR1
          have hP0' : (0 : Int) < (P.length : Int) := by omega
          obtain ⟨b8, o8, rfl, hb8, hc8⟩ := rd3.at_ 0 hP0
          simp only [Nat.add_zero] at hc8
          generalize nth P 0 = y at *
          have e0 : oN (some n) = n := rfl
          clear HMN HPL
          rcases (show R = 1 ∨ R = 2 ∨ R = 3 ∨ R = 4 ∨ R = 5 ∨ R = 6 by omega) with rfl | rfl | rfl | rfl | rfl | rfl
          · have hw : IntKind.i64.wrap n = n := IntWalk.i64_in _ (by omega)
            have hy : y ≤ n := by have h : y ≤ n * 1 := hle; omega
            have mp' : MBox w10 w3.heap.size 1 1 (.slice (some ⟨b8, o8, none⟩) P.length c3) := mp
            clear mp mp_0 mp_1 mp_2 mp_l mp_f hle
            have x0 := mp'.ext.1; have x1 := mp'.ext.2.1; have x2 := mp'.ext.2.2; have x3 := ext_is hc8
            go_wp2_with fail
            ((refine wp_region_ext (by kernel_rfl) (by kernel_rfl) ?_); (repeat (go_big_quiet_step (fail))); refine wpQuiet_nil ?_; rintro w11 ⟨w110, hw110⟩; have g11 := grows_of_ext hw110; clear hw110 w110)
            go_wp2_with fail
            go_ret
            exact ⟨rfl, by exact bel2 g11 HG⟩
          · have hw : IntKind.i64.wrap (n * 2 ^ 1) = n * 2 := by rw [IntWalk.i64_in _ (by omega)]; omega
            have hw2 : IntKind.i64.wrap (n * 2) = n * 2 := IntWalk.i64_in _ (by omega)
            have hy : y ≤ n * 2 := hle
            have mp' : MBox w10 w3.heap.size 2 2 (.slice (some ⟨b8, o8, none⟩) P.length c3) := mp
            clear mp mp_0 mp_1 mp_2 mp_l mp_f hle
            have x0 := mp'.ext.1; have x1 := mp'.ext.2.1; have x2 := mp'.ext.2.2; have x3 := ext_is hc8
            go_wp2_with fail
            ((refine wp_region_ext (by kernel_rfl) (by kernel_rfl) ?_); (repeat (go_big_quiet_step (fail))); refine wpQuiet_nil ?_; rintro w11 ⟨w110, hw110⟩; have g11 := grows_of_ext hw110; clear hw110 w110)
            go_wp2_with fail
            go_ret
            exact ⟨rfl, by exact bel2 g11 HG⟩
          · have hw : IntKind.i64.wrap (n * 2 ^ 2) = n * 4 := by rw [IntWalk.i64_in _ (by omega)]; omega
            have hw2 : IntKind.i64.wrap (n * 4) = n * 4 := IntWalk.i64_in _ (by omega)
            have hy : y ≤ n * 4 := hle
            have mp' : MBox w10 w3.heap.size 3 3 (.slice (some ⟨b8, o8, none⟩) P.length c3) := mp
            clear mp mp_0 mp_1 mp_2 mp_l mp_f hle
            have x0 := mp'.ext.1; have x1 := mp'.ext.2.1; have x2 := mp'.ext.2.2; have x3 := ext_is hc8
            go_wp2_with fail
            ((refine wp_region_ext (by kernel_rfl) (by kernel_rfl) ?_); (repeat (go_big_quiet_step (fail))); refine wpQuiet_nil ?_; rintro w11 ⟨w110, hw110⟩; have g11 := grows_of_ext hw110; clear hw110 w110)
            go_wp2_with fail
            go_ret
            exact ⟨rfl, by exact bel2 g11 HG⟩
          · have hw : IntKind.i64.wrap (n * 2 ^ 3) = n * 8 := by rw [IntWalk.i64_in _ (by omega)]; omega
            have hw2 : IntKind.i64.wrap (n * 8) = n * 8 := IntWalk.i64_in _ (by omega)
            have hy : y ≤ n * 8 := hle
            have mp' : MBox w10 w3.heap.size 4 4 (.slice (some ⟨b8, o8, none⟩) P.length c3) := mp
            clear mp mp_0 mp_1 mp_2 mp_l mp_f hle
            have x0 := mp'.ext.1; have x1 := mp'.ext.2.1; have x2 := mp'.ext.2.2; have x3 := ext_is hc8
            go_wp2_with fail
            ((refine wp_region_ext (by kernel_rfl) (by kernel_rfl) ?_); (repeat (go_big_quiet_step (fail))); refine wpQuiet_nil ?_; rintro w11 ⟨w110, hw110⟩; have g11 := grows_of_ext hw110; clear hw110 w110)
            go_wp2_with fail
            go_ret
            exact ⟨rfl, by exact bel2 g11 HG⟩
          · have hw : IntKind.i64.wrap (n * 2 ^ 4) = n * 16 := by rw [IntWalk.i64_in _ (by omega)]; omega
            have hw2 : IntKind.i64.wrap (n * 16) = n * 16 := IntWalk.i64_in _ (by omega)
            have hy : y ≤ n * 16 := hle
            have mp' : MBox w10 w3.heap.size 5 5 (.slice (some ⟨b8, o8, none⟩) P.length c3) := mp
            clear mp mp_0 mp_1 mp_2 mp_l mp_f hle
            have x0 := mp'.ext.1; have x1 := mp'.ext.2.1; have x2 := mp'.ext.2.2; have x3 := ext_is hc8
            go_wp2_with fail
            ((refine wp_region_ext (by kernel_rfl) (by kernel_rfl) ?_); (repeat (go_big_quiet_step (fail))); refine wpQuiet_nil ?_; rintro w11 ⟨w110, hw110⟩; have g11 := grows_of_ext hw110; clear hw110 w110)
            go_wp2_with fail
            go_ret
            exact ⟨rfl, by exact bel2 g11 HG⟩
          · have hw : IntKind.i64.wrap (n * 2 ^ 5) = n * 32 := by rw [IntWalk.i64_in _ (by omega)]; omega
            have hw2 : IntKind.i64.wrap (n * 32) = n * 32 := IntWalk.i64_in _ (by omega)
            have hy : y ≤ n * 32 := hle
            have mp' : MBox w10 w3.heap.size 6 6 (.slice (some ⟨b8, o8, none⟩) P.length c3) := mp
            clear mp mp_0 mp_1 mp_2 mp_l mp_f hle
            have x0 := mp'.ext.1; have x1 := mp'.ext.2.1; have x2 := mp'.ext.2.2; have x3 := ext_is hc8
            go_wp2_with fail
            ((refine wp_region_ext (by kernel_rfl) (by kernel_rfl) ?_); (repeat (go_big_quiet_step (fail))); refine wpQuiet_nil ?_; rintro w11 ⟨w110, hw110⟩; have g11 := grows_of_ext hw110; clear hw110 w110)
            go_wp2_with fail
            go_ret
            exact ⟨rfl, by exact bel2 g11 HG⟩
end
end Go.Proofs.YtfilbjbogggaoaaGreat


namespace Go.Proofs.YtfilbjbogggaoaaGreat
set_option linter.unusedSimpArgs false
set_option linter.unusedVariables false
open Go.ChangeShapes Go.WideShapes Go.ChangeAt Go.RowKit Go.Joins
set_option linter.unusedVariables false

set_option maxRecDepth 100000 in
theorem fnReduced_lifted (os : Os) (started : os.Started) (H : Type) (enc : TypeId × Value → H) :
    ReturnsInHanded {} Tryz.checked os 4 .any (Rows.fnReducedSpec.pre6 enc Tryz.prog Tryz.f4 Rows.fnReducedRow.domain false) (Rows.fnReducedSpec.post enc Tryz.prog Tryz.f4 false true false false) := by
  refine returnsInHanded_of_change (C := Tryz.checked) own started (by kernel_rfl) Tryz.func4
    (ChangeSpec.witness6 (enc := enc) (C := Tryz.checked) false ⟨#[], #[.slice none 0 0], []⟩ 8 (by kernel_rfl) (by kernel_rfl) (by kernel_rfl) (by kernel_rfl)) ?_
  intro W base args ds gs before hval0 hW hcnd _
  have hval : ∀ (j : Nat) t v, Tryz.f4.params[j]? = some t → args[j]? = some v → Value.okWide Tryz.prog W .any base t v := hval0
  have hW' := hW
  obtain ⟨p, q, hA0, hV, rfl, hfz, hnd⟩ := hW
  have hA : DataW.TrodAll enc Tryz.prog W 0 (fun _ => true) true Tryz.f4.params.toList args.toList ds p := hA0
  rw [Tryz.params4] at hA hval
  obtain ⟨v0, vs0, d0, ds0, p0, q0, hargs, rfl, rfl, h0, r0⟩ := trodAll_cons hA
  obtain ⟨rfl, rfl, rfl⟩ := trodAll_nil r0
  obtain rfl : args = #[v0] := by cases args; simp_all
  obtain ⟨rfl, rfl⟩ := trodVars_none hV
  have k0 := h0
  have lt0 : ∀ x ∈ p0, x.block < W.heap.size := by obtain ⟨m, hm⟩ := k0; exact DataW.trod_lt m _ _ _ hm
  obtain ⟨a00, len0, cap0, rfl⟩ := okWide_slice Tryz.underlying22 (hval 0 22 v0 rfl rfl)
  obtain ⟨A0, l0, c0, e0, ir0⟩ : ∃ A l c, Value.slice a00 len0 cap0 = .slice A (List.length l) c ∧ InCode W A l c := by obtain ⟨fuel, hf⟩ := h0; simp only [Value.cells] at hf; exact open_code hf
  rw [e0] at hval hW' k0 ⊢
  clear hA0 hval0
  refine (lawRdd_c A0 l0 c0 W ir0).mono fun e W' ⟨he, bel⟩ => ?_
  subst he
  exact ⟨_, rfl, _, _, _, [], _, [], hW', trodAll_mk1 (shut_bool Tryz.underlying4 _), (trodAll_cons_mk (Below.trod laidOut (by kernel_rfl) (of_decide_eq_true (by kernel_rfl)) k0 bel lt0) trodAll_mk0), rfl, bel.frame _, fun h => by cases h⟩

theorem fnReduced_closed : joinedFacts Tryz.pinned.checked.prog 4 Tryz.f4 Rows.fnReducedSpec Rows.fnReducedRow = true := by
  unfold joinedFacts
  rw [fLaid, fRowed, fStops, fEnter, fLift, fMake]
  change _ = true
  kernel_rfl
/-- The statement. -/
theorem fnReduced_holds : Rows.FnReducedSaid :=
  OpenClaim.holds_of_wide 4 Tryz.f4 rfl rfl rfl rfl rfl rfl rfl ⟨rfl, rfl, rfl, rfl, rfl⟩ rfl rfl rfl rfl rfl (by kernel_rfl) Tryz.func4 fnReduced_closed
    (of_decide_eq_true (by kernel_rfl)) (by unfold Func.isWrapper; first | (rw [if_pos (by decide +kernel)]; kernel_rfl) | (rw [if_neg (by decide +kernel)]; exact ⟨rfl, rfl⟩))
    (fun os started H enc _ => fnReduced_lifted os started H enc)
end Go.Proofs.YtfilbjbogggaoaaGreat
