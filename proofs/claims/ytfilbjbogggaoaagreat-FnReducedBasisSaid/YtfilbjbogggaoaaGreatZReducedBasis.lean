/- The row of FnReducedBasis: proved for every input, no condition beyond those of the row. -/
import Derived.Test.YtfilbjbogggaoaaGreatPkDr
import Derived.Test.YtfilbjbogggaoaaGreatPkRD
import Derived.Test.YtfilbjbogggaoaaGreatPkRX
import Derived.Test.YtfilbjbogggaoaaGreatQFacts

namespace Go.Proofs.YtfilbjbogggaoaaGreat
set_option linter.unusedSimpArgs false
set_option linter.unusedVariables false
open Go.RowKit
set_option linter.unusedVariables false

section
set_option maxHeartbeats 8000000
set_option maxRecDepth 100000
theorem lawRbs_c (A : Option Addr) (lc : List Int) (cap : Nat) (w : World) (hi : InCode w A lc cap) :
    Calls Tryz.prog 5 #[.slice A lc.length cap] w fun e w' => e = .returned (.bool true) ∧ Grows w w' := by
  obtain ⟨hr, hc1, hc2⟩ := hi
  simp only [maxLen] at hc2
  have CB := big_c A lc.length cap w (by omega)
  by_cases hn : lc.length ≤ 1048576
  rotate_left
  · rw [decide_eq_true (by omega)] at CB
    have CB' := Lib.hid CB
    clear CB
    go_enter Tryz.func5, Tryz.ntmps5
    go_wp2_with fail
    refine CB'.out.mono ?_; rintro e w' ⟨rfl, rfl⟩
    go_wp2_with fail
    go_ret
    exact ⟨rfl, by exact bel0⟩
  · rw [decide_eq_false (by omega)] at CB
    have CB' := Lib.hid CB
    have CD := Lib.hid (drawRbs_c A lc.length cap w hr hn)
    clear CB
    go_enter Tryz.func5, Tryz.ntmps5
    go_wp2_with fail
    refine CB'.out.mono ?_; rintro e w' ⟨rfl, h0⟩
    have h1 := h0.symm
    clear h0
    subst h1
    go_wp2_with fail
    refine CD.out.mono ?_; rintro e w2 ⟨r, c, V, cv, l, rfl, hrb, hl, o2, HG⟩
    have rd2 := o2.rd'
    have h_w2 := Below.size HG
    obtain ⟨P, U, ok, hP, hU, hok, hPl, hUl, hno, hyes⟩ := rbs_names ⟨r, c, l⟩
    have CI0 := fun W h => (iRb_c r c V l l.length cv W rfl h (by omega)).mono fun _ _ h => mat2_out h
    have CS0 := fun W h => (sRb_c r c V l l.length cv W rfl h (by omega)).mono fun _ _ h => mat2_out h
    rw [hP, hU, hok] at CI0 CS0
    have CI := Lib.hid CI0
    have CS := Lib.hid CS0
    have HNO := Lib.hid hno
    have HYES := Lib.hid hyes
    clear CD hr hc1 hc2 o2 hP hU hok CI0 CS0 hno hyes
    cases ok
    · obtain ⟨n1, n2⟩ := HNO.out rfl
      clear HNO HYES
      go_wp2_with fail
      refine (CI.out _ (by exact Rd.grows rd2 (by exact bel0))).mono ?_; rintro e w3 ⟨v3, u3, rfl, o3, p3, _, g_w3⟩
      have s_w3 := Below.size g_w3; (try simp at s_w3)
      replace rd2 := rd2.grows (w' := w3) (by exact bel1 g_w3)
      have mg : MBox w3 (w2.heap.size) r c (.slice V l.length cv) := MBox.grows (MBox.new_ w2 r c (.slice V l.length cv) 26 (by simp)) (w' := w3) (by exact bel1 g_w3)
      have mg_0 := mg.c0; have mg_1 := mg.c1; have mg_2 := mg.c2; have mg_l := mg.lt; have mg_f := mg.fz
      replace HG : Grows w w3 := by exact bel2 g_w3 HG
      have h_w3 := Below.size HG
      obtain ⟨A3, c3, rfl, rd3, _⟩ := o3.val
      obtain ⟨B3, d3, rfl, re3, _⟩ := p3.val
      clear o3 p3 rd3 re3
      rw [n1, n2]
      go_wp2_with fail
      refine (CS.out _ (by exact Rd.grows rd2 (by exact bel0))).mono ?_; rintro e w4 ⟨v4, u4, rfl, o4, p4, _, g_w4⟩
      have s_w4 := Below.size g_w4; (try simp at s_w4)
      replace rd2 := rd2.grows (w' := w4) (by exact bel1 g_w4)
      clear mg_0 mg_1 mg_2 mg_l mg_f
      replace mg := mg.grows (w' := w4) (by exact bel1 g_w4)
      have mg_0 := mg.c0; have mg_1 := mg.c1; have mg_2 := mg.c2; have mg_l := mg.lt; have mg_f := mg.fz
      have mp : MBox w4 (w3.heap.size) P.r P.c (.slice A3 0 c3) := MBox.grows (MBox.new_ w3 P.r P.c (.slice A3 0 c3) 26 (by simp)) (w' := w4) (by exact bel1 g_w4)
      have mp_0 := mp.c0; have mp_1 := mp.c1; have mp_2 := mp.c2; have mp_l := mp.lt; have mp_f := mp.fz
      have mu : MBox w4 (w3.heap.size + 1) U.r U.c (.slice B3 0 d3) := MBox.grows (MBox.new_ (w3.alloc (.cells #[.int .i64 P.r, .int .i64 P.c, .slice A3 0 c3] 26)) U.r U.c (.slice B3 0 d3) 26 (by simp)) (w' := w4) (by exact bel1 g_w4)
      have mu_0 := mu.c0; have mu_1 := mu.c1; have mu_2 := mu.c2; have mu_l := mu.lt; have mu_f := mu.fz
      replace HG : Grows w w4 := by exact bel2 g_w4 HG
      have h_w4 := Below.size HG
      obtain ⟨A4, c4, rfl, rd4, _⟩ := o4.val
      obtain ⟨B4, d4, rfl, re4, _⟩ := p4.val
      clear o4 p4 rd4 re4 n1 n2
      go_wp2_with fail
      go_ret
      exact ⟨rfl, by exact bel1 HG⟩
    · obtain ⟨hm, hd, hs⟩ := HYES.out rfl
      clear HNO HYES
      have CSm0 := fun Vp cp W h h' => iSml_c P.r P.c r c Vp V P.l l P.l.length l.length cp cv W rfl rfl h h' (by omega) (by omega)
      have CMu0 := fun Vu cu W h h' => (iMul_m U.r U.c r c Vu V U.l l U.l.length l.length cu cv W rfl rfl h h' (by omega) (by omega)).mono fun _ _ h => matRet_out h
      have CSa0 := fun Va ca Vb cb W h h' => sameMatrix_c P.r P.c P.r P.c Va Vb P.l P.l P.l.length P.l.length ca cb W rfl rfl h h' (by omega) (by omega)
      have CUn := Lib.hid fun Vu cu W h => lUni_c U.r U.c Vu U.l U.l.length cu W rfl h (by omega) hd
      rw [show mulO ⟨U.r, U.c, U.l⟩ ⟨r, c, l⟩ = some P from hm] at CMu0
      rw [eqMat_self] at CSa0
      have hs' : (smlB ⟨P.r, P.c, P.l⟩ ⟨r, c, l⟩).2 = true → (smlB ⟨P.r, P.c, P.l⟩ ⟨r, c, l⟩).1 = true := hs
      generalize (smlB ⟨P.r, P.c, P.l⟩ ⟨r, c, l⟩).2 = kn at *
      generalize (smlB ⟨P.r, P.c, P.l⟩ ⟨r, c, l⟩).1 = sm at *
      have CSm := Lib.hid CSm0
      have CMu := Lib.hid CMu0
      have CSa := Lib.hid CSa0
      have HS := Lib.hid hs'
      clear hm hd hs hs' CSm0 CMu0 CSa0
      go_wp2_with fail
      refine (CI.out _ (by exact Rd.grows rd2 (by exact bel0))).mono ?_; rintro e w3 ⟨v3, u3, rfl, o3, p3, _, g_w3⟩
      have s_w3 := Below.size g_w3; (try simp at s_w3)
      replace rd2 := rd2.grows (w' := w3) (by exact bel1 g_w3)
      have mg : MBox w3 (w2.heap.size) r c (.slice V l.length cv) := MBox.grows (MBox.new_ w2 r c (.slice V l.length cv) 26 (by simp)) (w' := w3) (by exact bel1 g_w3)
      have mg_0 := mg.c0; have mg_1 := mg.c1; have mg_2 := mg.c2; have mg_l := mg.lt; have mg_f := mg.fz
      replace HG : Grows w w3 := by exact bel2 g_w3 HG
      have h_w3 := Below.size HG
      obtain ⟨A3, c3, rfl, rd3, _⟩ := o3.val
      obtain ⟨B3, d3, rfl, re3, _⟩ := p3.val
      clear o3 p3
      go_wp2_with fail
      refine (CS.out _ (by exact Rd.grows rd2 (by exact bel0))).mono ?_; rintro e w4 ⟨v4, u4, rfl, o4, p4, _, g_w4⟩
      have s_w4 := Below.size g_w4; (try simp at s_w4)
      replace rd2 := rd2.grows (w' := w4) (by exact bel1 g_w4)
      clear mg_0 mg_1 mg_2 mg_l mg_f
      replace mg := mg.grows (w' := w4) (by exact bel1 g_w4)
      have mg_0 := mg.c0; have mg_1 := mg.c1; have mg_2 := mg.c2; have mg_l := mg.lt; have mg_f := mg.fz
      replace rd3 := rd3.grows (w' := w4) (by exact bel1 g_w4)
      replace re3 := re3.grows (w' := w4) (by exact bel1 g_w4)
      have mp : MBox w4 (w3.heap.size) P.r P.c (.slice A3 P.l.length c3) := MBox.grows (MBox.new_ w3 P.r P.c (.slice A3 P.l.length c3) 26 (by simp)) (w' := w4) (by exact bel1 g_w4)
      have mp_0 := mp.c0; have mp_1 := mp.c1; have mp_2 := mp.c2; have mp_l := mp.lt; have mp_f := mp.fz
      have mu : MBox w4 (w3.heap.size + 1) U.r U.c (.slice B3 U.l.length d3) := MBox.grows (MBox.new_ (w3.alloc (.cells #[.int .i64 P.r, .int .i64 P.c, .slice A3 P.l.length c3] 26)) U.r U.c (.slice B3 U.l.length d3) 26 (by simp)) (w' := w4) (by exact bel1 g_w4)
      have mu_0 := mu.c0; have mu_1 := mu.c1; have mu_2 := mu.c2; have mu_l := mu.lt; have mu_f := mu.fz
      replace HG : Grows w w4 := by exact bel2 g_w4 HG
      have h_w4 := Below.size HG
      obtain ⟨A4, c4, rfl, rd4, _⟩ := o4.val
      obtain ⟨B4, d4, rfl, re4, _⟩ := p4.val
      clear o4 p4 rd4 re4 CI CS
      obtain ⟨w5, hw5⟩ : ∃ w5, w5 = ((w4.alloc (.cells #[.int .i64 P.r, .int .i64 P.c, .slice A4 P.l.length c4] 26)).alloc (.cells #[.int .i64 U.r, .int .i64 U.c, .slice B4 U.l.length d4] 26)) := ⟨_, rfl⟩
      have g5 : Grows w4 w5 := by rw [hw5]; exact bel0
      have HW5 := Lib.hid hw5
      clear hw5
      have s_w5 := Below.size g5; (try simp at s_w5)
      replace rd2 := rd2.grows (w' := w5) (by exact bel1 g5)
      clear mg_0 mg_1 mg_2 mg_l mg_f
      replace mg := mg.grows (w' := w5) (by exact bel1 g5)
      have mg_0 := mg.c0; have mg_1 := mg.c1; have mg_2 := mg.c2; have mg_l := mg.lt; have mg_f := mg.fz
      replace rd3 := rd3.grows (w' := w5) (by exact bel1 g5)
      replace re3 := re3.grows (w' := w5) (by exact bel1 g5)
      clear mp_0 mp_1 mp_2 mp_l mp_f
      replace mp := mp.grows (w' := w5) (by exact bel1 g5)
      have mp_0 := mp.c0; have mp_1 := mp.c1; have mp_2 := mp.c2; have mp_l := mp.lt; have mp_f := mp.fz
      clear mu_0 mu_1 mu_2 mu_l mu_f
      replace mu := mu.grows (w' := w5) (by exact bel1 g5)
      have mu_0 := mu.c0; have mu_1 := mu.c1; have mu_2 := mu.c2; have mu_l := mu.lt; have mu_f := mu.fz
      replace HG : Grows w w5 := by exact bel2 g5 HG
      have h_w5 := Below.size HG
      go_upto_region 10 with fail
      rw [← HW5.out]
      go_wp2_with fail
      refine (CSm.out _ _ _ (by exact Rd.grows rd3 (by exact bel0)) (by exact Rd.grows rd2 (by exact bel0))).mono ?_; rintro e w6 ⟨rfl, g_w6⟩
      have s_w6 := Below.size g_w6; (try simp at s_w6)
      replace rd2 := rd2.grows (w' := w6) (by exact bel1 g_w6)
      clear mg_0 mg_1 mg_2 mg_l mg_f
      replace mg := mg.grows (w' := w6) (by exact bel1 g_w6)
      have mg_0 := mg.c0; have mg_1 := mg.c1; have mg_2 := mg.c2; have mg_l := mg.lt; have mg_f := mg.fz
      replace rd3 := rd3.grows (w' := w6) (by exact bel1 g_w6)
      replace re3 := re3.grows (w' := w6) (by exact bel1 g_w6)
      clear mp_0 mp_1 mp_2 mp_l mp_f
      replace mp := mp.grows (w' := w6) (by exact bel1 g_w6)
      have mp_0 := mp.c0; have mp_1 := mp.c1; have mp_2 := mp.c2; have mp_l := mp.lt; have mp_f := mp.fz
      clear mu_0 mu_1 mu_2 mu_l mu_f
      replace mu := mu.grows (w' := w6) (by exact bel1 g_w6)
      have mu_0 := mu.c0; have mu_1 := mu.c1; have mu_2 := mu.c2; have mu_l := mu.lt; have mu_f := mu.fz
      replace HG : Grows w w6 := by exact bel2 g_w6 HG
      have h_w6 := Below.size HG
      go_wp2_with fail
      refine (CMu.out _ _ _ (by exact Rd.grows re3 (by exact bel0)) (by exact Rd.grows rd2 (by exact bel0))).mono ?_; rintro e w7 ⟨v7, rfl, o7, g_w7⟩
      have s_w7 := Below.size g_w7; (try simp at s_w7)
      replace rd2 := rd2.grows (w' := w7) (by exact bel1 g_w7)
      clear mg_0 mg_1 mg_2 mg_l mg_f
      replace mg := mg.grows (w' := w7) (by exact bel1 g_w7)
      have mg_0 := mg.c0; have mg_1 := mg.c1; have mg_2 := mg.c2; have mg_l := mg.lt; have mg_f := mg.fz
      replace rd3 := rd3.grows (w' := w7) (by exact bel1 g_w7)
      replace re3 := re3.grows (w' := w7) (by exact bel1 g_w7)
      clear mp_0 mp_1 mp_2 mp_l mp_f
      replace mp := mp.grows (w' := w7) (by exact bel1 g_w7)
      have mp_0 := mp.c0; have mp_1 := mp.c1; have mp_2 := mp.c2; have mp_l := mp.lt; have mp_f := mp.fz
      clear mu_0 mu_1 mu_2 mu_l mu_f
      replace mu := mu.grows (w' := w7) (by exact bel1 g_w7)
      have mu_0 := mu.c0; have mu_1 := mu.c1; have mu_2 := mu.c2; have mu_l := mu.lt; have mu_f := mu.fz
      replace HG : Grows w w7 := by exact bel2 g_w7 HG
      have h_w7 := Below.size HG
      obtain ⟨A7, c7, rfl, rd7, _⟩ := o7.val
      clear o7 CSm CMu
      have eP : oM (some P) = P := rfl
      rw [eP] at rd7 ⊢
      simp only [Option.isSome_some]
      have HS1 := HS.out
      clear HS eP
      cases kn
      · clear HS1
        go_wp2_with fail
        refine (CSa.out _ _ _ _ _ (by exact Rd.grows rd7 (by exact bel0)) (by exact Rd.grows rd3 (by exact bel0))).mono ?_; rintro e w8 ⟨rfl, g_w8⟩
        have s_w8 := Below.size g_w8; (try simp at s_w8)
        replace rd2 := rd2.grows (w' := w8) (by exact bel1 g_w8)
        clear mg_0 mg_1 mg_2 mg_l mg_f
        replace mg := mg.grows (w' := w8) (by exact bel1 g_w8)
        have mg_0 := mg.c0; have mg_1 := mg.c1; have mg_2 := mg.c2; have mg_l := mg.lt; have mg_f := mg.fz
        replace rd3 := rd3.grows (w' := w8) (by exact bel1 g_w8)
        replace re3 := re3.grows (w' := w8) (by exact bel1 g_w8)
        clear mp_0 mp_1 mp_2 mp_l mp_f
        replace mp := mp.grows (w' := w8) (by exact bel1 g_w8)
        have mp_0 := mp.c0; have mp_1 := mp.c1; have mp_2 := mp.c2; have mp_l := mp.lt; have mp_f := mp.fz
        clear mu_0 mu_1 mu_2 mu_l mu_f
        replace mu := mu.grows (w' := w8) (by exact bel1 g_w8)
        have mu_0 := mu.c0; have mu_1 := mu.c1; have mu_2 := mu.c2; have mu_l := mu.lt; have mu_f := mu.fz
        replace rd7 := rd7.grows (w' := w8) (by exact bel1 g_w8)
        have mq : MBox w8 (w7.heap.size) P.r P.c (.slice A7 P.l.length c7) := MBox.grows (MBox.new_ w7 P.r P.c (.slice A7 P.l.length c7) 26 (by simp)) (w' := w8) (by exact bel1 g_w8)
        have mq_0 := mq.c0; have mq_1 := mq.c1; have mq_2 := mq.c2; have mq_l := mq.lt; have mq_f := mq.fz
        replace HG : Grows w w8 := by exact bel2 g_w8 HG
        have h_w8 := Below.size HG
        go_wp2_with fail
        refine (CUn.out _ _ _ (by exact Rd.grows re3 (by exact bel0))).mono ?_; rintro e w9 ⟨rfl, g_w9⟩
        have s_w9 := Below.size g_w9; (try simp at s_w9)
        replace rd2 := rd2.grows (w' := w9) (by exact bel1 g_w9)
        clear mg_0 mg_1 mg_2 mg_l mg_f
        replace mg := mg.grows (w' := w9) (by exact bel1 g_w9)
        have mg_0 := mg.c0; have mg_1 := mg.c1; have mg_2 := mg.c2; have mg_l := mg.lt; have mg_f := mg.fz
        replace rd3 := rd3.grows (w' := w9) (by exact bel1 g_w9)
        replace re3 := re3.grows (w' := w9) (by exact bel1 g_w9)
        clear mp_0 mp_1 mp_2 mp_l mp_f
        replace mp := mp.grows (w' := w9) (by exact bel1 g_w9)
        have mp_0 := mp.c0; have mp_1 := mp.c1; have mp_2 := mp.c2; have mp_l := mp.lt; have mp_f := mp.fz
        clear mu_0 mu_1 mu_2 mu_l mu_f
        replace mu := mu.grows (w' := w9) (by exact bel1 g_w9)
        have mu_0 := mu.c0; have mu_1 := mu.c1; have mu_2 := mu.c2; have mu_l := mu.lt; have mu_f := mu.fz
        replace rd7 := rd7.grows (w' := w9) (by exact bel1 g_w9)
        clear mq_0 mq_1 mq_2 mq_l mq_f
        replace mq := mq.grows (w' := w9) (by exact bel1 g_w9)
        have mq_0 := mq.c0; have mq_1 := mq.c1; have mq_2 := mq.c2; have mq_l := mq.lt; have mq_f := mq.fz
        replace HG : Grows w w9 := by exact bel2 g_w9 HG
        have h_w9 := Below.size HG
        go_wp2_with fail
        go_ret
        exact ⟨rfl, by exact bel1 HG⟩
      · obtain rfl := HS1 rfl
        clear HS1
        go_wp2_with fail
        refine (CSa.out _ _ _ _ _ (by exact Rd.grows rd7 (by exact bel0)) (by exact Rd.grows rd3 (by exact bel0))).mono ?_; rintro e w8 ⟨rfl, g_w8⟩
        have s_w8 := Below.size g_w8; (try simp at s_w8)
        replace rd2 := rd2.grows (w' := w8) (by exact bel1 g_w8)
        clear mg_0 mg_1 mg_2 mg_l mg_f
        replace mg := mg.grows (w' := w8) (by exact bel1 g_w8)
        have mg_0 := mg.c0; have mg_1 := mg.c1; have mg_2 := mg.c2; have mg_l := mg.lt; have mg_f := mg.fz
        replace rd3 := rd3.grows (w' := w8) (by exact bel1 g_w8)
        replace re3 := re3.grows (w' := w8) (by exact bel1 g_w8)
        clear mp_0 mp_1 mp_2 mp_l mp_f
        replace mp := mp.grows (w' := w8) (by exact bel1 g_w8)
        have mp_0 := mp.c0; have mp_1 := mp.c1; have mp_2 := mp.c2; have mp_l := mp.lt; have mp_f := mp.fz
        clear mu_0 mu_1 mu_2 mu_l mu_f
        replace mu := mu.grows (w' := w8) (by exact bel1 g_w8)
        have mu_0 := mu.c0; have mu_1 := mu.c1; have mu_2 := mu.c2; have mu_l := mu.lt; have mu_f := mu.fz
        replace rd7 := rd7.grows (w' := w8) (by exact bel1 g_w8)
        have mq : MBox w8 (w7.heap.size) P.r P.c (.slice A7 P.l.length c7) := MBox.grows (MBox.new_ w7 P.r P.c (.slice A7 P.l.length c7) 26 (by simp)) (w' := w8) (by exact bel1 g_w8)
        have mq_0 := mq.c0; have mq_1 := mq.c1; have mq_2 := mq.c2; have mq_l := mq.lt; have mq_f := mq.fz
        replace HG : Grows w w8 := by exact bel2 g_w8 HG
        have h_w8 := Below.size HG
        go_wp2_with fail
        refine (CUn.out _ _ _ (by exact Rd.grows re3 (by exact bel0))).mono ?_; rintro e w9 ⟨rfl, g_w9⟩
        have s_w9 := Below.size g_w9; (try simp at s_w9)
        replace rd2 := rd2.grows (w' := w9) (by exact bel1 g_w9)
        clear mg_0 mg_1 mg_2 mg_l mg_f
        replace mg := mg.grows (w' := w9) (by exact bel1 g_w9)
        have mg_0 := mg.c0; have mg_1 := mg.c1; have mg_2 := mg.c2; have mg_l := mg.lt; have mg_f := mg.fz
        replace rd3 := rd3.grows (w' := w9) (by exact bel1 g_w9)
        replace re3 := re3.grows (w' := w9) (by exact bel1 g_w9)
        clear mp_0 mp_1 mp_2 mp_l mp_f
        replace mp := mp.grows (w' := w9) (by exact bel1 g_w9)
        have mp_0 := mp.c0; have mp_1 := mp.c1; have mp_2 := mp.c2; have mp_l := mp.lt; have mp_f := mp.fz
        clear mu_0 mu_1 mu_2 mu_l mu_f
        replace mu := mu.grows (w' := w9) (by exact bel1 g_w9)
        have mu_0 := mu.c0; have mu_1 := mu.c1; have mu_2 := mu.c2; have mu_l := mu.lt; have mu_f := mu.fz
        replace rd7 := rd7.grows (w' := w9) (by exact bel1 g_w9)
        clear mq_0 mq_1 mq_2 mq_l mq_f
        replace mq := mq.grows (w' := w9) (by exact bel1 g_w9)
        have mq_0 := mq.c0; have mq_1 := mq.c1; have mq_2 := mq.c2; have mq_l := mq.lt; have mq_f := mq.fz
        replace HG : Grows w w9 := by exact bel2 g_w9 HG
        have h_w9 := Below.size HG
        go_wp2_with fail
        go_ret
        exact ⟨rfl, by exact bel1 HG⟩
end
end Go.Proofs.YtfilbjbogggaoaaGreat


namespace Go.Proofs.YtfilbjbogggaoaaGreat
set_option linter.unusedSimpArgs false
set_option linter.unusedVariables false
open Go.ChangeShapes Go.WideShapes Go.ChangeAt Go.RowKit Go.Joins
set_option linter.unusedVariables false

set_option maxRecDepth 100000 in
theorem fnReducedBasis_lifted (os : Os) (started : os.Started) (H : Type) (enc : TypeId × Value → H) :
    ReturnsInHanded {} Tryz.checked os 5 .any (Rows.fnReducedBasisSpec.pre6 enc Tryz.prog Tryz.f5 Rows.fnReducedBasisRow.domain false) (Rows.fnReducedBasisSpec.post enc Tryz.prog Tryz.f5 false true false false) := by
  refine returnsInHanded_of_change (C := Tryz.checked) own started (by kernel_rfl) Tryz.func5
    (ChangeSpec.witness6 (enc := enc) (C := Tryz.checked) false ⟨#[], #[.slice none 0 0], []⟩ 8 (by kernel_rfl) (by kernel_rfl) (by kernel_rfl) (by kernel_rfl)) ?_
  intro W base args ds gs before hval0 hW hcnd _
  have hval : ∀ (j : Nat) t v, Tryz.f5.params[j]? = some t → args[j]? = some v → Value.okWide Tryz.prog W .any base t v := hval0
  have hW' := hW
  obtain ⟨p, q, hA0, hV, rfl, hfz, hnd⟩ := hW
  have hA : DataW.TrodAll enc Tryz.prog W 0 (fun _ => true) true Tryz.f5.params.toList args.toList ds p := hA0
  rw [Tryz.params5] at hA hval
  obtain ⟨v0, vs0, d0, ds0, p0, q0, hargs, rfl, rfl, h0, r0⟩ := trodAll_cons hA
  obtain ⟨rfl, rfl, rfl⟩ := trodAll_nil r0
  obtain rfl : args = #[v0] := by cases args; simp_all
  obtain ⟨rfl, rfl⟩ := trodVars_none hV
  have k0 := h0
  have lt0 : ∀ x ∈ p0, x.block < W.heap.size := by obtain ⟨m, hm⟩ := k0; exact DataW.trod_lt m _ _ _ hm
  obtain ⟨a00, len0, cap0, rfl⟩ := okWide_slice Tryz.underlying22 (hval 0 22 v0 rfl rfl)
  obtain ⟨A0, l0, c0, e0, ir0⟩ : ∃ A l c, Value.slice a00 len0 cap0 = .slice A (List.length l) c ∧ InCode W A l c := by obtain ⟨fuel, hf⟩ := h0; simp only [Value.cells] at hf; exact open_code hf
  rw [e0] at hval hW' k0 ⊢
  clear hA0 hval0
  refine (lawRbs_c A0 l0 c0 W ir0).mono fun e W' ⟨he, bel⟩ => ?_
  subst he
  exact ⟨_, rfl, _, _, _, [], _, [], hW', trodAll_mk1 (shut_bool Tryz.underlying4 _), (trodAll_cons_mk (Below.trod laidOut (by kernel_rfl) (of_decide_eq_true (by kernel_rfl)) k0 bel lt0) trodAll_mk0), rfl, bel.frame _, fun h => by cases h⟩

theorem fnReducedBasis_closed : joinedFacts Tryz.pinned.checked.prog 5 Tryz.f5 Rows.fnReducedBasisSpec Rows.fnReducedBasisRow = true := by
  unfold joinedFacts
  rw [fLaid, fRowed, fStops, fEnter, fLift, fMake]
  change _ = true
  kernel_rfl
/-- The statement. -/
theorem fnReducedBasis_holds : Rows.FnReducedBasisSaid :=
  OpenClaim.holds_of_wide 5 Tryz.f5 rfl rfl rfl rfl rfl rfl rfl ⟨rfl, rfl, rfl, rfl, rfl⟩ rfl rfl rfl rfl rfl (by kernel_rfl) Tryz.func5 fnReducedBasis_closed
    (of_decide_eq_true (by kernel_rfl)) (by unfold Func.isWrapper; first | (rw [if_pos (by decide +kernel)]; kernel_rfl) | (rw [if_neg (by decide +kernel)]; exact ⟨rfl, rfl⟩))
    (fun os started H enc _ => fnReducedBasis_lifted os started H enc)
end Go.Proofs.YtfilbjbogggaoaaGreat
