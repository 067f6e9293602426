/- The row of FnExactClosestTo: proved for every input, no condition beyond those of the row. -/
import Derived.Test.YtpgoefdeodoacaaPkA
import Derived.Test.YtpgoefdeodoacaaQClo
import Derived.Test.YtpgoefdeodoacaaQCloS
import Derived.Test.YtpgoefdeodoacaaQFacts
import Derived.Test.YtpgoefdeodoacaaQLawKitR

namespace Go.Proofs.Ytpgoefdeodoacaa
set_option linter.unusedSimpArgs false
set_option linter.unusedVariables false
open Go.RowKit
set_option linter.unusedVariables false
set_option maxHeartbeats 2000000 in
set_option maxRecDepth 10000 in
theorem lawClo_c (r0 k0 : Int) (A0 : Option Addr) (a : List Int) (c0 : Nat) (A1 : Option Addr) (x : List Int) (c1 : Nat) (w : World) (_wr0 : (Lit.int .i64 r0).wf = true) (_wk0 : (Lit.int .i64 k0).wf = true) (ir0 : InRow w A0 a c0) (ir1 : InRow w A1 x c1) :
    Calls Try.prog 8 #[.agg #[.int .i64 r0, .int .i64 k0, .slice A0 a.length c0], .slice A1 x.length c1] w fun e w' => e = .returned (.bool true) ∧ Grows w w' := by
  obtain ⟨rd0, hc0, hm0, _⟩ := ir0
  simp only [maxLen] at hm0
  obtain ⟨rd1, hc1, hm1, _⟩ := ir1
  simp only [maxLen] at hm1
  by_cases hl1 : x.length ≤ 1048576
  rotate_left
  · have hl1' : (1048576 : Int) < (x.length : Int) := by omega
    go_enter Try.func8, Try.ntmps8
    go_wp2_with fail
    go_ret
    exact ⟨rfl, by exact bel0⟩
  by_cases hs0 : (a.length : Int) ≤ 1048576
  rotate_left
  · go_enter Try.func8, Try.ntmps8
    go_wp2_with fail
    refine (szMatrix_no _ _ _ _ _ _ _ (by omega) (by omega) (by omega) (by omega)).mono ?_; rintro e y0 ⟨rfl, g0⟩
    have mb0 : MBox y0 (w.heap.size) r0 k0 (.slice A0 a.length c0) := by have := MBox.grows (MBox.mk_ w r0 k0 (.slice A0 a.length c0) 24) (w' := y0) (by exact bel1 g0); simpa using this
    have b00 := mb0.c0; have b01 := mb0.c1; have b02 := mb0.c2; have b0l := mb0.lt
    go_wp2_with fail
    go_ret
    exact ⟨rfl, by exact bel1 g0⟩
  have hl0 : a.length ≤ 1048576 := by omega
  have hrl : (oC (closO ⟨r0, k0, a⟩ x)).1.length ≤ 4000 := closO_len
  have hrx : ∀ y ∈ (oC (closO ⟨r0, k0, a⟩ x)).1, y.length ≤ 1024 := closO_row
  have HS := fun W A c X cx (h0 : Rd W A a) (h1 : Rd W X x) => (sClo_c r0 k0 A X a x a.length c x.length cx W rfl h0 (by omega) rfl h1 (by omega)).mono fun _ _ h => cloGet_out h
  have HI := fun W A c X cx (h0 : Rd W A a) (h1 : Rd W X x) => (iClo_c r0 k0 A X a x a.length c x.length cx W rfl h0 (by omega) rfl h1 (by omega)).mono fun _ _ h => cloRet_out h
  generalize (oC (closO ⟨r0, k0, a⟩ x)).1 = rl at *
  generalize (oC (closO ⟨r0, k0, a⟩ x)).2 = rv at *
  generalize (closO ⟨r0, k0, a⟩ x).isSome = ok at *
  have hof := offs_le hrx (i := rl.length) (Nat.le_refl _)
  all_goals
    have HS' := Lib.hid HS
    have HI' := Lib.hid HI
    clear HS HI
    go_enter Try.func8, Try.ntmps8
    go_wp2_with fail
    refine (szMatrix_yes _ _ _ _ _ _ _ (by omega) (by omega) (by omega) (by omega)).mono ?_; rintro e y0 ⟨rfl, g0⟩
    have mb0 : MBox y0 (w.heap.size) r0 k0 (.slice A0 a.length c0) := by have := MBox.grows (MBox.mk_ w r0 k0 (.slice A0 a.length c0) 24) (w' := y0) (by exact bel1 g0); simpa using this
    have b00 := mb0.c0; have b01 := mb0.c1; have b02 := mb0.c2; have b0l := mb0.lt
    go_wp2_with fail
    have ra0 : RdB y0 y0.heap.size A0 a := RdB.of (Rd.grows rd0 (by exact bel1 g0))
    have ra1 : RdB y0 y0.heap.size A1 x := RdB.of (Rd.grows rd1 (by exact bel1 g0))
    have HG : Grows w y0 := by exact bel1 g0
    have sb0 := mb0.lt
    refine (toMatrix_c r0 k0 A0 a c0 _ (by exact Rd.grows ra0.rd (by exact bel0)) hl0).mono ?_; rintro e w1 ⟨js0, rfl, os0, q1⟩
    (try simp at os0)
    have s0 : OwnB w1 (y0.heap.size) (w1.heap.size) (.slice (some ⟨js0, 0, none⟩) a.length a.length) a := OwnB.of (Own.less os0 (by first | omega | simp))
    clear os0
    replace ra0 : RdB w1 (y0.heap.size) A0 a := RdB.grows ra0 (by exact bel1 q1)
    replace ra1 : RdB w1 (y0.heap.size) A1 x := RdB.grows ra1 (by exact bel1 q1)
    clear b00 b01 b02 b0l
    replace mb0 : MBox w1 (w.heap.size) r0 k0 (.slice A0 a.length c0) := MBox.grows mb0 (by exact bel1 q1)
    have b00 := mb0.c0; have b01 := mb0.c1; have b02 := mb0.c2; have b0l := mb0.lt
    have sw1q1 := Below.size q1; (try simp at sw1q1)
    replace HG : Grows w w1 := by exact bel2 q1 HG
    go_wp2_with fail
    refine (toIntS_c A1 x c1 _ (by exact Rd.grows ra1.rd (by exact bel0)) hl1).mono ?_; rintro e w2 ⟨js1, rfl, os1, q2⟩
    (try simp at os1)
    have s1 : OwnB w2 (w1.heap.size) (w2.heap.size) (.slice (some ⟨js1, 0, none⟩) x.length x.length) x := OwnB.of (Own.less os1 (by first | omega | simp))
    clear os1
    replace ra0 : RdB w2 (y0.heap.size) A0 a := RdB.grows ra0 (by exact bel1 q2)
    replace ra1 : RdB w2 (y0.heap.size) A1 x := RdB.grows ra1 (by exact bel1 q2)
    clear b00 b01 b02 b0l
    replace mb0 : MBox w2 (w.heap.size) r0 k0 (.slice A0 a.length c0) := MBox.grows mb0 (by exact bel1 q2)
    have b00 := mb0.c0; have b01 := mb0.c1; have b02 := mb0.c2; have b0l := mb0.lt
    replace s0 : OwnB w2 (y0.heap.size) (w1.heap.size) (.slice (some ⟨js0, 0, none⟩) a.length a.length) a := OwnB.grows s0 (by exact bel1 q2)
    have sw2q2 := Below.size q2; (try simp at sw2q2)
    replace HG : Grows w w2 := by exact bel2 q2 HG
    go_wp2_with fail
    refine (HS'.out _ _ _ _ _ (by exact Rd.grows s0.rd (by exact bel0)) (by exact Rd.grows s1.rd (by exact bel0)) ).mono ?_; rintro e w3 ⟨Avw_0, cvw_0, rfl, ovw_0, q3⟩
    have w_0 : RdRB w3 (w3.heap.size) Avw_0 rl := RdRB.of ovw_0
    clear ovw_0
    replace ra0 : RdB w3 (y0.heap.size) A0 a := RdB.grows ra0 (by exact bel1 q3)
    replace ra1 : RdB w3 (y0.heap.size) A1 x := RdB.grows ra1 (by exact bel1 q3)
    clear b00 b01 b02 b0l
    replace mb0 : MBox w3 (w.heap.size) r0 k0 (.slice A0 a.length c0) := MBox.grows mb0 (by exact bel1 q3)
    have b00 := mb0.c0; have b01 := mb0.c1; have b02 := mb0.c2; have b0l := mb0.lt
    replace s0 : OwnB w3 (y0.heap.size) (w1.heap.size) (.slice (some ⟨js0, 0, none⟩) a.length a.length) a := OwnB.grows s0 (by exact bel1 q3)
    replace s1 : OwnB w3 (w1.heap.size) (w2.heap.size) (.slice (some ⟨js1, 0, none⟩) x.length x.length) x := OwnB.grows s1 (by exact bel1 q3)
    have sw3q3 := Below.size q3; (try simp at sw3q3)
    replace HG : Grows w w3 := by exact bel2 q3 HG
    go_wp2_with fail
    clear s0
    clear s1
    refine (toMatrix_c r0 k0 A0 a c0 _ (by exact Rd.grows ra0.rd (by exact bel0)) hl0).mono ?_; rintro e w4 ⟨jx0, rfl, ox0, q4⟩
    (try simp at ox0)
    have x0 : OwnB w4 (w3.heap.size) (w4.heap.size) (.slice (some ⟨jx0, 0, none⟩) a.length a.length) a := OwnB.of (Own.less ox0 (by first | omega | simp))
    clear ox0
    replace ra0 : RdB w4 (y0.heap.size) A0 a := RdB.grows ra0 (by exact bel1 q4)
    replace ra1 : RdB w4 (y0.heap.size) A1 x := RdB.grows ra1 (by exact bel1 q4)
    clear b00 b01 b02 b0l
    replace mb0 : MBox w4 (w.heap.size) r0 k0 (.slice A0 a.length c0) := MBox.grows mb0 (by exact bel1 q4)
    have b00 := mb0.c0; have b01 := mb0.c1; have b02 := mb0.c2; have b0l := mb0.lt
    replace w_0 : RdRB w4 (w3.heap.size) Avw_0 rl := RdRB.grows w_0 (by exact bel1 q4)
    have sw4q4 := Below.size q4; (try simp at sw4q4)
    replace HG : Grows w w4 := by exact bel2 q4 HG
    go_wp2_with fail
    refine (toIntS_c A1 x c1 _ (by exact Rd.grows ra1.rd (by exact bel0)) hl1).mono ?_; rintro e w5 ⟨jx1, rfl, ox1, q5⟩
    (try simp at ox1)
    have x1 : OwnB w5 (w4.heap.size + 1) (w5.heap.size) (.slice (some ⟨jx1, 0, none⟩) x.length x.length) x := OwnB.of (Own.less ox1 (by first | omega | simp))
    clear ox1
    replace ra0 : RdB w5 (y0.heap.size) A0 a := RdB.grows ra0 (by exact bel1 q5)
    replace ra1 : RdB w5 (y0.heap.size) A1 x := RdB.grows ra1 (by exact bel1 q5)
    clear b00 b01 b02 b0l
    replace mb0 : MBox w5 (w.heap.size) r0 k0 (.slice A0 a.length c0) := MBox.grows mb0 (by exact bel1 q5)
    have b00 := mb0.c0; have b01 := mb0.c1; have b02 := mb0.c2; have b0l := mb0.lt
    replace w_0 : RdRB w5 (w3.heap.size) Avw_0 rl := RdRB.grows w_0 (by exact bel1 q5)
    replace x0 : OwnB w5 (w3.heap.size) (w4.heap.size) (.slice (some ⟨jx0, 0, none⟩) a.length a.length) a := OwnB.grows x0 (by exact bel1 q5)
    have mx0 : MBox w5 (w4.heap.size) r0 k0 (.slice (some ⟨jx0, 0, none⟩) a.length a.length) := MBox.grows (MBox.mk_ w4 r0 k0 (.slice (some ⟨jx0, 0, none⟩) a.length a.length) 28) q5
    have dx00 := mx0.c0; have dx01 := mx0.c1; have dx02 := mx0.c2; have dx0l := mx0.lt
    have sw5q5 := Below.size q5; (try simp at sw5q5)
    replace HG : Grows w w5 := by exact bel2 q5 HG
    go_wp2_with fail
    refine (HI'.out _ _ _ _ _ (by exact Rd.grows x0.rd (by exact bel0)) (by exact Rd.grows x1.rd (by exact bel0)) ).mono ?_; rintro e w6 ⟨vg_0, svg_0, rfl, ovg_0, q6⟩
    obtain ⟨Avg_0, cvg_0, rfl, _, _⟩ := ovg_0.val
    (try simp at ovg_0)
    have g_0 : RowsO w6 (w5.heap.size) (.slice Avg_0 rl.length cvg_0) svg_0 rl := RowsO.less ovg_0 (by first | omega | simp)
    clear ovg_0
    replace ra0 : RdB w6 (y0.heap.size) A0 a := RdB.grows ra0 (by exact bel1 q6)
    replace ra1 : RdB w6 (y0.heap.size) A1 x := RdB.grows ra1 (by exact bel1 q6)
    clear b00 b01 b02 b0l
    replace mb0 : MBox w6 (w.heap.size) r0 k0 (.slice A0 a.length c0) := MBox.grows mb0 (by exact bel1 q6)
    have b00 := mb0.c0; have b01 := mb0.c1; have b02 := mb0.c2; have b0l := mb0.lt
    replace w_0 : RdRB w6 (w3.heap.size) Avw_0 rl := RdRB.grows w_0 (by exact bel1 q6)
    replace x0 : OwnB w6 (w3.heap.size) (w4.heap.size) (.slice (some ⟨jx0, 0, none⟩) a.length a.length) a := OwnB.grows x0 (by exact bel1 q6)
    clear dx00 dx01 dx02 dx0l
    replace mx0 : MBox w6 (w4.heap.size) r0 k0 (.slice (some ⟨jx0, 0, none⟩) a.length a.length) := MBox.grows mx0 (by exact bel1 q6)
    have dx00 := mx0.c0; have dx01 := mx0.c1; have dx02 := mx0.c2; have dx0l := mx0.lt
    replace x1 : OwnB w6 (w4.heap.size + 1) (w5.heap.size) (.slice (some ⟨jx1, 0, none⟩) x.length x.length) x := OwnB.grows x1 (by exact bel1 q6)
    have sw6q6 := Below.size q6; (try simp at sw6q6)
    replace HG : Grows w w6 := by exact bel2 q6 HG
    go_wp2_with fail
    refine (eqIntSS_yes _ _ _ _ _ _ _ rfl (by exact RdR.grows RSI.good g_0.rd (by exact bel0)) (by exact RdR.grows RSI.good w_0.rd (by exact bel0)) (by omega) hrx).mono ?_; rintro e w7 ⟨rfl, q7⟩
    replace ra0 : RdB w7 (y0.heap.size) A0 a := RdB.grows ra0 (by exact bel1 q7)
    replace ra1 : RdB w7 (y0.heap.size) A1 x := RdB.grows ra1 (by exact bel1 q7)
    clear b00 b01 b02 b0l
    replace mb0 : MBox w7 (w.heap.size) r0 k0 (.slice A0 a.length c0) := MBox.grows mb0 (by exact bel1 q7)
    have b00 := mb0.c0; have b01 := mb0.c1; have b02 := mb0.c2; have b0l := mb0.lt
    replace w_0 : RdRB w7 (w3.heap.size) Avw_0 rl := RdRB.grows w_0 (by exact bel1 q7)
    replace x0 : OwnB w7 (w3.heap.size) (w4.heap.size) (.slice (some ⟨jx0, 0, none⟩) a.length a.length) a := OwnB.grows x0 (by exact bel1 q7)
    clear dx00 dx01 dx02 dx0l
    replace mx0 : MBox w7 (w4.heap.size) r0 k0 (.slice (some ⟨jx0, 0, none⟩) a.length a.length) := MBox.grows mx0 (by exact bel1 q7)
    have dx00 := mx0.c0; have dx01 := mx0.c1; have dx02 := mx0.c2; have dx0l := mx0.lt
    replace x1 : OwnB w7 (w4.heap.size + 1) (w5.heap.size) (.slice (some ⟨jx1, 0, none⟩) x.length x.length) x := OwnB.grows x1 (by exact bel1 q7)
    replace g_0 : RowsO w7 (w5.heap.size) (.slice Avg_0 rl.length cvg_0) svg_0 rl := RowsO.grows g_0 (by exact bel1 q7)
    have sw7q7 := Below.size q7; (try simp at sw7q7)
    replace HG : Grows w w7 := by exact bel2 q7 HG
    go_wp2_with fail
    go_region_held3 (fun W => W.cell? ⟨w4.heap.size, 0, none⟩ = some (.int .i64 r0) ∧ W.cell? ⟨w4.heap.size, 1, none⟩ = some (.int .i64 k0) ∧ W.cell? ⟨w4.heap.size, 2, none⟩ = some (.slice (some ⟨jx0, 0, none⟩) a.length a.length) ∧ W.cell? ⟨w.heap.size, 0, none⟩ = some (.int .i64 r0) ∧ W.cell? ⟨w.heap.size, 1, none⟩ = some (.int .i64 k0) ∧ W.cell? ⟨w.heap.size, 2, none⟩ = some (.slice A0 a.length c0)) ((refine two_boxes mx0 mb0 ?_; first | exact bel2 q9 q8 | exact bel1 q8 | exact bel0)) (first | (go_at_call 17; refine (toMatrix_c r0 k0 A0 a c0 _ (by exact Rd.grows ra0.rd (by exact bel0)) hl0).mono ?_; rintro e w8 ⟨jt0, rfl, ot0, q8⟩) | (go_at_call 21; refine (eqMatrix_yes _ _ _ _ _ _ _ _ (by exact Rd.grows x0.rd (by exact bel1 q8)) (by exact ot0.rd) (by omega)).mono ?_; rintro e w9 ⟨rfl, q9⟩))
    clear ot0
    replace ra0 : RdB w9 (y0.heap.size) A0 a := RdB.grows ra0 (by exact bel2 q9 q8)
    replace ra1 : RdB w9 (y0.heap.size) A1 x := RdB.grows ra1 (by exact bel2 q9 q8)
    clear b00 b01 b02 b0l
    replace mb0 : MBox w9 (w.heap.size) r0 k0 (.slice A0 a.length c0) := MBox.grows mb0 (by exact bel2 q9 q8)
    have b00 := mb0.c0; have b01 := mb0.c1; have b02 := mb0.c2; have b0l := mb0.lt
    replace w_0 : RdRB w9 (w3.heap.size) Avw_0 rl := RdRB.grows w_0 (by exact bel2 q9 q8)
    replace x0 : OwnB w9 (w3.heap.size) (w4.heap.size) (.slice (some ⟨jx0, 0, none⟩) a.length a.length) a := OwnB.grows x0 (by exact bel2 q9 q8)
    clear dx00 dx01 dx02 dx0l
    replace mx0 : MBox w9 (w4.heap.size) r0 k0 (.slice (some ⟨jx0, 0, none⟩) a.length a.length) := MBox.grows mx0 (by exact bel2 q9 q8)
    have dx00 := mx0.c0; have dx01 := mx0.c1; have dx02 := mx0.c2; have dx0l := mx0.lt
    replace x1 : OwnB w9 (w4.heap.size + 1) (w5.heap.size) (.slice (some ⟨jx1, 0, none⟩) x.length x.length) x := OwnB.grows x1 (by exact bel2 q9 q8)
    replace g_0 : RowsO w9 (w5.heap.size) (.slice Avg_0 rl.length cvg_0) svg_0 rl := RowsO.grows g_0 (by exact bel2 q9 q8)
    have sw9q8 := Below.size q8; (try simp at sw9q8)
    have sw9q9 := Below.size q9; (try simp at sw9q9)
    replace HG : Grows w w9 := by exact bel3 q9 q8 HG
    go_wp2_with fail
    refine (toIntS_c A1 x c1 _ (by exact Rd.grows ra1.rd (by exact bel0)) hl1).mono ?_; rintro e w10 ⟨jt1, rfl, ot1, q10⟩
    (try simp at ot1)
    have t1 : OwnB w10 (w9.heap.size) (w10.heap.size) (.slice (some ⟨jt1, 0, none⟩) x.length x.length) x := OwnB.of (Own.less ot1 (by first | omega | simp))
    clear ot1
    replace ra0 : RdB w10 (y0.heap.size) A0 a := RdB.grows ra0 (by exact bel1 q10)
    replace ra1 : RdB w10 (y0.heap.size) A1 x := RdB.grows ra1 (by exact bel1 q10)
    clear b00 b01 b02 b0l
    replace mb0 : MBox w10 (w.heap.size) r0 k0 (.slice A0 a.length c0) := MBox.grows mb0 (by exact bel1 q10)
    have b00 := mb0.c0; have b01 := mb0.c1; have b02 := mb0.c2; have b0l := mb0.lt
    replace w_0 : RdRB w10 (w3.heap.size) Avw_0 rl := RdRB.grows w_0 (by exact bel1 q10)
    replace x0 : OwnB w10 (w3.heap.size) (w4.heap.size) (.slice (some ⟨jx0, 0, none⟩) a.length a.length) a := OwnB.grows x0 (by exact bel1 q10)
    clear dx00 dx01 dx02 dx0l
    replace mx0 : MBox w10 (w4.heap.size) r0 k0 (.slice (some ⟨jx0, 0, none⟩) a.length a.length) := MBox.grows mx0 (by exact bel1 q10)
    have dx00 := mx0.c0; have dx01 := mx0.c1; have dx02 := mx0.c2; have dx0l := mx0.lt
    replace x1 : OwnB w10 (w4.heap.size + 1) (w5.heap.size) (.slice (some ⟨jx1, 0, none⟩) x.length x.length) x := OwnB.grows x1 (by exact bel1 q10)
    replace g_0 : RowsO w10 (w5.heap.size) (.slice Avg_0 rl.length cvg_0) svg_0 rl := RowsO.grows g_0 (by exact bel1 q10)
    have sw10q10 := Below.size q10; (try simp at sw10q10)
    replace HG : Grows w w10 := by exact bel2 q10 HG
    go_wp2_with fail
    refine (eqIntS_yes _ _ _ _ _ _ (by exact Rd.grows x1.rd (by exact bel0)) (by exact Rd.grows t1.rd (by exact bel0)) (by omega)).mono ?_; rintro e w11 ⟨rfl, q11⟩
    replace ra0 : RdB w11 (y0.heap.size) A0 a := RdB.grows ra0 (by exact bel1 q11)
    replace ra1 : RdB w11 (y0.heap.size) A1 x := RdB.grows ra1 (by exact bel1 q11)
    clear b00 b01 b02 b0l
    replace mb0 : MBox w11 (w.heap.size) r0 k0 (.slice A0 a.length c0) := MBox.grows mb0 (by exact bel1 q11)
    have b00 := mb0.c0; have b01 := mb0.c1; have b02 := mb0.c2; have b0l := mb0.lt
    replace w_0 : RdRB w11 (w3.heap.size) Avw_0 rl := RdRB.grows w_0 (by exact bel1 q11)
    replace x0 : OwnB w11 (w3.heap.size) (w4.heap.size) (.slice (some ⟨jx0, 0, none⟩) a.length a.length) a := OwnB.grows x0 (by exact bel1 q11)
    clear dx00 dx01 dx02 dx0l
    replace mx0 : MBox w11 (w4.heap.size) r0 k0 (.slice (some ⟨jx0, 0, none⟩) a.length a.length) := MBox.grows mx0 (by exact bel1 q11)
    have dx00 := mx0.c0; have dx01 := mx0.c1; have dx02 := mx0.c2; have dx0l := mx0.lt
    replace x1 : OwnB w11 (w4.heap.size + 1) (w5.heap.size) (.slice (some ⟨jx1, 0, none⟩) x.length x.length) x := OwnB.grows x1 (by exact bel1 q11)
    replace g_0 : RowsO w11 (w5.heap.size) (.slice Avg_0 rl.length cvg_0) svg_0 rl := RowsO.grows g_0 (by exact bel1 q11)
    replace t1 : OwnB w11 (w9.heap.size) (w10.heap.size) (.slice (some ⟨jt1, 0, none⟩) x.length x.length) x := OwnB.grows t1 (by exact bel1 q11)
    have sw11q11 := Below.size q11; (try simp at sw11q11)
    replace HG : Grows w w11 := by exact bel2 q11 HG
    go_wp2_with fail
    clear t1
    refine (markMatrix_c (w3.heap.size) _ _ _ _ _ _ _ x0.own (by omega) (by omega) (by omega)).mono ?_; rintro e w12 ⟨rfl, ox0, q12⟩
    replace ra0 : RdB w12 (y0.heap.size) A0 a := RdB.mark ra0 x0 q12 (by omega)
    replace ra1 : RdB w12 (y0.heap.size) A1 x := RdB.mark ra1 x0 q12 (by omega)
    clear b00 b01 b02 b0l
    replace mb0 : MBox w12 (w.heap.size) r0 k0 (.slice A0 a.length c0) := MBox.mark mb0 x0 q12 (by omega)
    have b00 := mb0.c0; have b01 := mb0.c1; have b02 := mb0.c2; have b0l := mb0.lt
    replace w_0 : RdRB w12 (w3.heap.size) Avw_0 rl := RdRB.mark w_0 x0 q12 (by omega)
    clear dx00 dx01 dx02 dx0l
    replace mx0 : MBox w12 (w4.heap.size) r0 k0 (.slice (some ⟨jx0, 0, none⟩) a.length a.length) := MBox.mark mx0 x0 q12 (by omega)
    have dx00 := mx0.c0; have dx01 := mx0.c1; have dx02 := mx0.c2; have dx0l := mx0.lt
    replace x1 : OwnB w12 (w4.heap.size + 1) (w5.heap.size) (.slice (some ⟨jx1, 0, none⟩) x.length x.length) x := by first | exact OwnB.mark_lo x1 x0 q12 (by omega) | exact OwnB.mark_hi x1 x0 q12 (by omega)
    replace g_0 : RowsO w12 (w5.heap.size) (.slice Avg_0 rl.length cvg_0) svg_0 rl := RowsO.mark_hi g_0 x0 q12 (by omega)
    have sw12 := World.grownBy.size q12
    replace HG : Grows w w12 := below_mark HG x0 q12 (by omega) (Below.size HG)
    have hhx0 : OwnB w12 (w3.heap.size) (w4.heap.size) (.slice (some ⟨jx0, 0, none⟩) a.length a.length) (run (1) a.length) := ⟨ox0, x0.2⟩
    clear ox0 x0
    have x0 := hhx0
    clear hhx0
    go_wp2_with fail
    refine (markIntS_c (w4.heap.size + 1) _ _ _ _ _ x1.own (by omega) (by omega) (by omega)).mono ?_; rintro e w13 ⟨rfl, ox1, q13⟩
    replace ra0 : RdB w13 (y0.heap.size) A0 a := RdB.mark ra0 x1 q13 (by omega)
    replace ra1 : RdB w13 (y0.heap.size) A1 x := RdB.mark ra1 x1 q13 (by omega)
    clear b00 b01 b02 b0l
    replace mb0 : MBox w13 (w.heap.size) r0 k0 (.slice A0 a.length c0) := MBox.mark mb0 x1 q13 (by omega)
    have b00 := mb0.c0; have b01 := mb0.c1; have b02 := mb0.c2; have b0l := mb0.lt
    replace w_0 : RdRB w13 (w3.heap.size) Avw_0 rl := RdRB.mark w_0 x1 q13 (by omega)
    replace x0 : OwnB w13 (w3.heap.size) (w4.heap.size) (.slice (some ⟨jx0, 0, none⟩) a.length a.length) (run (1) a.length) := by first | exact OwnB.mark_lo x0 x1 q13 (by omega) | exact OwnB.mark_hi x0 x1 q13 (by omega)
    clear dx00 dx01 dx02 dx0l
    replace mx0 : MBox w13 (w4.heap.size) r0 k0 (.slice (some ⟨jx0, 0, none⟩) a.length a.length) := MBox.mark mx0 x1 q13 (by omega)
    have dx00 := mx0.c0; have dx01 := mx0.c1; have dx02 := mx0.c2; have dx0l := mx0.lt
    replace g_0 : RowsO w13 (w5.heap.size) (.slice Avg_0 rl.length cvg_0) svg_0 rl := RowsO.mark_hi g_0 x1 q13 (by omega)
    have sw13 := World.grownBy.size q13
    replace HG : Grows w w13 := below_mark HG x1 q13 (by omega) (Below.size HG)
    have hhx1 : OwnB w13 (w4.heap.size + 1) (w5.heap.size) (.slice (some ⟨jx1, 0, none⟩) x.length x.length) (run (1 + (a.length : Int)) x.length) := ⟨ox1, x1.2⟩
    clear ox1 x1
    have x1 := hhx1
    clear hhx1
    go_wp2_with fail
    refine (eqIntSS_yes _ _ _ _ _ _ _ rfl (by exact RdR.grows RSI.good g_0.rd (by exact bel0)) (by exact RdR.grows RSI.good w_0.rd (by exact bel0)) (by omega) hrx).mono ?_; rintro e w14 ⟨rfl, q14⟩
    replace ra0 : RdB w14 (y0.heap.size) A0 a := RdB.grows ra0 (by exact bel1 q14)
    replace ra1 : RdB w14 (y0.heap.size) A1 x := RdB.grows ra1 (by exact bel1 q14)
    clear b00 b01 b02 b0l
    replace mb0 : MBox w14 (w.heap.size) r0 k0 (.slice A0 a.length c0) := MBox.grows mb0 (by exact bel1 q14)
    have b00 := mb0.c0; have b01 := mb0.c1; have b02 := mb0.c2; have b0l := mb0.lt
    replace w_0 : RdRB w14 (w3.heap.size) Avw_0 rl := RdRB.grows w_0 (by exact bel1 q14)
    replace x0 : OwnB w14 (w3.heap.size) (w4.heap.size) (.slice (some ⟨jx0, 0, none⟩) a.length a.length) (run (1) a.length) := OwnB.grows x0 (by exact bel1 q14)
    clear dx00 dx01 dx02 dx0l
    replace mx0 : MBox w14 (w4.heap.size) r0 k0 (.slice (some ⟨jx0, 0, none⟩) a.length a.length) := MBox.grows mx0 (by exact bel1 q14)
    have dx00 := mx0.c0; have dx01 := mx0.c1; have dx02 := mx0.c2; have dx0l := mx0.lt
    replace x1 : OwnB w14 (w4.heap.size + 1) (w5.heap.size) (.slice (some ⟨jx1, 0, none⟩) x.length x.length) (run (1 + (a.length : Int)) x.length) := OwnB.grows x1 (by exact bel1 q14)
    replace g_0 : RowsO w14 (w5.heap.size) (.slice Avg_0 rl.length cvg_0) svg_0 rl := RowsO.grows g_0 (by exact bel1 q14)
    have sw14q14 := Below.size q14; (try simp at sw14q14)
    replace HG : Grows w w14 := by exact bel2 q14 HG
    go_wp2_with fail
    refine (markIntSS_c (w5.heap.size) _ _ _ _ _ _ _ rfl g_0 (by omega) hrx (by omega) (by omega) (by omega)).mono ?_; rintro e w15 ⟨rfl, og_0, q15⟩
    replace ra0 : RdB w15 (y0.heap.size) A0 a := RdB.under ra0 q15 (by omega)
    replace ra1 : RdB w15 (y0.heap.size) A1 x := RdB.under ra1 q15 (by omega)
    clear b00 b01 b02 b0l
    replace mb0 : MBox w15 (w.heap.size) r0 k0 (.slice A0 a.length c0) := MBox.keep mb0 q15 (by omega)
    have b00 := mb0.c0; have b01 := mb0.c1; have b02 := mb0.c2; have b0l := mb0.lt
    replace w_0 : RdRB w15 (w3.heap.size) Avw_0 rl := RdRB.under w_0 q15 (by omega)
    replace x0 : OwnB w15 (w3.heap.size) (w4.heap.size) (.slice (some ⟨jx0, 0, none⟩) a.length a.length) (run (1) a.length) := OwnB.under x0 q15 (by omega)
    clear dx00 dx01 dx02 dx0l
    replace mx0 : MBox w15 (w4.heap.size) r0 k0 (.slice (some ⟨jx0, 0, none⟩) a.length a.length) := MBox.keep mx0 q15 (by omega)
    have dx00 := mx0.c0; have dx01 := mx0.c1; have dx02 := mx0.c2; have dx0l := mx0.lt
    replace x1 : OwnB w15 (w4.heap.size + 1) (w5.heap.size) (.slice (some ⟨jx1, 0, none⟩) x.length x.length) (run (1 + (a.length : Int)) x.length) := OwnB.under x1 q15 (by omega)
    have sw15 := Below.size q15
    replace HG : Grows w w15 := Below.trans HG (Below.mono q15 (by omega))
    clear g_0
    have g_0 := og_0
    clear og_0
    go_wp2_with fail
    refine (heldIntSS_c _ rl _ _ _ _ rfl (by exact RdR.grows RSI.good g_0.rd (by exact bel0)) (by omega) hrx (by omega) (by omega)).mono ?_; rintro e w16 ⟨rfl, q16⟩
    replace ra0 : RdB w16 (y0.heap.size) A0 a := RdB.grows ra0 (by exact bel1 q16)
    replace ra1 : RdB w16 (y0.heap.size) A1 x := RdB.grows ra1 (by exact bel1 q16)
    clear b00 b01 b02 b0l
    replace mb0 : MBox w16 (w.heap.size) r0 k0 (.slice A0 a.length c0) := MBox.grows mb0 (by exact bel1 q16)
    have b00 := mb0.c0; have b01 := mb0.c1; have b02 := mb0.c2; have b0l := mb0.lt
    replace w_0 : RdRB w16 (w3.heap.size) Avw_0 rl := RdRB.grows w_0 (by exact bel1 q16)
    replace x0 : OwnB w16 (w3.heap.size) (w4.heap.size) (.slice (some ⟨jx0, 0, none⟩) a.length a.length) (run (1) a.length) := OwnB.grows x0 (by exact bel1 q16)
    clear dx00 dx01 dx02 dx0l
    replace mx0 : MBox w16 (w4.heap.size) r0 k0 (.slice (some ⟨jx0, 0, none⟩) a.length a.length) := MBox.grows mx0 (by exact bel1 q16)
    have dx00 := mx0.c0; have dx01 := mx0.c1; have dx02 := mx0.c2; have dx0l := mx0.lt
    replace x1 : OwnB w16 (w4.heap.size + 1) (w5.heap.size) (.slice (some ⟨jx1, 0, none⟩) x.length x.length) (run (1 + (a.length : Int)) x.length) := OwnB.grows x1 (by exact bel1 q16)
    replace g_0 : RowsO w16 (w5.heap.size) (.slice Avg_0 rl.length cvg_0) svg_0 (runR ((1)) rl) := RowsO.grows g_0 (by exact bel1 q16)
    have sw16q16 := Below.size q16; (try simp at sw16q16)
    replace HG : Grows w w16 := by exact bel2 q16 HG
    go_wp2_with fail
    refine (toMatrix_c r0 k0 A0 a c0 _ (by exact Rd.grows ra0.rd (by exact bel0)) hl0).mono ?_; rintro e w17 ⟨ju0, rfl, ou0, q17⟩
    (try simp at ou0)
    have u0 : OwnB w17 (w16.heap.size) (w17.heap.size) (.slice (some ⟨ju0, 0, none⟩) a.length a.length) a := OwnB.of (Own.less ou0 (by first | omega | simp))
    clear ou0
    replace ra0 : RdB w17 (y0.heap.size) A0 a := RdB.grows ra0 (by exact bel1 q17)
    replace ra1 : RdB w17 (y0.heap.size) A1 x := RdB.grows ra1 (by exact bel1 q17)
    clear b00 b01 b02 b0l
    replace mb0 : MBox w17 (w.heap.size) r0 k0 (.slice A0 a.length c0) := MBox.grows mb0 (by exact bel1 q17)
    have b00 := mb0.c0; have b01 := mb0.c1; have b02 := mb0.c2; have b0l := mb0.lt
    replace w_0 : RdRB w17 (w3.heap.size) Avw_0 rl := RdRB.grows w_0 (by exact bel1 q17)
    replace x0 : OwnB w17 (w3.heap.size) (w4.heap.size) (.slice (some ⟨jx0, 0, none⟩) a.length a.length) (run (1) a.length) := OwnB.grows x0 (by exact bel1 q17)
    clear dx00 dx01 dx02 dx0l
    replace mx0 : MBox w17 (w4.heap.size) r0 k0 (.slice (some ⟨jx0, 0, none⟩) a.length a.length) := MBox.grows mx0 (by exact bel1 q17)
    have dx00 := mx0.c0; have dx01 := mx0.c1; have dx02 := mx0.c2; have dx0l := mx0.lt
    replace x1 : OwnB w17 (w4.heap.size + 1) (w5.heap.size) (.slice (some ⟨jx1, 0, none⟩) x.length x.length) (run (1 + (a.length : Int)) x.length) := OwnB.grows x1 (by exact bel1 q17)
    replace g_0 : RowsO w17 (w5.heap.size) (.slice Avg_0 rl.length cvg_0) svg_0 (runR ((1)) rl) := RowsO.grows g_0 (by exact bel1 q17)
    have sw17q17 := Below.size q17; (try simp at sw17q17)
    replace HG : Grows w w17 := by exact bel2 q17 HG
    go_wp2_with fail
    refine (toIntS_c A1 x c1 _ (by exact Rd.grows ra1.rd (by exact bel0)) hl1).mono ?_; rintro e w18 ⟨ju1, rfl, ou1, q18⟩
    (try simp at ou1)
    have u1 : OwnB w18 (w17.heap.size) (w18.heap.size) (.slice (some ⟨ju1, 0, none⟩) x.length x.length) x := OwnB.of (Own.less ou1 (by first | omega | simp))
    clear ou1
    replace ra0 : RdB w18 (y0.heap.size) A0 a := RdB.grows ra0 (by exact bel1 q18)
    replace ra1 : RdB w18 (y0.heap.size) A1 x := RdB.grows ra1 (by exact bel1 q18)
    clear b00 b01 b02 b0l
    replace mb0 : MBox w18 (w.heap.size) r0 k0 (.slice A0 a.length c0) := MBox.grows mb0 (by exact bel1 q18)
    have b00 := mb0.c0; have b01 := mb0.c1; have b02 := mb0.c2; have b0l := mb0.lt
    replace w_0 : RdRB w18 (w3.heap.size) Avw_0 rl := RdRB.grows w_0 (by exact bel1 q18)
    replace x0 : OwnB w18 (w3.heap.size) (w4.heap.size) (.slice (some ⟨jx0, 0, none⟩) a.length a.length) (run (1) a.length) := OwnB.grows x0 (by exact bel1 q18)
    clear dx00 dx01 dx02 dx0l
    replace mx0 : MBox w18 (w4.heap.size) r0 k0 (.slice (some ⟨jx0, 0, none⟩) a.length a.length) := MBox.grows mx0 (by exact bel1 q18)
    have dx00 := mx0.c0; have dx01 := mx0.c1; have dx02 := mx0.c2; have dx0l := mx0.lt
    replace x1 : OwnB w18 (w4.heap.size + 1) (w5.heap.size) (.slice (some ⟨jx1, 0, none⟩) x.length x.length) (run (1 + (a.length : Int)) x.length) := OwnB.grows x1 (by exact bel1 q18)
    replace g_0 : RowsO w18 (w5.heap.size) (.slice Avg_0 rl.length cvg_0) svg_0 (runR ((1)) rl) := RowsO.grows g_0 (by exact bel1 q18)
    replace u0 : OwnB w18 (w16.heap.size) (w17.heap.size) (.slice (some ⟨ju0, 0, none⟩) a.length a.length) a := OwnB.grows u0 (by exact bel1 q18)
    have sw18q18 := Below.size q18; (try simp at sw18q18)
    replace HG : Grows w w18 := by exact bel2 q18 HG
    go_wp2_with fail
    refine (HI'.out _ _ _ _ _ (by exact Rd.grows u0.rd (by exact bel0)) (by exact Rd.grows u1.rd (by exact bel0)) ).mono ?_; rintro e w19 ⟨vh_0, svh_0, rfl, ovh_0, q19⟩
    obtain ⟨Avh_0, cvh_0, rfl, _, _⟩ := ovh_0.val
    have h_0 : RdRB w19 (w19.heap.size) Avh_0 rl := RdRB.of ovh_0.rd
    clear ovh_0
    replace ra0 : RdB w19 (y0.heap.size) A0 a := RdB.grows ra0 (by exact bel1 q19)
    replace ra1 : RdB w19 (y0.heap.size) A1 x := RdB.grows ra1 (by exact bel1 q19)
    clear b00 b01 b02 b0l
    replace mb0 : MBox w19 (w.heap.size) r0 k0 (.slice A0 a.length c0) := MBox.grows mb0 (by exact bel1 q19)
    have b00 := mb0.c0; have b01 := mb0.c1; have b02 := mb0.c2; have b0l := mb0.lt
    replace w_0 : RdRB w19 (w3.heap.size) Avw_0 rl := RdRB.grows w_0 (by exact bel1 q19)
    replace x0 : OwnB w19 (w3.heap.size) (w4.heap.size) (.slice (some ⟨jx0, 0, none⟩) a.length a.length) (run (1) a.length) := OwnB.grows x0 (by exact bel1 q19)
    clear dx00 dx01 dx02 dx0l
    replace mx0 : MBox w19 (w4.heap.size) r0 k0 (.slice (some ⟨jx0, 0, none⟩) a.length a.length) := MBox.grows mx0 (by exact bel1 q19)
    have dx00 := mx0.c0; have dx01 := mx0.c1; have dx02 := mx0.c2; have dx0l := mx0.lt
    replace x1 : OwnB w19 (w4.heap.size + 1) (w5.heap.size) (.slice (some ⟨jx1, 0, none⟩) x.length x.length) (run (1 + (a.length : Int)) x.length) := OwnB.grows x1 (by exact bel1 q19)
    replace g_0 : RowsO w19 (w5.heap.size) (.slice Avg_0 rl.length cvg_0) svg_0 (runR ((1)) rl) := RowsO.grows g_0 (by exact bel1 q19)
    replace u0 : OwnB w19 (w16.heap.size) (w17.heap.size) (.slice (some ⟨ju0, 0, none⟩) a.length a.length) a := OwnB.grows u0 (by exact bel1 q19)
    replace u1 : OwnB w19 (w17.heap.size) (w18.heap.size) (.slice (some ⟨ju1, 0, none⟩) x.length x.length) x := OwnB.grows u1 (by exact bel1 q19)
    have sw19q19 := Below.size q19; (try simp at sw19q19)
    replace HG : Grows w w19 := by exact bel2 q19 HG
    go_wp2_with fail
    refine (eqIntSS_yes _ _ _ _ _ _ _ rfl (by exact RdR.grows RSI.good h_0.rd (by exact bel0)) (by exact RdR.grows RSI.good w_0.rd (by exact bel0)) (by omega) hrx).mono ?_; rintro e w20 ⟨rfl, q20⟩
    replace ra0 : RdB w20 (y0.heap.size) A0 a := RdB.grows ra0 (by exact bel1 q20)
    replace ra1 : RdB w20 (y0.heap.size) A1 x := RdB.grows ra1 (by exact bel1 q20)
    clear b00 b01 b02 b0l
    replace mb0 : MBox w20 (w.heap.size) r0 k0 (.slice A0 a.length c0) := MBox.grows mb0 (by exact bel1 q20)
    have b00 := mb0.c0; have b01 := mb0.c1; have b02 := mb0.c2; have b0l := mb0.lt
    replace w_0 : RdRB w20 (w3.heap.size) Avw_0 rl := RdRB.grows w_0 (by exact bel1 q20)
    replace x0 : OwnB w20 (w3.heap.size) (w4.heap.size) (.slice (some ⟨jx0, 0, none⟩) a.length a.length) (run (1) a.length) := OwnB.grows x0 (by exact bel1 q20)
    clear dx00 dx01 dx02 dx0l
    replace mx0 : MBox w20 (w4.heap.size) r0 k0 (.slice (some ⟨jx0, 0, none⟩) a.length a.length) := MBox.grows mx0 (by exact bel1 q20)
    have dx00 := mx0.c0; have dx01 := mx0.c1; have dx02 := mx0.c2; have dx0l := mx0.lt
    replace x1 : OwnB w20 (w4.heap.size + 1) (w5.heap.size) (.slice (some ⟨jx1, 0, none⟩) x.length x.length) (run (1 + (a.length : Int)) x.length) := OwnB.grows x1 (by exact bel1 q20)
    replace g_0 : RowsO w20 (w5.heap.size) (.slice Avg_0 rl.length cvg_0) svg_0 (runR ((1)) rl) := RowsO.grows g_0 (by exact bel1 q20)
    replace u0 : OwnB w20 (w16.heap.size) (w17.heap.size) (.slice (some ⟨ju0, 0, none⟩) a.length a.length) a := OwnB.grows u0 (by exact bel1 q20)
    replace u1 : OwnB w20 (w17.heap.size) (w18.heap.size) (.slice (some ⟨ju1, 0, none⟩) x.length x.length) x := OwnB.grows u1 (by exact bel1 q20)
    replace h_0 : RdRB w20 (w19.heap.size) Avh_0 rl := RdRB.grows h_0 (by exact bel1 q20)
    have sw20q20 := Below.size q20; (try simp at sw20q20)
    replace HG : Grows w w20 := by exact bel2 q20 HG
    go_wp2_with fail
    refine (heldIntSS_c _ rl _ _ _ _ rfl (by exact RdR.grows RSI.good g_0.rd (by exact bel0)) (by omega) hrx (by omega) (by omega)).mono ?_; rintro e w21 ⟨rfl, q21⟩
    replace ra0 : RdB w21 (y0.heap.size) A0 a := RdB.grows ra0 (by exact bel1 q21)
    replace ra1 : RdB w21 (y0.heap.size) A1 x := RdB.grows ra1 (by exact bel1 q21)
    clear b00 b01 b02 b0l
    replace mb0 : MBox w21 (w.heap.size) r0 k0 (.slice A0 a.length c0) := MBox.grows mb0 (by exact bel1 q21)
    have b00 := mb0.c0; have b01 := mb0.c1; have b02 := mb0.c2; have b0l := mb0.lt
    replace w_0 : RdRB w21 (w3.heap.size) Avw_0 rl := RdRB.grows w_0 (by exact bel1 q21)
    replace x0 : OwnB w21 (w3.heap.size) (w4.heap.size) (.slice (some ⟨jx0, 0, none⟩) a.length a.length) (run (1) a.length) := OwnB.grows x0 (by exact bel1 q21)
    clear dx00 dx01 dx02 dx0l
    replace mx0 : MBox w21 (w4.heap.size) r0 k0 (.slice (some ⟨jx0, 0, none⟩) a.length a.length) := MBox.grows mx0 (by exact bel1 q21)
    have dx00 := mx0.c0; have dx01 := mx0.c1; have dx02 := mx0.c2; have dx0l := mx0.lt
    replace x1 : OwnB w21 (w4.heap.size + 1) (w5.heap.size) (.slice (some ⟨jx1, 0, none⟩) x.length x.length) (run (1 + (a.length : Int)) x.length) := OwnB.grows x1 (by exact bel1 q21)
    replace g_0 : RowsO w21 (w5.heap.size) (.slice Avg_0 rl.length cvg_0) svg_0 (runR ((1)) rl) := RowsO.grows g_0 (by exact bel1 q21)
    replace u0 : OwnB w21 (w16.heap.size) (w17.heap.size) (.slice (some ⟨ju0, 0, none⟩) a.length a.length) a := OwnB.grows u0 (by exact bel1 q21)
    replace u1 : OwnB w21 (w17.heap.size) (w18.heap.size) (.slice (some ⟨ju1, 0, none⟩) x.length x.length) x := OwnB.grows u1 (by exact bel1 q21)
    replace h_0 : RdRB w21 (w19.heap.size) Avh_0 rl := RdRB.grows h_0 (by exact bel1 q21)
    have sw21q21 := Below.size q21; (try simp at sw21q21)
    replace HG : Grows w w21 := by exact bel2 q21 HG
    go_wp2_with fail
    go_ret
    exact ⟨rfl, HG⟩
end Go.Proofs.Ytpgoefdeodoacaa


namespace Go.Proofs.Ytpgoefdeodoacaa
set_option linter.unusedSimpArgs false
set_option linter.unusedVariables false
open Go.ChangeShapes Go.WideShapes Go.ChangeAt Go.RowKit Go.Joins
set_option linter.unusedVariables false

set_option maxRecDepth 100000 in
theorem fnExactClosestTo_lifted (os : Os) (started : os.Started) (H : Type) (enc : TypeId × Value → H) :
    ReturnsInHanded {} Try.checked os 8 .any (Rows.fnExactClosestToSpec.pre6 enc Try.prog Try.f8 Rows.fnExactClosestToRow.domain false) (Rows.fnExactClosestToSpec.post enc Try.prog Try.f8 false true false false) := by
  refine returnsInHanded_of_change (C := Try.checked) own started (by kernel_rfl) Try.func8
    (ChangeSpec.witness6 (enc := enc) (C := Try.checked) false ⟨#[], #[.agg #[.int .i64 0, .int .i64 0, .slice none 0 0], .slice none 0 0], []⟩ 8 (by kernel_rfl) (by kernel_rfl) (by kernel_rfl) (by kernel_rfl)) ?_
  intro W base args ds gs before hval0 hW hcnd _
  have hval : ∀ (j : Nat) t v, Try.f8.params[j]? = some t → args[j]? = some v → Value.okWide Try.prog W .any base t v := hval0
  have hW' := hW
  obtain ⟨p, q, hA0, hV, rfl, hfz, hnd⟩ := hW
  have hA : DataW.TrodAll enc Try.prog W 0 (fun _ => true) true Try.f8.params.toList args.toList ds p := hA0
  rw [Try.params8] at hA hval
  obtain ⟨v0, vs0, d0, ds0, p0, q0, hargs, rfl, rfl, h0, r0⟩ := trodAll_cons hA
  obtain ⟨v1, vs1, d1, ds1, p1, q1, rfl, rfl, rfl, h1, r1⟩ := trodAll_cons r0
  obtain ⟨rfl, rfl, rfl⟩ := trodAll_nil r1
  obtain rfl : args = #[v0, v1] := by cases args; simp_all
  obtain ⟨rfl, rfl⟩ := trodVars_none hV
  have k0 := h0
  have lt0 : ∀ x ∈ p0, x.block < W.heap.size := by obtain ⟨m, hm⟩ := k0; exact DataW.trod_lt m _ _ _ hm
  obtain ⟨u00, u10, u20, y00, y10, y20, m0, rfl, rfl, rfl, t00, t10, t20⟩ := open_agg3 Try.underlying24 (by kernel_rfl) (by kernel_rfl) (hval 0 24 v0 rfl rfl) h0
  obtain ⟨x0, e00, _, wx0⟩ := DataW.trod_int Try.underlying3 t00
  obtain ⟨z0, e10, _, wz0⟩ := DataW.trod_int Try.underlying3 t10
  obtain ⟨A0, l0, c0, e20, ir0⟩ := open_row t20
  simp only [List.cons.injEq, and_true] at e00 e10
  subst e00 e10 e20
  have k1 := h1
  have lt1 : ∀ x ∈ p1, x.block < W.heap.size := by obtain ⟨m, hm⟩ := k1; exact DataW.trod_lt m _ _ _ hm
  obtain ⟨a01, len1, cap1, rfl⟩ := okWide_slice Try.underlying22 (hval 1 22 v1 rfl rfl)
  obtain ⟨A1, l1, c1, e1, ir1⟩ : ∃ A l c, Value.slice a01 len1 cap1 = .slice A (List.length l) c ∧ InRow W A l c := by obtain ⟨fuel, hf⟩ := h1; simp only [Value.cells] at hf; exact open_row hf
  rw [e1] at hval hW' k1 ⊢
  clear hA0 hval0
  refine (lawClo_c x0 z0 A0 l0 c0 A1 l1 c1 W wx0 wz0 ir0 ir1).mono fun e W' ⟨he, bel⟩ => ?_
  subst he
  exact ⟨_, rfl, _, _, _, [], _, [], hW', trodAll_mk1 (shut_bool Try.underlying4 _), (trodAll_cons_mk (Below.trod laidOut (by kernel_rfl) (of_decide_eq_true (by kernel_rfl)) k0 bel lt0) (trodAll_cons_mk (Below.trod laidOut (by kernel_rfl) (of_decide_eq_true (by kernel_rfl)) k1 bel lt1) trodAll_mk0)), rfl, bel.frame _, fun h => by cases h⟩

theorem fnExactClosestTo_closed : joinedFacts Try.pinned.checked.prog 8 Try.f8 Rows.fnExactClosestToSpec Rows.fnExactClosestToRow = true := by
  unfold joinedFacts
  rw [fLaid, fRowed, fStops, fEnter, fLift, fMake]
  change _ = true
  kernel_rfl
/-- The statement. -/
theorem fnExactClosestTo_holds : Rows.FnExactClosestToSaid :=
  OpenClaim.holds_of_wide 8 Try.f8 rfl rfl rfl rfl rfl rfl rfl ⟨rfl, rfl, rfl, rfl, rfl⟩ rfl rfl rfl rfl rfl (by kernel_rfl) Try.func8 fnExactClosestTo_closed
    (of_decide_eq_true (by kernel_rfl)) (by unfold Func.isWrapper; first | (rw [if_pos (by decide +kernel)]; kernel_rfl) | (rw [if_neg (by decide +kernel)]; exact ⟨rfl, rfl⟩))
    (fun os started H enc _ => fnExactClosestTo_lifted os started H enc)
end Go.Proofs.Ytpgoefdeodoacaa
