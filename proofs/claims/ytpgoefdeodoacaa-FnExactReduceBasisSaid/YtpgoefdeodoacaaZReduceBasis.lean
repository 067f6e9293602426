/- The row of FnExactReduceBasis: proved for every input, no condition beyond those of the row. -/
import Derived.Test.YtpgoefdeodoacaaPkA
import Derived.Test.YtpgoefdeodoacaaPkC
import Derived.Test.YtpgoefdeodoacaaQFacts
import Derived.Test.YtpgoefdeodoacaaQRb

namespace Go.Proofs.Ytpgoefdeodoacaa
set_option linter.unusedSimpArgs false
set_option linter.unusedVariables false
open Go.RowKit
set_option linter.unusedVariables false
theorem lawRb_c_ne {w w' : World} {B H B0 H0 : Nat} {v v0 : Value} {l l0 : List Int} (h : OwnB w B H v l) (_o : OwnB w B0 H0 v0 l0) (g : w.grownBy w' v0.ownBlock) (hne : ∀ g, v0.ownBlock = some g → v.ownBlock ≠ some g) : OwnB w' B H v l := ⟨Own.other h.1 g hne, h.2⟩
set_option maxHeartbeats 2000000 in
set_option maxRecDepth 10000 in
theorem lawRb_c (r0 k0 : Int) (A0 : Option Addr) (a : List Int) (c0 : Nat) (w : World) (_wr0 : (Lit.int .i64 r0).wf = true) (_wk0 : (Lit.int .i64 k0).wf = true) (ir0 : InRow w A0 a c0) :
    Calls Try.prog 9 #[.agg #[.int .i64 r0, .int .i64 k0, .slice A0 a.length c0]] w fun e w' => e = .returned (.bool true) ∧ Grows w w' := by
  obtain ⟨rd0, hc0, hm0, _⟩ := ir0
  simp only [maxLen] at hm0
  by_cases hs0 : (a.length : Int) ≤ 1048576
  rotate_left
  · go_enter Try.func9, Try.ntmps9
    go_wp2_with fail
    refine (szMatrix_no _ _ _ _ _ _ _ (by omega) (by omega) (by omega) (by omega)).mono ?_; rintro e y0 ⟨rfl, g0⟩
    have mb0 : MBox y0 (w.heap.size) r0 k0 (.slice A0 a.length c0) := by have := MBox.grows (MBox.mk_ w r0 k0 (.slice A0 a.length c0) 24) (w' := y0) (by exact bel1 g0); simpa using this
    have b00 := mb0.c0; have b01 := mb0.c1; have b02 := mb0.c2; have b0l := mb0.lt
    go_wp2_with fail
    go_ret
    exact ⟨rfl, by exact bel1 g0⟩
  have hl0 : a.length ≤ 1048576 := by omega
  have hrl : (oM2 (rbO ⟨r0, k0, a⟩)).1.l.length ≤ 576 := rbO_len1
  have hrt : (oM2 (rbO ⟨r0, k0, a⟩)).2.l.length ≤ 576 := rbO_len2
  have HS := fun W A c (h0 : Rd W A a) => (sRb_c r0 k0 A a a.length c W rfl h0 (by omega)).mono fun _ _ h => mat2_out h
  have HI := fun W A c (h0 : Rd W A a) => (iRb_c r0 k0 A a a.length c W rfl h0 (by omega)).mono fun _ _ h => mat2_out h
  generalize (oM2 (rbO ⟨r0, k0, a⟩)).1.l = rl at *
  generalize (oM2 (rbO ⟨r0, k0, a⟩)).1.r = rr at *
  generalize (oM2 (rbO ⟨r0, k0, a⟩)).1.c = rc at *
  generalize (oM2 (rbO ⟨r0, k0, a⟩)).2.l = tl at *
  generalize (oM2 (rbO ⟨r0, k0, a⟩)).2.r = tr at *
  generalize (oM2 (rbO ⟨r0, k0, a⟩)).2.c = tc at *
  generalize (rbO ⟨r0, k0, a⟩).isSome = ok at *
  all_goals
    have HS' := Lib.hid HS
    have HI' := Lib.hid HI
    clear HS HI
    go_enter Try.func9, Try.ntmps9
    go_wp2_with fail
    refine (szMatrix_yes _ _ _ _ _ _ _ (by omega) (by omega) (by omega) (by omega)).mono ?_; rintro e y0 ⟨rfl, g0⟩
    have mb0 : MBox y0 (w.heap.size) r0 k0 (.slice A0 a.length c0) := by have := MBox.grows (MBox.mk_ w r0 k0 (.slice A0 a.length c0) 24) (w' := y0) (by exact bel1 g0); simpa using this
    have b00 := mb0.c0; have b01 := mb0.c1; have b02 := mb0.c2; have b0l := mb0.lt
    go_wp2_with fail
    have ra0 : RdB y0 y0.heap.size A0 a := RdB.of (Rd.grows rd0 (by exact bel1 g0))
    have HG : Grows w y0 := by exact bel1 g0
    have sb0 := mb0.lt
    refine (toMatrix_c r0 k0 A0 a c0 _ (by exact Rd.grows ra0.rd (by exact bel0)) hl0).mono ?_; rintro e w1 ⟨js0, rfl, os0, q1⟩
    (try simp at os0)
    have s0 : OwnB w1 (y0.heap.size) (w1.heap.size) (.slice (some ⟨js0, 0, none⟩) a.length a.length) a := OwnB.of (Own.less os0 (by first | omega | simp))
    clear os0
    replace ra0 : RdB w1 (y0.heap.size) A0 a := RdB.grows ra0 (by exact bel1 q1)
    clear b00 b01 b02 b0l
    replace mb0 : MBox w1 (w.heap.size) r0 k0 (.slice A0 a.length c0) := MBox.grows mb0 (by exact bel1 q1)
    have b00 := mb0.c0; have b01 := mb0.c1; have b02 := mb0.c2; have b0l := mb0.lt
    have sw1q1 := Below.size q1; (try simp at sw1q1)
    replace HG : Grows w w1 := by exact bel2 q1 HG
    go_wp2_with fail
    refine (HS'.out _ _ _ (by exact Rd.grows s0.rd (by exact bel0)) ).mono ?_; rintro e w2 ⟨vw_0, vw_1, rfl, ovw_0, ovw_1, new_, q2⟩
    (try simp at ovw_0)
    obtain ⟨Avw_0, cvw_0, rfl, _, _⟩ := ovw_0.val
    have w_0 : OwnB w2 (w1.heap.size) (w2.heap.size) (.slice Avw_0 rl.length cvw_0) rl := OwnB.of (Own.less ovw_0 (by first | omega | simp))
    clear ovw_0
    (try simp at ovw_1)
    obtain ⟨Avw_1, cvw_1, rfl, _, _⟩ := ovw_1.val
    have w_1 : OwnB w2 (w1.heap.size) (w2.heap.size) (.slice Avw_1 tl.length cvw_1) tl := OwnB.of (Own.less ovw_1 (by first | omega | simp))
    clear ovw_1
    clear new_
    replace ra0 : RdB w2 (y0.heap.size) A0 a := RdB.grows ra0 (by exact bel1 q2)
    clear b00 b01 b02 b0l
    replace mb0 : MBox w2 (w.heap.size) r0 k0 (.slice A0 a.length c0) := MBox.grows mb0 (by exact bel1 q2)
    have b00 := mb0.c0; have b01 := mb0.c1; have b02 := mb0.c2; have b0l := mb0.lt
    replace s0 : OwnB w2 (y0.heap.size) (w1.heap.size) (.slice (some ⟨js0, 0, none⟩) a.length a.length) a := OwnB.grows s0 (by exact bel1 q2)
    have sw2q2 := Below.size q2; (try simp at sw2q2)
    replace HG : Grows w w2 := by exact bel2 q2 HG
    go_wp2_with fail
    clear s0
    refine (toMatrix_c r0 k0 A0 a c0 _ (by exact Rd.grows ra0.rd (by exact bel0)) hl0).mono ?_; rintro e w3 ⟨jx0, rfl, ox0, q3⟩
    (try simp at ox0)
    have x0 : OwnB w3 (w2.heap.size + 1 + 1) (w3.heap.size) (.slice (some ⟨jx0, 0, none⟩) a.length a.length) a := OwnB.of (Own.less ox0 (by first | omega | simp))
    clear ox0
    replace ra0 : RdB w3 (y0.heap.size) A0 a := RdB.grows ra0 (by exact bel1 q3)
    clear b00 b01 b02 b0l
    replace mb0 : MBox w3 (w.heap.size) r0 k0 (.slice A0 a.length c0) := MBox.grows mb0 (by exact bel1 q3)
    have b00 := mb0.c0; have b01 := mb0.c1; have b02 := mb0.c2; have b0l := mb0.lt
    replace w_0 : OwnB w3 (w1.heap.size) (w2.heap.size) (.slice Avw_0 rl.length cvw_0) rl := OwnB.grows w_0 (by exact bel1 q3)
    replace w_1 : OwnB w3 (w1.heap.size) (w2.heap.size) (.slice Avw_1 tl.length cvw_1) tl := OwnB.grows w_1 (by exact bel1 q3)
    have mw_0 : MBox w3 (w2.heap.size) rr rc (.slice Avw_0 rl.length cvw_0) := MBox.grows (MBox.new_ w2 rr rc (.slice Avw_0 rl.length cvw_0) 28 (by simp)) (by exact bel1 q3)
    have dw_00 := mw_0.c0; have dw_01 := mw_0.c1; have dw_02 := mw_0.c2; have dw_0l := mw_0.lt
    have mw_1 : MBox w3 (w2.heap.size + 1) tr tc (.slice Avw_1 tl.length cvw_1) := MBox.grows (MBox.new_ (w2.alloc (.cells #[.int .i64 rr, .int .i64 rc, .slice Avw_0 rl.length cvw_0] 28)) tr tc (.slice Avw_1 tl.length cvw_1) 28 (by simp)) (by exact bel1 q3)
    have dw_10 := mw_1.c0; have dw_11 := mw_1.c1; have dw_12 := mw_1.c2; have dw_1l := mw_1.lt
    have sw3q3 := Below.size q3; (try simp at sw3q3)
    replace HG : Grows w w3 := by exact bel2 q3 HG
    go_wp2_with fail
    refine (HI'.out _ _ _ (by exact Rd.grows x0.rd (by exact bel0)) ).mono ?_; rintro e w4 ⟨vg_0, vg_1, rfl, ovg_0, ovg_1, neg_, q4⟩
    (try simp at ovg_0)
    obtain ⟨Avg_0, cvg_0, rfl, _, _⟩ := ovg_0.val
    have g_0 : OwnB w4 (w3.heap.size + 1) (w4.heap.size) (.slice Avg_0 rl.length cvg_0) rl := OwnB.of (Own.less ovg_0 (by first | omega | simp))
    clear ovg_0
    (try simp at ovg_1)
    obtain ⟨Avg_1, cvg_1, rfl, _, _⟩ := ovg_1.val
    have g_1 : OwnB w4 (w3.heap.size + 1) (w4.heap.size) (.slice Avg_1 tl.length cvg_1) tl := OwnB.of (Own.less ovg_1 (by first | omega | simp))
    clear ovg_1
    have NEg_ := Lib.hid neg_
    clear neg_
    replace ra0 : RdB w4 (y0.heap.size) A0 a := RdB.grows ra0 (by exact bel1 q4)
    clear b00 b01 b02 b0l
    replace mb0 : MBox w4 (w.heap.size) r0 k0 (.slice A0 a.length c0) := MBox.grows mb0 (by exact bel1 q4)
    have b00 := mb0.c0; have b01 := mb0.c1; have b02 := mb0.c2; have b0l := mb0.lt
    replace w_0 : OwnB w4 (w1.heap.size) (w2.heap.size) (.slice Avw_0 rl.length cvw_0) rl := OwnB.grows w_0 (by exact bel1 q4)
    replace w_1 : OwnB w4 (w1.heap.size) (w2.heap.size) (.slice Avw_1 tl.length cvw_1) tl := OwnB.grows w_1 (by exact bel1 q4)
    clear dw_00 dw_01 dw_02 dw_0l
    replace mw_0 : MBox w4 (w2.heap.size) rr rc (.slice Avw_0 rl.length cvw_0) := MBox.grows mw_0 (by exact bel1 q4)
    have dw_00 := mw_0.c0; have dw_01 := mw_0.c1; have dw_02 := mw_0.c2; have dw_0l := mw_0.lt
    clear dw_10 dw_11 dw_12 dw_1l
    replace mw_1 : MBox w4 (w2.heap.size + 1) tr tc (.slice Avw_1 tl.length cvw_1) := MBox.grows mw_1 (by exact bel1 q4)
    have dw_10 := mw_1.c0; have dw_11 := mw_1.c1; have dw_12 := mw_1.c2; have dw_1l := mw_1.lt
    replace x0 : OwnB w4 (w2.heap.size + 1 + 1) (w3.heap.size) (.slice (some ⟨jx0, 0, none⟩) a.length a.length) a := OwnB.grows x0 (by exact bel1 q4)
    have mx0 : MBox w4 (w3.heap.size) r0 k0 (.slice (some ⟨jx0, 0, none⟩) a.length a.length) := MBox.grows (MBox.mk_ w3 r0 k0 (.slice (some ⟨jx0, 0, none⟩) a.length a.length) 28) q4
    have dx00 := mx0.c0; have dx01 := mx0.c1; have dx02 := mx0.c2; have dx0l := mx0.lt
    have sw4q4 := Below.size q4; (try simp at sw4q4)
    replace HG : Grows w w4 := by exact bel2 q4 HG
    go_wp2_with fail
    refine (eqMatrix_yes _ _ _ _ _ _ _ _ (by exact Rd.grows g_0.rd (by exact bel0)) (by exact Rd.grows w_0.rd (by exact bel0)) (by omega)).mono ?_; rintro e w5 ⟨rfl, q5⟩
    replace ra0 : RdB w5 (y0.heap.size) A0 a := RdB.grows ra0 (by exact bel1 q5)
    clear b00 b01 b02 b0l
    replace mb0 : MBox w5 (w.heap.size) r0 k0 (.slice A0 a.length c0) := MBox.grows mb0 (by exact bel1 q5)
    have b00 := mb0.c0; have b01 := mb0.c1; have b02 := mb0.c2; have b0l := mb0.lt
    replace w_0 : OwnB w5 (w1.heap.size) (w2.heap.size) (.slice Avw_0 rl.length cvw_0) rl := OwnB.grows w_0 (by exact bel1 q5)
    replace w_1 : OwnB w5 (w1.heap.size) (w2.heap.size) (.slice Avw_1 tl.length cvw_1) tl := OwnB.grows w_1 (by exact bel1 q5)
    clear dw_00 dw_01 dw_02 dw_0l
    replace mw_0 : MBox w5 (w2.heap.size) rr rc (.slice Avw_0 rl.length cvw_0) := MBox.grows mw_0 (by exact bel1 q5)
    have dw_00 := mw_0.c0; have dw_01 := mw_0.c1; have dw_02 := mw_0.c2; have dw_0l := mw_0.lt
    clear dw_10 dw_11 dw_12 dw_1l
    replace mw_1 : MBox w5 (w2.heap.size + 1) tr tc (.slice Avw_1 tl.length cvw_1) := MBox.grows mw_1 (by exact bel1 q5)
    have dw_10 := mw_1.c0; have dw_11 := mw_1.c1; have dw_12 := mw_1.c2; have dw_1l := mw_1.lt
    replace x0 : OwnB w5 (w2.heap.size + 1 + 1) (w3.heap.size) (.slice (some ⟨jx0, 0, none⟩) a.length a.length) a := OwnB.grows x0 (by exact bel1 q5)
    clear dx00 dx01 dx02 dx0l
    replace mx0 : MBox w5 (w3.heap.size) r0 k0 (.slice (some ⟨jx0, 0, none⟩) a.length a.length) := MBox.grows mx0 (by exact bel1 q5)
    have dx00 := mx0.c0; have dx01 := mx0.c1; have dx02 := mx0.c2; have dx0l := mx0.lt
    replace g_0 : OwnB w5 (w3.heap.size + 1) (w4.heap.size) (.slice Avg_0 rl.length cvg_0) rl := OwnB.grows g_0 (by exact bel1 q5)
    replace g_1 : OwnB w5 (w3.heap.size + 1) (w4.heap.size) (.slice Avg_1 tl.length cvg_1) tl := OwnB.grows g_1 (by exact bel1 q5)
    have mg_0 : MBox w5 (w4.heap.size) rr rc (.slice Avg_0 rl.length cvg_0) := MBox.grows (MBox.new_ w4 rr rc (.slice Avg_0 rl.length cvg_0) 28 (by simp)) (by exact bel1 q5)
    have dg_00 := mg_0.c0; have dg_01 := mg_0.c1; have dg_02 := mg_0.c2; have dg_0l := mg_0.lt
    have mg_1 : MBox w5 (w4.heap.size + 1) tr tc (.slice Avg_1 tl.length cvg_1) := MBox.grows (MBox.new_ (w4.alloc (.cells #[.int .i64 rr, .int .i64 rc, .slice Avg_0 rl.length cvg_0] 28)) tr tc (.slice Avg_1 tl.length cvg_1) 28 (by simp)) (by exact bel1 q5)
    have dg_10 := mg_1.c0; have dg_11 := mg_1.c1; have dg_12 := mg_1.c2; have dg_1l := mg_1.lt
    have sw5q5 := Below.size q5; (try simp at sw5q5)
    replace HG : Grows w w5 := by exact bel2 q5 HG
    go_wp2_with fail
    refine (eqMatrix_yes _ _ _ _ _ _ _ _ (by exact Rd.grows g_1.rd (by exact bel0)) (by exact Rd.grows w_1.rd (by exact bel0)) (by omega)).mono ?_; rintro e w6 ⟨rfl, q6⟩
    replace ra0 : RdB w6 (y0.heap.size) A0 a := RdB.grows ra0 (by exact bel1 q6)
    clear b00 b01 b02 b0l
    replace mb0 : MBox w6 (w.heap.size) r0 k0 (.slice A0 a.length c0) := MBox.grows mb0 (by exact bel1 q6)
    have b00 := mb0.c0; have b01 := mb0.c1; have b02 := mb0.c2; have b0l := mb0.lt
    replace w_0 : OwnB w6 (w1.heap.size) (w2.heap.size) (.slice Avw_0 rl.length cvw_0) rl := OwnB.grows w_0 (by exact bel1 q6)
    replace w_1 : OwnB w6 (w1.heap.size) (w2.heap.size) (.slice Avw_1 tl.length cvw_1) tl := OwnB.grows w_1 (by exact bel1 q6)
    clear dw_00 dw_01 dw_02 dw_0l
    replace mw_0 : MBox w6 (w2.heap.size) rr rc (.slice Avw_0 rl.length cvw_0) := MBox.grows mw_0 (by exact bel1 q6)
    have dw_00 := mw_0.c0; have dw_01 := mw_0.c1; have dw_02 := mw_0.c2; have dw_0l := mw_0.lt
    clear dw_10 dw_11 dw_12 dw_1l
    replace mw_1 : MBox w6 (w2.heap.size + 1) tr tc (.slice Avw_1 tl.length cvw_1) := MBox.grows mw_1 (by exact bel1 q6)
    have dw_10 := mw_1.c0; have dw_11 := mw_1.c1; have dw_12 := mw_1.c2; have dw_1l := mw_1.lt
    replace x0 : OwnB w6 (w2.heap.size + 1 + 1) (w3.heap.size) (.slice (some ⟨jx0, 0, none⟩) a.length a.length) a := OwnB.grows x0 (by exact bel1 q6)
    clear dx00 dx01 dx02 dx0l
    replace mx0 : MBox w6 (w3.heap.size) r0 k0 (.slice (some ⟨jx0, 0, none⟩) a.length a.length) := MBox.grows mx0 (by exact bel1 q6)
    have dx00 := mx0.c0; have dx01 := mx0.c1; have dx02 := mx0.c2; have dx0l := mx0.lt
    replace g_0 : OwnB w6 (w3.heap.size + 1) (w4.heap.size) (.slice Avg_0 rl.length cvg_0) rl := OwnB.grows g_0 (by exact bel1 q6)
    replace g_1 : OwnB w6 (w3.heap.size + 1) (w4.heap.size) (.slice Avg_1 tl.length cvg_1) tl := OwnB.grows g_1 (by exact bel1 q6)
    clear dg_00 dg_01 dg_02 dg_0l
    replace mg_0 : MBox w6 (w4.heap.size) rr rc (.slice Avg_0 rl.length cvg_0) := MBox.grows mg_0 (by exact bel1 q6)
    have dg_00 := mg_0.c0; have dg_01 := mg_0.c1; have dg_02 := mg_0.c2; have dg_0l := mg_0.lt
    clear dg_10 dg_11 dg_12 dg_1l
    replace mg_1 : MBox w6 (w4.heap.size + 1) tr tc (.slice Avg_1 tl.length cvg_1) := MBox.grows mg_1 (by exact bel1 q6)
    have dg_10 := mg_1.c0; have dg_11 := mg_1.c1; have dg_12 := mg_1.c2; have dg_1l := mg_1.lt
    have sw6q6 := Below.size q6; (try simp at sw6q6)
    replace HG : Grows w w6 := by exact bel2 q6 HG
    go_wp2_with fail
    go_region_held3 (fun W => W.cell? ⟨w3.heap.size, 0, none⟩ = some (.int .i64 r0) ∧ W.cell? ⟨w3.heap.size, 1, none⟩ = some (.int .i64 k0) ∧ W.cell? ⟨w3.heap.size, 2, none⟩ = some (.slice (some ⟨jx0, 0, none⟩) a.length a.length) ∧ W.cell? ⟨w.heap.size, 0, none⟩ = some (.int .i64 r0) ∧ W.cell? ⟨w.heap.size, 1, none⟩ = some (.int .i64 k0) ∧ W.cell? ⟨w.heap.size, 2, none⟩ = some (.slice A0 a.length c0)) ((refine two_boxes mx0 mb0 ?_; first | exact bel2 q8 q7 | exact bel1 q7 | exact bel0)) (first | (go_at_call 17; refine (toMatrix_c r0 k0 A0 a c0 _ (by exact Rd.grows ra0.rd (by exact bel0)) hl0).mono ?_; rintro e w7 ⟨jt0, rfl, ot0, q7⟩) | (go_at_call 21; refine (eqMatrix_yes _ _ _ _ _ _ _ _ (by exact Rd.grows x0.rd (by exact bel1 q7)) (by exact ot0.rd) (by omega)).mono ?_; rintro e w8 ⟨rfl, q8⟩))
    clear ot0
    replace ra0 : RdB w8 (y0.heap.size) A0 a := RdB.grows ra0 (by exact bel2 q8 q7)
    clear b00 b01 b02 b0l
    replace mb0 : MBox w8 (w.heap.size) r0 k0 (.slice A0 a.length c0) := MBox.grows mb0 (by exact bel2 q8 q7)
    have b00 := mb0.c0; have b01 := mb0.c1; have b02 := mb0.c2; have b0l := mb0.lt
    replace w_0 : OwnB w8 (w1.heap.size) (w2.heap.size) (.slice Avw_0 rl.length cvw_0) rl := OwnB.grows w_0 (by exact bel2 q8 q7)
    replace w_1 : OwnB w8 (w1.heap.size) (w2.heap.size) (.slice Avw_1 tl.length cvw_1) tl := OwnB.grows w_1 (by exact bel2 q8 q7)
    clear dw_00 dw_01 dw_02 dw_0l
    replace mw_0 : MBox w8 (w2.heap.size) rr rc (.slice Avw_0 rl.length cvw_0) := MBox.grows mw_0 (by exact bel2 q8 q7)
    have dw_00 := mw_0.c0; have dw_01 := mw_0.c1; have dw_02 := mw_0.c2; have dw_0l := mw_0.lt
    clear dw_10 dw_11 dw_12 dw_1l
    replace mw_1 : MBox w8 (w2.heap.size + 1) tr tc (.slice Avw_1 tl.length cvw_1) := MBox.grows mw_1 (by exact bel2 q8 q7)
    have dw_10 := mw_1.c0; have dw_11 := mw_1.c1; have dw_12 := mw_1.c2; have dw_1l := mw_1.lt
    replace x0 : OwnB w8 (w2.heap.size + 1 + 1) (w3.heap.size) (.slice (some ⟨jx0, 0, none⟩) a.length a.length) a := OwnB.grows x0 (by exact bel2 q8 q7)
    clear dx00 dx01 dx02 dx0l
    replace mx0 : MBox w8 (w3.heap.size) r0 k0 (.slice (some ⟨jx0, 0, none⟩) a.length a.length) := MBox.grows mx0 (by exact bel2 q8 q7)
    have dx00 := mx0.c0; have dx01 := mx0.c1; have dx02 := mx0.c2; have dx0l := mx0.lt
    replace g_0 : OwnB w8 (w3.heap.size + 1) (w4.heap.size) (.slice Avg_0 rl.length cvg_0) rl := OwnB.grows g_0 (by exact bel2 q8 q7)
    replace g_1 : OwnB w8 (w3.heap.size + 1) (w4.heap.size) (.slice Avg_1 tl.length cvg_1) tl := OwnB.grows g_1 (by exact bel2 q8 q7)
    clear dg_00 dg_01 dg_02 dg_0l
    replace mg_0 : MBox w8 (w4.heap.size) rr rc (.slice Avg_0 rl.length cvg_0) := MBox.grows mg_0 (by exact bel2 q8 q7)
    have dg_00 := mg_0.c0; have dg_01 := mg_0.c1; have dg_02 := mg_0.c2; have dg_0l := mg_0.lt
    clear dg_10 dg_11 dg_12 dg_1l
    replace mg_1 : MBox w8 (w4.heap.size + 1) tr tc (.slice Avg_1 tl.length cvg_1) := MBox.grows mg_1 (by exact bel2 q8 q7)
    have dg_10 := mg_1.c0; have dg_11 := mg_1.c1; have dg_12 := mg_1.c2; have dg_1l := mg_1.lt
    have sw8q7 := Below.size q7; (try simp at sw8q7)
    have sw8q8 := Below.size q8; (try simp at sw8q8)
    replace HG : Grows w w8 := by exact bel3 q8 q7 HG
    go_wp2_with fail
    refine (markMatrix_c (w2.heap.size + 1 + 1) _ _ _ _ _ _ _ x0.own (by omega) (by omega) (by omega)).mono ?_; rintro e w9 ⟨rfl, ox0, q9⟩
    replace ra0 : RdB w9 (y0.heap.size) A0 a := RdB.mark ra0 x0 q9 (by omega)
    clear b00 b01 b02 b0l
    replace mb0 : MBox w9 (w.heap.size) r0 k0 (.slice A0 a.length c0) := MBox.mark mb0 x0 q9 (by omega)
    have b00 := mb0.c0; have b01 := mb0.c1; have b02 := mb0.c2; have b0l := mb0.lt
    replace w_0 : OwnB w9 (w1.heap.size) (w2.heap.size) (.slice Avw_0 rl.length cvw_0) rl := by first | exact OwnB.mark_lo w_0 x0 q9 (by omega) | exact OwnB.mark_hi w_0 x0 q9 (by omega) | exact lawRb_c_ne w_0 x0 q9 NEg_.out | exact lawRb_c_ne w_0 x0 q9 (fun k h h2 => NEg_.out k h2 h)
    replace w_1 : OwnB w9 (w1.heap.size) (w2.heap.size) (.slice Avw_1 tl.length cvw_1) tl := by first | exact OwnB.mark_lo w_1 x0 q9 (by omega) | exact OwnB.mark_hi w_1 x0 q9 (by omega) | exact lawRb_c_ne w_1 x0 q9 NEg_.out | exact lawRb_c_ne w_1 x0 q9 (fun k h h2 => NEg_.out k h2 h)
    clear dw_00 dw_01 dw_02 dw_0l
    replace mw_0 : MBox w9 (w2.heap.size) rr rc (.slice Avw_0 rl.length cvw_0) := MBox.mark mw_0 x0 q9 (by omega)
    have dw_00 := mw_0.c0; have dw_01 := mw_0.c1; have dw_02 := mw_0.c2; have dw_0l := mw_0.lt
    clear dw_10 dw_11 dw_12 dw_1l
    replace mw_1 : MBox w9 (w2.heap.size + 1) tr tc (.slice Avw_1 tl.length cvw_1) := MBox.mark mw_1 x0 q9 (by omega)
    have dw_10 := mw_1.c0; have dw_11 := mw_1.c1; have dw_12 := mw_1.c2; have dw_1l := mw_1.lt
    clear dx00 dx01 dx02 dx0l
    replace mx0 : MBox w9 (w3.heap.size) r0 k0 (.slice (some ⟨jx0, 0, none⟩) a.length a.length) := MBox.mark mx0 x0 q9 (by omega)
    have dx00 := mx0.c0; have dx01 := mx0.c1; have dx02 := mx0.c2; have dx0l := mx0.lt
    replace g_0 : OwnB w9 (w3.heap.size + 1) (w4.heap.size) (.slice Avg_0 rl.length cvg_0) rl := by first | exact OwnB.mark_lo g_0 x0 q9 (by omega) | exact OwnB.mark_hi g_0 x0 q9 (by omega) | exact lawRb_c_ne g_0 x0 q9 NEg_.out | exact lawRb_c_ne g_0 x0 q9 (fun k h h2 => NEg_.out k h2 h)
    replace g_1 : OwnB w9 (w3.heap.size + 1) (w4.heap.size) (.slice Avg_1 tl.length cvg_1) tl := by first | exact OwnB.mark_lo g_1 x0 q9 (by omega) | exact OwnB.mark_hi g_1 x0 q9 (by omega) | exact lawRb_c_ne g_1 x0 q9 NEg_.out | exact lawRb_c_ne g_1 x0 q9 (fun k h h2 => NEg_.out k h2 h)
    clear dg_00 dg_01 dg_02 dg_0l
    replace mg_0 : MBox w9 (w4.heap.size) rr rc (.slice Avg_0 rl.length cvg_0) := MBox.mark mg_0 x0 q9 (by omega)
    have dg_00 := mg_0.c0; have dg_01 := mg_0.c1; have dg_02 := mg_0.c2; have dg_0l := mg_0.lt
    clear dg_10 dg_11 dg_12 dg_1l
    replace mg_1 : MBox w9 (w4.heap.size + 1) tr tc (.slice Avg_1 tl.length cvg_1) := MBox.mark mg_1 x0 q9 (by omega)
    have dg_10 := mg_1.c0; have dg_11 := mg_1.c1; have dg_12 := mg_1.c2; have dg_1l := mg_1.lt
    have sw9 := World.grownBy.size q9
    replace HG : Grows w w9 := below_mark HG x0 q9 (by omega) (Below.size HG)
    have hhx0 : OwnB w9 (w2.heap.size + 1 + 1) (w3.heap.size) (.slice (some ⟨jx0, 0, none⟩) a.length a.length) (run (1) a.length) := ⟨ox0, x0.2⟩
    clear ox0 x0
    have x0 := hhx0
    clear hhx0
    go_wp2_with fail
    refine (eqMatrix_yes _ _ _ _ _ _ _ _ (by exact Rd.grows g_0.rd (by exact bel0)) (by exact Rd.grows w_0.rd (by exact bel0)) (by omega)).mono ?_; rintro e w10 ⟨rfl, q10⟩
    replace ra0 : RdB w10 (y0.heap.size) A0 a := RdB.grows ra0 (by exact bel1 q10)
    clear b00 b01 b02 b0l
    replace mb0 : MBox w10 (w.heap.size) r0 k0 (.slice A0 a.length c0) := MBox.grows mb0 (by exact bel1 q10)
    have b00 := mb0.c0; have b01 := mb0.c1; have b02 := mb0.c2; have b0l := mb0.lt
    replace w_0 : OwnB w10 (w1.heap.size) (w2.heap.size) (.slice Avw_0 rl.length cvw_0) rl := OwnB.grows w_0 (by exact bel1 q10)
    replace w_1 : OwnB w10 (w1.heap.size) (w2.heap.size) (.slice Avw_1 tl.length cvw_1) tl := OwnB.grows w_1 (by exact bel1 q10)
    clear dw_00 dw_01 dw_02 dw_0l
    replace mw_0 : MBox w10 (w2.heap.size) rr rc (.slice Avw_0 rl.length cvw_0) := MBox.grows mw_0 (by exact bel1 q10)
    have dw_00 := mw_0.c0; have dw_01 := mw_0.c1; have dw_02 := mw_0.c2; have dw_0l := mw_0.lt
    clear dw_10 dw_11 dw_12 dw_1l
    replace mw_1 : MBox w10 (w2.heap.size + 1) tr tc (.slice Avw_1 tl.length cvw_1) := MBox.grows mw_1 (by exact bel1 q10)
    have dw_10 := mw_1.c0; have dw_11 := mw_1.c1; have dw_12 := mw_1.c2; have dw_1l := mw_1.lt
    replace x0 : OwnB w10 (w2.heap.size + 1 + 1) (w3.heap.size) (.slice (some ⟨jx0, 0, none⟩) a.length a.length) (run (1) a.length) := OwnB.grows x0 (by exact bel1 q10)
    clear dx00 dx01 dx02 dx0l
    replace mx0 : MBox w10 (w3.heap.size) r0 k0 (.slice (some ⟨jx0, 0, none⟩) a.length a.length) := MBox.grows mx0 (by exact bel1 q10)
    have dx00 := mx0.c0; have dx01 := mx0.c1; have dx02 := mx0.c2; have dx0l := mx0.lt
    replace g_0 : OwnB w10 (w3.heap.size + 1) (w4.heap.size) (.slice Avg_0 rl.length cvg_0) rl := OwnB.grows g_0 (by exact bel1 q10)
    replace g_1 : OwnB w10 (w3.heap.size + 1) (w4.heap.size) (.slice Avg_1 tl.length cvg_1) tl := OwnB.grows g_1 (by exact bel1 q10)
    clear dg_00 dg_01 dg_02 dg_0l
    replace mg_0 : MBox w10 (w4.heap.size) rr rc (.slice Avg_0 rl.length cvg_0) := MBox.grows mg_0 (by exact bel1 q10)
    have dg_00 := mg_0.c0; have dg_01 := mg_0.c1; have dg_02 := mg_0.c2; have dg_0l := mg_0.lt
    clear dg_10 dg_11 dg_12 dg_1l
    replace mg_1 : MBox w10 (w4.heap.size + 1) tr tc (.slice Avg_1 tl.length cvg_1) := MBox.grows mg_1 (by exact bel1 q10)
    have dg_10 := mg_1.c0; have dg_11 := mg_1.c1; have dg_12 := mg_1.c2; have dg_1l := mg_1.lt
    have sw10q10 := Below.size q10; (try simp at sw10q10)
    replace HG : Grows w w10 := by exact bel2 q10 HG
    go_wp2_with fail
    refine (eqMatrix_yes _ _ _ _ _ _ _ _ (by exact Rd.grows g_1.rd (by exact bel0)) (by exact Rd.grows w_1.rd (by exact bel0)) (by omega)).mono ?_; rintro e w11 ⟨rfl, q11⟩
    replace ra0 : RdB w11 (y0.heap.size) A0 a := RdB.grows ra0 (by exact bel1 q11)
    clear b00 b01 b02 b0l
    replace mb0 : MBox w11 (w.heap.size) r0 k0 (.slice A0 a.length c0) := MBox.grows mb0 (by exact bel1 q11)
    have b00 := mb0.c0; have b01 := mb0.c1; have b02 := mb0.c2; have b0l := mb0.lt
    replace w_0 : OwnB w11 (w1.heap.size) (w2.heap.size) (.slice Avw_0 rl.length cvw_0) rl := OwnB.grows w_0 (by exact bel1 q11)
    replace w_1 : OwnB w11 (w1.heap.size) (w2.heap.size) (.slice Avw_1 tl.length cvw_1) tl := OwnB.grows w_1 (by exact bel1 q11)
    clear dw_00 dw_01 dw_02 dw_0l
    replace mw_0 : MBox w11 (w2.heap.size) rr rc (.slice Avw_0 rl.length cvw_0) := MBox.grows mw_0 (by exact bel1 q11)
    have dw_00 := mw_0.c0; have dw_01 := mw_0.c1; have dw_02 := mw_0.c2; have dw_0l := mw_0.lt
    clear dw_10 dw_11 dw_12 dw_1l
    replace mw_1 : MBox w11 (w2.heap.size + 1) tr tc (.slice Avw_1 tl.length cvw_1) := MBox.grows mw_1 (by exact bel1 q11)
    have dw_10 := mw_1.c0; have dw_11 := mw_1.c1; have dw_12 := mw_1.c2; have dw_1l := mw_1.lt
    replace x0 : OwnB w11 (w2.heap.size + 1 + 1) (w3.heap.size) (.slice (some ⟨jx0, 0, none⟩) a.length a.length) (run (1) a.length) := OwnB.grows x0 (by exact bel1 q11)
    clear dx00 dx01 dx02 dx0l
    replace mx0 : MBox w11 (w3.heap.size) r0 k0 (.slice (some ⟨jx0, 0, none⟩) a.length a.length) := MBox.grows mx0 (by exact bel1 q11)
    have dx00 := mx0.c0; have dx01 := mx0.c1; have dx02 := mx0.c2; have dx0l := mx0.lt
    replace g_0 : OwnB w11 (w3.heap.size + 1) (w4.heap.size) (.slice Avg_0 rl.length cvg_0) rl := OwnB.grows g_0 (by exact bel1 q11)
    replace g_1 : OwnB w11 (w3.heap.size + 1) (w4.heap.size) (.slice Avg_1 tl.length cvg_1) tl := OwnB.grows g_1 (by exact bel1 q11)
    clear dg_00 dg_01 dg_02 dg_0l
    replace mg_0 : MBox w11 (w4.heap.size) rr rc (.slice Avg_0 rl.length cvg_0) := MBox.grows mg_0 (by exact bel1 q11)
    have dg_00 := mg_0.c0; have dg_01 := mg_0.c1; have dg_02 := mg_0.c2; have dg_0l := mg_0.lt
    clear dg_10 dg_11 dg_12 dg_1l
    replace mg_1 : MBox w11 (w4.heap.size + 1) tr tc (.slice Avg_1 tl.length cvg_1) := MBox.grows mg_1 (by exact bel1 q11)
    have dg_10 := mg_1.c0; have dg_11 := mg_1.c1; have dg_12 := mg_1.c2; have dg_1l := mg_1.lt
    have sw11q11 := Below.size q11; (try simp at sw11q11)
    replace HG : Grows w w11 := by exact bel2 q11 HG
    go_wp2_with fail
    refine (markMatrix_c (w3.heap.size + 1) _ _ _ _ _ _ _ g_0.own (by omega) (by omega) (by omega)).mono ?_; rintro e w12 ⟨rfl, og_0, q12⟩
    replace ra0 : RdB w12 (y0.heap.size) A0 a := RdB.mark ra0 g_0 q12 (by omega)
    clear b00 b01 b02 b0l
    replace mb0 : MBox w12 (w.heap.size) r0 k0 (.slice A0 a.length c0) := MBox.mark mb0 g_0 q12 (by omega)
    have b00 := mb0.c0; have b01 := mb0.c1; have b02 := mb0.c2; have b0l := mb0.lt
    replace w_0 : OwnB w12 (w1.heap.size) (w2.heap.size) (.slice Avw_0 rl.length cvw_0) rl := by first | exact OwnB.mark_lo w_0 g_0 q12 (by omega) | exact OwnB.mark_hi w_0 g_0 q12 (by omega) | exact lawRb_c_ne w_0 g_0 q12 NEg_.out | exact lawRb_c_ne w_0 g_0 q12 (fun k h h2 => NEg_.out k h2 h)
    replace w_1 : OwnB w12 (w1.heap.size) (w2.heap.size) (.slice Avw_1 tl.length cvw_1) tl := by first | exact OwnB.mark_lo w_1 g_0 q12 (by omega) | exact OwnB.mark_hi w_1 g_0 q12 (by omega) | exact lawRb_c_ne w_1 g_0 q12 NEg_.out | exact lawRb_c_ne w_1 g_0 q12 (fun k h h2 => NEg_.out k h2 h)
    clear dw_00 dw_01 dw_02 dw_0l
    replace mw_0 : MBox w12 (w2.heap.size) rr rc (.slice Avw_0 rl.length cvw_0) := MBox.mark mw_0 g_0 q12 (by omega)
    have dw_00 := mw_0.c0; have dw_01 := mw_0.c1; have dw_02 := mw_0.c2; have dw_0l := mw_0.lt
    clear dw_10 dw_11 dw_12 dw_1l
    replace mw_1 : MBox w12 (w2.heap.size + 1) tr tc (.slice Avw_1 tl.length cvw_1) := MBox.mark mw_1 g_0 q12 (by omega)
    have dw_10 := mw_1.c0; have dw_11 := mw_1.c1; have dw_12 := mw_1.c2; have dw_1l := mw_1.lt
    replace x0 : OwnB w12 (w2.heap.size + 1 + 1) (w3.heap.size) (.slice (some ⟨jx0, 0, none⟩) a.length a.length) (run (1) a.length) := by first | exact OwnB.mark_lo x0 g_0 q12 (by omega) | exact OwnB.mark_hi x0 g_0 q12 (by omega) | exact lawRb_c_ne x0 g_0 q12 NEg_.out | exact lawRb_c_ne x0 g_0 q12 (fun k h h2 => NEg_.out k h2 h)
    clear dx00 dx01 dx02 dx0l
    replace mx0 : MBox w12 (w3.heap.size) r0 k0 (.slice (some ⟨jx0, 0, none⟩) a.length a.length) := MBox.mark mx0 g_0 q12 (by omega)
    have dx00 := mx0.c0; have dx01 := mx0.c1; have dx02 := mx0.c2; have dx0l := mx0.lt
    replace g_1 : OwnB w12 (w3.heap.size + 1) (w4.heap.size) (.slice Avg_1 tl.length cvg_1) tl := by first | exact OwnB.mark_lo g_1 g_0 q12 (by omega) | exact OwnB.mark_hi g_1 g_0 q12 (by omega) | exact lawRb_c_ne g_1 g_0 q12 NEg_.out | exact lawRb_c_ne g_1 g_0 q12 (fun k h h2 => NEg_.out k h2 h)
    clear dg_00 dg_01 dg_02 dg_0l
    replace mg_0 : MBox w12 (w4.heap.size) rr rc (.slice Avg_0 rl.length cvg_0) := MBox.mark mg_0 g_0 q12 (by omega)
    have dg_00 := mg_0.c0; have dg_01 := mg_0.c1; have dg_02 := mg_0.c2; have dg_0l := mg_0.lt
    clear dg_10 dg_11 dg_12 dg_1l
    replace mg_1 : MBox w12 (w4.heap.size + 1) tr tc (.slice Avg_1 tl.length cvg_1) := MBox.mark mg_1 g_0 q12 (by omega)
    have dg_10 := mg_1.c0; have dg_11 := mg_1.c1; have dg_12 := mg_1.c2; have dg_1l := mg_1.lt
    have sw12 := World.grownBy.size q12
    replace HG : Grows w w12 := below_mark HG g_0 q12 (by omega) (Below.size HG)
    have hhg_0 : OwnB w12 (w3.heap.size + 1) (w4.heap.size) (.slice Avg_0 rl.length cvg_0) (run (1) rl.length) := ⟨og_0, g_0.2⟩
    clear og_0 g_0
    have g_0 := hhg_0
    clear hhg_0
    go_wp2_with fail
    refine (markMatrix_c (w3.heap.size + 1) _ _ _ _ _ _ _ g_1.own (by omega) (by omega) (by omega)).mono ?_; rintro e w13 ⟨rfl, og_1, q13⟩
    replace ra0 : RdB w13 (y0.heap.size) A0 a := RdB.mark ra0 g_1 q13 (by omega)
    clear b00 b01 b02 b0l
    replace mb0 : MBox w13 (w.heap.size) r0 k0 (.slice A0 a.length c0) := MBox.mark mb0 g_1 q13 (by omega)
    have b00 := mb0.c0; have b01 := mb0.c1; have b02 := mb0.c2; have b0l := mb0.lt
    replace w_0 : OwnB w13 (w1.heap.size) (w2.heap.size) (.slice Avw_0 rl.length cvw_0) rl := by first | exact OwnB.mark_lo w_0 g_1 q13 (by omega) | exact OwnB.mark_hi w_0 g_1 q13 (by omega) | exact lawRb_c_ne w_0 g_1 q13 NEg_.out | exact lawRb_c_ne w_0 g_1 q13 (fun k h h2 => NEg_.out k h2 h)
    replace w_1 : OwnB w13 (w1.heap.size) (w2.heap.size) (.slice Avw_1 tl.length cvw_1) tl := by first | exact OwnB.mark_lo w_1 g_1 q13 (by omega) | exact OwnB.mark_hi w_1 g_1 q13 (by omega) | exact lawRb_c_ne w_1 g_1 q13 NEg_.out | exact lawRb_c_ne w_1 g_1 q13 (fun k h h2 => NEg_.out k h2 h)
    clear dw_00 dw_01 dw_02 dw_0l
    replace mw_0 : MBox w13 (w2.heap.size) rr rc (.slice Avw_0 rl.length cvw_0) := MBox.mark mw_0 g_1 q13 (by omega)
    have dw_00 := mw_0.c0; have dw_01 := mw_0.c1; have dw_02 := mw_0.c2; have dw_0l := mw_0.lt
    clear dw_10 dw_11 dw_12 dw_1l
    replace mw_1 : MBox w13 (w2.heap.size + 1) tr tc (.slice Avw_1 tl.length cvw_1) := MBox.mark mw_1 g_1 q13 (by omega)
    have dw_10 := mw_1.c0; have dw_11 := mw_1.c1; have dw_12 := mw_1.c2; have dw_1l := mw_1.lt
    replace x0 : OwnB w13 (w2.heap.size + 1 + 1) (w3.heap.size) (.slice (some ⟨jx0, 0, none⟩) a.length a.length) (run (1) a.length) := by first | exact OwnB.mark_lo x0 g_1 q13 (by omega) | exact OwnB.mark_hi x0 g_1 q13 (by omega) | exact lawRb_c_ne x0 g_1 q13 NEg_.out | exact lawRb_c_ne x0 g_1 q13 (fun k h h2 => NEg_.out k h2 h)
    clear dx00 dx01 dx02 dx0l
    replace mx0 : MBox w13 (w3.heap.size) r0 k0 (.slice (some ⟨jx0, 0, none⟩) a.length a.length) := MBox.mark mx0 g_1 q13 (by omega)
    have dx00 := mx0.c0; have dx01 := mx0.c1; have dx02 := mx0.c2; have dx0l := mx0.lt
    replace g_0 : OwnB w13 (w3.heap.size + 1) (w4.heap.size) (.slice Avg_0 rl.length cvg_0) (run (1) rl.length) := by first | exact OwnB.mark_lo g_0 g_1 q13 (by omega) | exact OwnB.mark_hi g_0 g_1 q13 (by omega) | exact lawRb_c_ne g_0 g_1 q13 NEg_.out | exact lawRb_c_ne g_0 g_1 q13 (fun k h h2 => NEg_.out k h2 h)
    clear dg_00 dg_01 dg_02 dg_0l
    replace mg_0 : MBox w13 (w4.heap.size) rr rc (.slice Avg_0 rl.length cvg_0) := MBox.mark mg_0 g_1 q13 (by omega)
    have dg_00 := mg_0.c0; have dg_01 := mg_0.c1; have dg_02 := mg_0.c2; have dg_0l := mg_0.lt
    clear dg_10 dg_11 dg_12 dg_1l
    replace mg_1 : MBox w13 (w4.heap.size + 1) tr tc (.slice Avg_1 tl.length cvg_1) := MBox.mark mg_1 g_1 q13 (by omega)
    have dg_10 := mg_1.c0; have dg_11 := mg_1.c1; have dg_12 := mg_1.c2; have dg_1l := mg_1.lt
    have sw13 := World.grownBy.size q13
    replace HG : Grows w w13 := below_mark HG g_1 q13 (by omega) (Below.size HG)
    have hhg_1 : OwnB w13 (w3.heap.size + 1) (w4.heap.size) (.slice Avg_1 tl.length cvg_1) (run (1 + (rl.length : Int)) tl.length) := ⟨og_1, g_1.2⟩
    clear og_1 g_1
    have g_1 := hhg_1
    clear hhg_1
    go_wp2_with fail
    refine (heldMatrix_c _ _ _ _ _ _ _ (by exact Rd.grows g_0.rd (by exact bel0)) (by omega) (by omega) (by omega)).mono ?_; rintro e w14 ⟨rfl, q14⟩
    replace ra0 : RdB w14 (y0.heap.size) A0 a := RdB.grows ra0 (by exact bel1 q14)
    clear b00 b01 b02 b0l
    replace mb0 : MBox w14 (w.heap.size) r0 k0 (.slice A0 a.length c0) := MBox.grows mb0 (by exact bel1 q14)
    have b00 := mb0.c0; have b01 := mb0.c1; have b02 := mb0.c2; have b0l := mb0.lt
    replace w_0 : OwnB w14 (w1.heap.size) (w2.heap.size) (.slice Avw_0 rl.length cvw_0) rl := OwnB.grows w_0 (by exact bel1 q14)
    replace w_1 : OwnB w14 (w1.heap.size) (w2.heap.size) (.slice Avw_1 tl.length cvw_1) tl := OwnB.grows w_1 (by exact bel1 q14)
    clear dw_00 dw_01 dw_02 dw_0l
    replace mw_0 : MBox w14 (w2.heap.size) rr rc (.slice Avw_0 rl.length cvw_0) := MBox.grows mw_0 (by exact bel1 q14)
    have dw_00 := mw_0.c0; have dw_01 := mw_0.c1; have dw_02 := mw_0.c2; have dw_0l := mw_0.lt
    clear dw_10 dw_11 dw_12 dw_1l
    replace mw_1 : MBox w14 (w2.heap.size + 1) tr tc (.slice Avw_1 tl.length cvw_1) := MBox.grows mw_1 (by exact bel1 q14)
    have dw_10 := mw_1.c0; have dw_11 := mw_1.c1; have dw_12 := mw_1.c2; have dw_1l := mw_1.lt
    replace x0 : OwnB w14 (w2.heap.size + 1 + 1) (w3.heap.size) (.slice (some ⟨jx0, 0, none⟩) a.length a.length) (run (1) a.length) := OwnB.grows x0 (by exact bel1 q14)
    clear dx00 dx01 dx02 dx0l
    replace mx0 : MBox w14 (w3.heap.size) r0 k0 (.slice (some ⟨jx0, 0, none⟩) a.length a.length) := MBox.grows mx0 (by exact bel1 q14)
    have dx00 := mx0.c0; have dx01 := mx0.c1; have dx02 := mx0.c2; have dx0l := mx0.lt
    replace g_0 : OwnB w14 (w3.heap.size + 1) (w4.heap.size) (.slice Avg_0 rl.length cvg_0) (run (1) rl.length) := OwnB.grows g_0 (by exact bel1 q14)
    replace g_1 : OwnB w14 (w3.heap.size + 1) (w4.heap.size) (.slice Avg_1 tl.length cvg_1) (run (1 + (rl.length : Int)) tl.length) := OwnB.grows g_1 (by exact bel1 q14)
    clear dg_00 dg_01 dg_02 dg_0l
    replace mg_0 : MBox w14 (w4.heap.size) rr rc (.slice Avg_0 rl.length cvg_0) := MBox.grows mg_0 (by exact bel1 q14)
    have dg_00 := mg_0.c0; have dg_01 := mg_0.c1; have dg_02 := mg_0.c2; have dg_0l := mg_0.lt
    clear dg_10 dg_11 dg_12 dg_1l
    replace mg_1 : MBox w14 (w4.heap.size + 1) tr tc (.slice Avg_1 tl.length cvg_1) := MBox.grows mg_1 (by exact bel1 q14)
    have dg_10 := mg_1.c0; have dg_11 := mg_1.c1; have dg_12 := mg_1.c2; have dg_1l := mg_1.lt
    have sw14q14 := Below.size q14; (try simp at sw14q14)
    replace HG : Grows w w14 := by exact bel2 q14 HG
    go_wp2_with fail
    refine (heldMatrix_c _ _ _ _ _ _ _ (by exact Rd.grows g_1.rd (by exact bel0)) (by omega) (by omega) (by omega)).mono ?_; rintro e w15 ⟨rfl, q15⟩
    replace ra0 : RdB w15 (y0.heap.size) A0 a := RdB.grows ra0 (by exact bel1 q15)
    clear b00 b01 b02 b0l
    replace mb0 : MBox w15 (w.heap.size) r0 k0 (.slice A0 a.length c0) := MBox.grows mb0 (by exact bel1 q15)
    have b00 := mb0.c0; have b01 := mb0.c1; have b02 := mb0.c2; have b0l := mb0.lt
    replace w_0 : OwnB w15 (w1.heap.size) (w2.heap.size) (.slice Avw_0 rl.length cvw_0) rl := OwnB.grows w_0 (by exact bel1 q15)
    replace w_1 : OwnB w15 (w1.heap.size) (w2.heap.size) (.slice Avw_1 tl.length cvw_1) tl := OwnB.grows w_1 (by exact bel1 q15)
    clear dw_00 dw_01 dw_02 dw_0l
    replace mw_0 : MBox w15 (w2.heap.size) rr rc (.slice Avw_0 rl.length cvw_0) := MBox.grows mw_0 (by exact bel1 q15)
    have dw_00 := mw_0.c0; have dw_01 := mw_0.c1; have dw_02 := mw_0.c2; have dw_0l := mw_0.lt
    clear dw_10 dw_11 dw_12 dw_1l
    replace mw_1 : MBox w15 (w2.heap.size + 1) tr tc (.slice Avw_1 tl.length cvw_1) := MBox.grows mw_1 (by exact bel1 q15)
    have dw_10 := mw_1.c0; have dw_11 := mw_1.c1; have dw_12 := mw_1.c2; have dw_1l := mw_1.lt
    replace x0 : OwnB w15 (w2.heap.size + 1 + 1) (w3.heap.size) (.slice (some ⟨jx0, 0, none⟩) a.length a.length) (run (1) a.length) := OwnB.grows x0 (by exact bel1 q15)
    clear dx00 dx01 dx02 dx0l
    replace mx0 : MBox w15 (w3.heap.size) r0 k0 (.slice (some ⟨jx0, 0, none⟩) a.length a.length) := MBox.grows mx0 (by exact bel1 q15)
    have dx00 := mx0.c0; have dx01 := mx0.c1; have dx02 := mx0.c2; have dx0l := mx0.lt
    replace g_0 : OwnB w15 (w3.heap.size + 1) (w4.heap.size) (.slice Avg_0 rl.length cvg_0) (run (1) rl.length) := OwnB.grows g_0 (by exact bel1 q15)
    replace g_1 : OwnB w15 (w3.heap.size + 1) (w4.heap.size) (.slice Avg_1 tl.length cvg_1) (run (1 + (rl.length : Int)) tl.length) := OwnB.grows g_1 (by exact bel1 q15)
    clear dg_00 dg_01 dg_02 dg_0l
    replace mg_0 : MBox w15 (w4.heap.size) rr rc (.slice Avg_0 rl.length cvg_0) := MBox.grows mg_0 (by exact bel1 q15)
    have dg_00 := mg_0.c0; have dg_01 := mg_0.c1; have dg_02 := mg_0.c2; have dg_0l := mg_0.lt
    clear dg_10 dg_11 dg_12 dg_1l
    replace mg_1 : MBox w15 (w4.heap.size + 1) tr tc (.slice Avg_1 tl.length cvg_1) := MBox.grows mg_1 (by exact bel1 q15)
    have dg_10 := mg_1.c0; have dg_11 := mg_1.c1; have dg_12 := mg_1.c2; have dg_1l := mg_1.lt
    have sw15q15 := Below.size q15; (try simp at sw15q15)
    replace HG : Grows w w15 := by exact bel2 q15 HG
    go_wp2_with fail
    refine (toMatrix_c r0 k0 A0 a c0 _ (by exact Rd.grows ra0.rd (by exact bel0)) hl0).mono ?_; rintro e w16 ⟨ju0, rfl, ou0, q16⟩
    (try simp at ou0)
    have u0 : OwnB w16 (w15.heap.size) (w16.heap.size) (.slice (some ⟨ju0, 0, none⟩) a.length a.length) a := OwnB.of (Own.less ou0 (by first | omega | simp))
    clear ou0
    replace ra0 : RdB w16 (y0.heap.size) A0 a := RdB.grows ra0 (by exact bel1 q16)
    clear b00 b01 b02 b0l
    replace mb0 : MBox w16 (w.heap.size) r0 k0 (.slice A0 a.length c0) := MBox.grows mb0 (by exact bel1 q16)
    have b00 := mb0.c0; have b01 := mb0.c1; have b02 := mb0.c2; have b0l := mb0.lt
    replace w_0 : OwnB w16 (w1.heap.size) (w2.heap.size) (.slice Avw_0 rl.length cvw_0) rl := OwnB.grows w_0 (by exact bel1 q16)
    replace w_1 : OwnB w16 (w1.heap.size) (w2.heap.size) (.slice Avw_1 tl.length cvw_1) tl := OwnB.grows w_1 (by exact bel1 q16)
    clear dw_00 dw_01 dw_02 dw_0l
    replace mw_0 : MBox w16 (w2.heap.size) rr rc (.slice Avw_0 rl.length cvw_0) := MBox.grows mw_0 (by exact bel1 q16)
    have dw_00 := mw_0.c0; have dw_01 := mw_0.c1; have dw_02 := mw_0.c2; have dw_0l := mw_0.lt
    clear dw_10 dw_11 dw_12 dw_1l
    replace mw_1 : MBox w16 (w2.heap.size + 1) tr tc (.slice Avw_1 tl.length cvw_1) := MBox.grows mw_1 (by exact bel1 q16)
    have dw_10 := mw_1.c0; have dw_11 := mw_1.c1; have dw_12 := mw_1.c2; have dw_1l := mw_1.lt
    replace x0 : OwnB w16 (w2.heap.size + 1 + 1) (w3.heap.size) (.slice (some ⟨jx0, 0, none⟩) a.length a.length) (run (1) a.length) := OwnB.grows x0 (by exact bel1 q16)
    clear dx00 dx01 dx02 dx0l
    replace mx0 : MBox w16 (w3.heap.size) r0 k0 (.slice (some ⟨jx0, 0, none⟩) a.length a.length) := MBox.grows mx0 (by exact bel1 q16)
    have dx00 := mx0.c0; have dx01 := mx0.c1; have dx02 := mx0.c2; have dx0l := mx0.lt
    replace g_0 : OwnB w16 (w3.heap.size + 1) (w4.heap.size) (.slice Avg_0 rl.length cvg_0) (run (1) rl.length) := OwnB.grows g_0 (by exact bel1 q16)
    replace g_1 : OwnB w16 (w3.heap.size + 1) (w4.heap.size) (.slice Avg_1 tl.length cvg_1) (run (1 + (rl.length : Int)) tl.length) := OwnB.grows g_1 (by exact bel1 q16)
    clear dg_00 dg_01 dg_02 dg_0l
    replace mg_0 : MBox w16 (w4.heap.size) rr rc (.slice Avg_0 rl.length cvg_0) := MBox.grows mg_0 (by exact bel1 q16)
    have dg_00 := mg_0.c0; have dg_01 := mg_0.c1; have dg_02 := mg_0.c2; have dg_0l := mg_0.lt
    clear dg_10 dg_11 dg_12 dg_1l
    replace mg_1 : MBox w16 (w4.heap.size + 1) tr tc (.slice Avg_1 tl.length cvg_1) := MBox.grows mg_1 (by exact bel1 q16)
    have dg_10 := mg_1.c0; have dg_11 := mg_1.c1; have dg_12 := mg_1.c2; have dg_1l := mg_1.lt
    have sw16q16 := Below.size q16; (try simp at sw16q16)
    replace HG : Grows w w16 := by exact bel2 q16 HG
    go_wp2_with fail
    refine (HI'.out _ _ _ (by exact Rd.grows u0.rd (by exact bel0)) ).mono ?_; rintro e w17 ⟨vh_0, vh_1, rfl, ovh_0, ovh_1, neh_, q17⟩
    (try simp at ovh_0)
    obtain ⟨Avh_0, cvh_0, rfl, _, _⟩ := ovh_0.val
    have h_0 : OwnB w17 (w16.heap.size) (w17.heap.size) (.slice Avh_0 rl.length cvh_0) rl := OwnB.of (Own.less ovh_0 (by first | omega | simp))
    clear ovh_0
    (try simp at ovh_1)
    obtain ⟨Avh_1, cvh_1, rfl, _, _⟩ := ovh_1.val
    have h_1 : OwnB w17 (w16.heap.size) (w17.heap.size) (.slice Avh_1 tl.length cvh_1) tl := OwnB.of (Own.less ovh_1 (by first | omega | simp))
    clear ovh_1
    clear neh_
    replace ra0 : RdB w17 (y0.heap.size) A0 a := RdB.grows ra0 (by exact bel1 q17)
    clear b00 b01 b02 b0l
    replace mb0 : MBox w17 (w.heap.size) r0 k0 (.slice A0 a.length c0) := MBox.grows mb0 (by exact bel1 q17)
    have b00 := mb0.c0; have b01 := mb0.c1; have b02 := mb0.c2; have b0l := mb0.lt
    replace w_0 : OwnB w17 (w1.heap.size) (w2.heap.size) (.slice Avw_0 rl.length cvw_0) rl := OwnB.grows w_0 (by exact bel1 q17)
    replace w_1 : OwnB w17 (w1.heap.size) (w2.heap.size) (.slice Avw_1 tl.length cvw_1) tl := OwnB.grows w_1 (by exact bel1 q17)
    clear dw_00 dw_01 dw_02 dw_0l
    replace mw_0 : MBox w17 (w2.heap.size) rr rc (.slice Avw_0 rl.length cvw_0) := MBox.grows mw_0 (by exact bel1 q17)
    have dw_00 := mw_0.c0; have dw_01 := mw_0.c1; have dw_02 := mw_0.c2; have dw_0l := mw_0.lt
    clear dw_10 dw_11 dw_12 dw_1l
    replace mw_1 : MBox w17 (w2.heap.size + 1) tr tc (.slice Avw_1 tl.length cvw_1) := MBox.grows mw_1 (by exact bel1 q17)
    have dw_10 := mw_1.c0; have dw_11 := mw_1.c1; have dw_12 := mw_1.c2; have dw_1l := mw_1.lt
    replace x0 : OwnB w17 (w2.heap.size + 1 + 1) (w3.heap.size) (.slice (some ⟨jx0, 0, none⟩) a.length a.length) (run (1) a.length) := OwnB.grows x0 (by exact bel1 q17)
    clear dx00 dx01 dx02 dx0l
    replace mx0 : MBox w17 (w3.heap.size) r0 k0 (.slice (some ⟨jx0, 0, none⟩) a.length a.length) := MBox.grows mx0 (by exact bel1 q17)
    have dx00 := mx0.c0; have dx01 := mx0.c1; have dx02 := mx0.c2; have dx0l := mx0.lt
    replace g_0 : OwnB w17 (w3.heap.size + 1) (w4.heap.size) (.slice Avg_0 rl.length cvg_0) (run (1) rl.length) := OwnB.grows g_0 (by exact bel1 q17)
    replace g_1 : OwnB w17 (w3.heap.size + 1) (w4.heap.size) (.slice Avg_1 tl.length cvg_1) (run (1 + (rl.length : Int)) tl.length) := OwnB.grows g_1 (by exact bel1 q17)
    clear dg_00 dg_01 dg_02 dg_0l
    replace mg_0 : MBox w17 (w4.heap.size) rr rc (.slice Avg_0 rl.length cvg_0) := MBox.grows mg_0 (by exact bel1 q17)
    have dg_00 := mg_0.c0; have dg_01 := mg_0.c1; have dg_02 := mg_0.c2; have dg_0l := mg_0.lt
    clear dg_10 dg_11 dg_12 dg_1l
    replace mg_1 : MBox w17 (w4.heap.size + 1) tr tc (.slice Avg_1 tl.length cvg_1) := MBox.grows mg_1 (by exact bel1 q17)
    have dg_10 := mg_1.c0; have dg_11 := mg_1.c1; have dg_12 := mg_1.c2; have dg_1l := mg_1.lt
    replace u0 : OwnB w17 (w15.heap.size) (w16.heap.size) (.slice (some ⟨ju0, 0, none⟩) a.length a.length) a := OwnB.grows u0 (by exact bel1 q17)
    have sw17q17 := Below.size q17; (try simp at sw17q17)
    replace HG : Grows w w17 := by exact bel2 q17 HG
    go_wp2_with fail
    refine (eqMatrix_yes _ _ _ _ _ _ _ _ (by exact Rd.grows h_0.rd (by exact bel0)) (by exact Rd.grows w_0.rd (by exact bel0)) (by omega)).mono ?_; rintro e w18 ⟨rfl, q18⟩
    replace ra0 : RdB w18 (y0.heap.size) A0 a := RdB.grows ra0 (by exact bel1 q18)
    clear b00 b01 b02 b0l
    replace mb0 : MBox w18 (w.heap.size) r0 k0 (.slice A0 a.length c0) := MBox.grows mb0 (by exact bel1 q18)
    have b00 := mb0.c0; have b01 := mb0.c1; have b02 := mb0.c2; have b0l := mb0.lt
    replace w_0 : OwnB w18 (w1.heap.size) (w2.heap.size) (.slice Avw_0 rl.length cvw_0) rl := OwnB.grows w_0 (by exact bel1 q18)
    replace w_1 : OwnB w18 (w1.heap.size) (w2.heap.size) (.slice Avw_1 tl.length cvw_1) tl := OwnB.grows w_1 (by exact bel1 q18)
    clear dw_00 dw_01 dw_02 dw_0l
    replace mw_0 : MBox w18 (w2.heap.size) rr rc (.slice Avw_0 rl.length cvw_0) := MBox.grows mw_0 (by exact bel1 q18)
    have dw_00 := mw_0.c0; have dw_01 := mw_0.c1; have dw_02 := mw_0.c2; have dw_0l := mw_0.lt
    clear dw_10 dw_11 dw_12 dw_1l
    replace mw_1 : MBox w18 (w2.heap.size + 1) tr tc (.slice Avw_1 tl.length cvw_1) := MBox.grows mw_1 (by exact bel1 q18)
    have dw_10 := mw_1.c0; have dw_11 := mw_1.c1; have dw_12 := mw_1.c2; have dw_1l := mw_1.lt
    replace x0 : OwnB w18 (w2.heap.size + 1 + 1) (w3.heap.size) (.slice (some ⟨jx0, 0, none⟩) a.length a.length) (run (1) a.length) := OwnB.grows x0 (by exact bel1 q18)
    clear dx00 dx01 dx02 dx0l
    replace mx0 : MBox w18 (w3.heap.size) r0 k0 (.slice (some ⟨jx0, 0, none⟩) a.length a.length) := MBox.grows mx0 (by exact bel1 q18)
    have dx00 := mx0.c0; have dx01 := mx0.c1; have dx02 := mx0.c2; have dx0l := mx0.lt
    replace g_0 : OwnB w18 (w3.heap.size + 1) (w4.heap.size) (.slice Avg_0 rl.length cvg_0) (run (1) rl.length) := OwnB.grows g_0 (by exact bel1 q18)
    replace g_1 : OwnB w18 (w3.heap.size + 1) (w4.heap.size) (.slice Avg_1 tl.length cvg_1) (run (1 + (rl.length : Int)) tl.length) := OwnB.grows g_1 (by exact bel1 q18)
    clear dg_00 dg_01 dg_02 dg_0l
    replace mg_0 : MBox w18 (w4.heap.size) rr rc (.slice Avg_0 rl.length cvg_0) := MBox.grows mg_0 (by exact bel1 q18)
    have dg_00 := mg_0.c0; have dg_01 := mg_0.c1; have dg_02 := mg_0.c2; have dg_0l := mg_0.lt
    clear dg_10 dg_11 dg_12 dg_1l
    replace mg_1 : MBox w18 (w4.heap.size + 1) tr tc (.slice Avg_1 tl.length cvg_1) := MBox.grows mg_1 (by exact bel1 q18)
    have dg_10 := mg_1.c0; have dg_11 := mg_1.c1; have dg_12 := mg_1.c2; have dg_1l := mg_1.lt
    replace u0 : OwnB w18 (w15.heap.size) (w16.heap.size) (.slice (some ⟨ju0, 0, none⟩) a.length a.length) a := OwnB.grows u0 (by exact bel1 q18)
    replace h_0 : OwnB w18 (w16.heap.size) (w17.heap.size) (.slice Avh_0 rl.length cvh_0) rl := OwnB.grows h_0 (by exact bel1 q18)
    replace h_1 : OwnB w18 (w16.heap.size) (w17.heap.size) (.slice Avh_1 tl.length cvh_1) tl := OwnB.grows h_1 (by exact bel1 q18)
    have mh_0 : MBox w18 (w17.heap.size) rr rc (.slice Avh_0 rl.length cvh_0) := MBox.grows (MBox.new_ w17 rr rc (.slice Avh_0 rl.length cvh_0) 28 (by simp)) (by exact bel1 q18)
    have dh_00 := mh_0.c0; have dh_01 := mh_0.c1; have dh_02 := mh_0.c2; have dh_0l := mh_0.lt
    have mh_1 : MBox w18 (w17.heap.size + 1) tr tc (.slice Avh_1 tl.length cvh_1) := MBox.grows (MBox.new_ (w17.alloc (.cells #[.int .i64 rr, .int .i64 rc, .slice Avh_0 rl.length cvh_0] 28)) tr tc (.slice Avh_1 tl.length cvh_1) 28 (by simp)) (by exact bel1 q18)
    have dh_10 := mh_1.c0; have dh_11 := mh_1.c1; have dh_12 := mh_1.c2; have dh_1l := mh_1.lt
    have sw18q18 := Below.size q18; (try simp at sw18q18)
    replace HG : Grows w w18 := by exact bel2 q18 HG
    go_wp2_with fail
    refine (eqMatrix_yes _ _ _ _ _ _ _ _ (by exact Rd.grows h_1.rd (by exact bel0)) (by exact Rd.grows w_1.rd (by exact bel0)) (by omega)).mono ?_; rintro e w19 ⟨rfl, q19⟩
    replace ra0 : RdB w19 (y0.heap.size) A0 a := RdB.grows ra0 (by exact bel1 q19)
    clear b00 b01 b02 b0l
    replace mb0 : MBox w19 (w.heap.size) r0 k0 (.slice A0 a.length c0) := MBox.grows mb0 (by exact bel1 q19)
    have b00 := mb0.c0; have b01 := mb0.c1; have b02 := mb0.c2; have b0l := mb0.lt
    replace w_0 : OwnB w19 (w1.heap.size) (w2.heap.size) (.slice Avw_0 rl.length cvw_0) rl := OwnB.grows w_0 (by exact bel1 q19)
    replace w_1 : OwnB w19 (w1.heap.size) (w2.heap.size) (.slice Avw_1 tl.length cvw_1) tl := OwnB.grows w_1 (by exact bel1 q19)
    clear dw_00 dw_01 dw_02 dw_0l
    replace mw_0 : MBox w19 (w2.heap.size) rr rc (.slice Avw_0 rl.length cvw_0) := MBox.grows mw_0 (by exact bel1 q19)
    have dw_00 := mw_0.c0; have dw_01 := mw_0.c1; have dw_02 := mw_0.c2; have dw_0l := mw_0.lt
    clear dw_10 dw_11 dw_12 dw_1l
    replace mw_1 : MBox w19 (w2.heap.size + 1) tr tc (.slice Avw_1 tl.length cvw_1) := MBox.grows mw_1 (by exact bel1 q19)
    have dw_10 := mw_1.c0; have dw_11 := mw_1.c1; have dw_12 := mw_1.c2; have dw_1l := mw_1.lt
    replace x0 : OwnB w19 (w2.heap.size + 1 + 1) (w3.heap.size) (.slice (some ⟨jx0, 0, none⟩) a.length a.length) (run (1) a.length) := OwnB.grows x0 (by exact bel1 q19)
    clear dx00 dx01 dx02 dx0l
    replace mx0 : MBox w19 (w3.heap.size) r0 k0 (.slice (some ⟨jx0, 0, none⟩) a.length a.length) := MBox.grows mx0 (by exact bel1 q19)
    have dx00 := mx0.c0; have dx01 := mx0.c1; have dx02 := mx0.c2; have dx0l := mx0.lt
    replace g_0 : OwnB w19 (w3.heap.size + 1) (w4.heap.size) (.slice Avg_0 rl.length cvg_0) (run (1) rl.length) := OwnB.grows g_0 (by exact bel1 q19)
    replace g_1 : OwnB w19 (w3.heap.size + 1) (w4.heap.size) (.slice Avg_1 tl.length cvg_1) (run (1 + (rl.length : Int)) tl.length) := OwnB.grows g_1 (by exact bel1 q19)
    clear dg_00 dg_01 dg_02 dg_0l
    replace mg_0 : MBox w19 (w4.heap.size) rr rc (.slice Avg_0 rl.length cvg_0) := MBox.grows mg_0 (by exact bel1 q19)
    have dg_00 := mg_0.c0; have dg_01 := mg_0.c1; have dg_02 := mg_0.c2; have dg_0l := mg_0.lt
    clear dg_10 dg_11 dg_12 dg_1l
    replace mg_1 : MBox w19 (w4.heap.size + 1) tr tc (.slice Avg_1 tl.length cvg_1) := MBox.grows mg_1 (by exact bel1 q19)
    have dg_10 := mg_1.c0; have dg_11 := mg_1.c1; have dg_12 := mg_1.c2; have dg_1l := mg_1.lt
    replace u0 : OwnB w19 (w15.heap.size) (w16.heap.size) (.slice (some ⟨ju0, 0, none⟩) a.length a.length) a := OwnB.grows u0 (by exact bel1 q19)
    replace h_0 : OwnB w19 (w16.heap.size) (w17.heap.size) (.slice Avh_0 rl.length cvh_0) rl := OwnB.grows h_0 (by exact bel1 q19)
    replace h_1 : OwnB w19 (w16.heap.size) (w17.heap.size) (.slice Avh_1 tl.length cvh_1) tl := OwnB.grows h_1 (by exact bel1 q19)
    clear dh_00 dh_01 dh_02 dh_0l
    replace mh_0 : MBox w19 (w17.heap.size) rr rc (.slice Avh_0 rl.length cvh_0) := MBox.grows mh_0 (by exact bel1 q19)
    have dh_00 := mh_0.c0; have dh_01 := mh_0.c1; have dh_02 := mh_0.c2; have dh_0l := mh_0.lt
    clear dh_10 dh_11 dh_12 dh_1l
    replace mh_1 : MBox w19 (w17.heap.size + 1) tr tc (.slice Avh_1 tl.length cvh_1) := MBox.grows mh_1 (by exact bel1 q19)
    have dh_10 := mh_1.c0; have dh_11 := mh_1.c1; have dh_12 := mh_1.c2; have dh_1l := mh_1.lt
    have sw19q19 := Below.size q19; (try simp at sw19q19)
    replace HG : Grows w w19 := by exact bel2 q19 HG
    go_wp2_with fail
    refine (heldMatrix_c _ _ _ _ _ _ _ (by exact Rd.grows g_0.rd (by exact bel0)) (by omega) (by omega) (by omega)).mono ?_; rintro e w20 ⟨rfl, q20⟩
    replace ra0 : RdB w20 (y0.heap.size) A0 a := RdB.grows ra0 (by exact bel1 q20)
    clear b00 b01 b02 b0l
    replace mb0 : MBox w20 (w.heap.size) r0 k0 (.slice A0 a.length c0) := MBox.grows mb0 (by exact bel1 q20)
    have b00 := mb0.c0; have b01 := mb0.c1; have b02 := mb0.c2; have b0l := mb0.lt
    replace w_0 : OwnB w20 (w1.heap.size) (w2.heap.size) (.slice Avw_0 rl.length cvw_0) rl := OwnB.grows w_0 (by exact bel1 q20)
    replace w_1 : OwnB w20 (w1.heap.size) (w2.heap.size) (.slice Avw_1 tl.length cvw_1) tl := OwnB.grows w_1 (by exact bel1 q20)
    clear dw_00 dw_01 dw_02 dw_0l
    replace mw_0 : MBox w20 (w2.heap.size) rr rc (.slice Avw_0 rl.length cvw_0) := MBox.grows mw_0 (by exact bel1 q20)
    have dw_00 := mw_0.c0; have dw_01 := mw_0.c1; have dw_02 := mw_0.c2; have dw_0l := mw_0.lt
    clear dw_10 dw_11 dw_12 dw_1l
    replace mw_1 : MBox w20 (w2.heap.size + 1) tr tc (.slice Avw_1 tl.length cvw_1) := MBox.grows mw_1 (by exact bel1 q20)
    have dw_10 := mw_1.c0; have dw_11 := mw_1.c1; have dw_12 := mw_1.c2; have dw_1l := mw_1.lt
    replace x0 : OwnB w20 (w2.heap.size + 1 + 1) (w3.heap.size) (.slice (some ⟨jx0, 0, none⟩) a.length a.length) (run (1) a.length) := OwnB.grows x0 (by exact bel1 q20)
    clear dx00 dx01 dx02 dx0l
    replace mx0 : MBox w20 (w3.heap.size) r0 k0 (.slice (some ⟨jx0, 0, none⟩) a.length a.length) := MBox.grows mx0 (by exact bel1 q20)
    have dx00 := mx0.c0; have dx01 := mx0.c1; have dx02 := mx0.c2; have dx0l := mx0.lt
    replace g_0 : OwnB w20 (w3.heap.size + 1) (w4.heap.size) (.slice Avg_0 rl.length cvg_0) (run (1) rl.length) := OwnB.grows g_0 (by exact bel1 q20)
    replace g_1 : OwnB w20 (w3.heap.size + 1) (w4.heap.size) (.slice Avg_1 tl.length cvg_1) (run (1 + (rl.length : Int)) tl.length) := OwnB.grows g_1 (by exact bel1 q20)
    clear dg_00 dg_01 dg_02 dg_0l
    replace mg_0 : MBox w20 (w4.heap.size) rr rc (.slice Avg_0 rl.length cvg_0) := MBox.grows mg_0 (by exact bel1 q20)
    have dg_00 := mg_0.c0; have dg_01 := mg_0.c1; have dg_02 := mg_0.c2; have dg_0l := mg_0.lt
    clear dg_10 dg_11 dg_12 dg_1l
    replace mg_1 : MBox w20 (w4.heap.size + 1) tr tc (.slice Avg_1 tl.length cvg_1) := MBox.grows mg_1 (by exact bel1 q20)
    have dg_10 := mg_1.c0; have dg_11 := mg_1.c1; have dg_12 := mg_1.c2; have dg_1l := mg_1.lt
    replace u0 : OwnB w20 (w15.heap.size) (w16.heap.size) (.slice (some ⟨ju0, 0, none⟩) a.length a.length) a := OwnB.grows u0 (by exact bel1 q20)
    replace h_0 : OwnB w20 (w16.heap.size) (w17.heap.size) (.slice Avh_0 rl.length cvh_0) rl := OwnB.grows h_0 (by exact bel1 q20)
    replace h_1 : OwnB w20 (w16.heap.size) (w17.heap.size) (.slice Avh_1 tl.length cvh_1) tl := OwnB.grows h_1 (by exact bel1 q20)
    clear dh_00 dh_01 dh_02 dh_0l
    replace mh_0 : MBox w20 (w17.heap.size) rr rc (.slice Avh_0 rl.length cvh_0) := MBox.grows mh_0 (by exact bel1 q20)
    have dh_00 := mh_0.c0; have dh_01 := mh_0.c1; have dh_02 := mh_0.c2; have dh_0l := mh_0.lt
    clear dh_10 dh_11 dh_12 dh_1l
    replace mh_1 : MBox w20 (w17.heap.size + 1) tr tc (.slice Avh_1 tl.length cvh_1) := MBox.grows mh_1 (by exact bel1 q20)
    have dh_10 := mh_1.c0; have dh_11 := mh_1.c1; have dh_12 := mh_1.c2; have dh_1l := mh_1.lt
    have sw20q20 := Below.size q20; (try simp at sw20q20)
    replace HG : Grows w w20 := by exact bel2 q20 HG
    go_wp2_with fail
    refine (heldMatrix_c _ _ _ _ _ _ _ (by exact Rd.grows g_1.rd (by exact bel0)) (by omega) (by omega) (by omega)).mono ?_; rintro e w21 ⟨rfl, q21⟩
    replace ra0 : RdB w21 (y0.heap.size) A0 a := RdB.grows ra0 (by exact bel1 q21)
    clear b00 b01 b02 b0l
    replace mb0 : MBox w21 (w.heap.size) r0 k0 (.slice A0 a.length c0) := MBox.grows mb0 (by exact bel1 q21)
    have b00 := mb0.c0; have b01 := mb0.c1; have b02 := mb0.c2; have b0l := mb0.lt
    replace w_0 : OwnB w21 (w1.heap.size) (w2.heap.size) (.slice Avw_0 rl.length cvw_0) rl := OwnB.grows w_0 (by exact bel1 q21)
    replace w_1 : OwnB w21 (w1.heap.size) (w2.heap.size) (.slice Avw_1 tl.length cvw_1) tl := OwnB.grows w_1 (by exact bel1 q21)
    clear dw_00 dw_01 dw_02 dw_0l
    replace mw_0 : MBox w21 (w2.heap.size) rr rc (.slice Avw_0 rl.length cvw_0) := MBox.grows mw_0 (by exact bel1 q21)
    have dw_00 := mw_0.c0; have dw_01 := mw_0.c1; have dw_02 := mw_0.c2; have dw_0l := mw_0.lt
    clear dw_10 dw_11 dw_12 dw_1l
    replace mw_1 : MBox w21 (w2.heap.size + 1) tr tc (.slice Avw_1 tl.length cvw_1) := MBox.grows mw_1 (by exact bel1 q21)
    have dw_10 := mw_1.c0; have dw_11 := mw_1.c1; have dw_12 := mw_1.c2; have dw_1l := mw_1.lt
    replace x0 : OwnB w21 (w2.heap.size + 1 + 1) (w3.heap.size) (.slice (some ⟨jx0, 0, none⟩) a.length a.length) (run (1) a.length) := OwnB.grows x0 (by exact bel1 q21)
    clear dx00 dx01 dx02 dx0l
    replace mx0 : MBox w21 (w3.heap.size) r0 k0 (.slice (some ⟨jx0, 0, none⟩) a.length a.length) := MBox.grows mx0 (by exact bel1 q21)
    have dx00 := mx0.c0; have dx01 := mx0.c1; have dx02 := mx0.c2; have dx0l := mx0.lt
    replace g_0 : OwnB w21 (w3.heap.size + 1) (w4.heap.size) (.slice Avg_0 rl.length cvg_0) (run (1) rl.length) := OwnB.grows g_0 (by exact bel1 q21)
    replace g_1 : OwnB w21 (w3.heap.size + 1) (w4.heap.size) (.slice Avg_1 tl.length cvg_1) (run (1 + (rl.length : Int)) tl.length) := OwnB.grows g_1 (by exact bel1 q21)
    clear dg_00 dg_01 dg_02 dg_0l
    replace mg_0 : MBox w21 (w4.heap.size) rr rc (.slice Avg_0 rl.length cvg_0) := MBox.grows mg_0 (by exact bel1 q21)
    have dg_00 := mg_0.c0; have dg_01 := mg_0.c1; have dg_02 := mg_0.c2; have dg_0l := mg_0.lt
    clear dg_10 dg_11 dg_12 dg_1l
    replace mg_1 : MBox w21 (w4.heap.size + 1) tr tc (.slice Avg_1 tl.length cvg_1) := MBox.grows mg_1 (by exact bel1 q21)
    have dg_10 := mg_1.c0; have dg_11 := mg_1.c1; have dg_12 := mg_1.c2; have dg_1l := mg_1.lt
    replace u0 : OwnB w21 (w15.heap.size) (w16.heap.size) (.slice (some ⟨ju0, 0, none⟩) a.length a.length) a := OwnB.grows u0 (by exact bel1 q21)
    replace h_0 : OwnB w21 (w16.heap.size) (w17.heap.size) (.slice Avh_0 rl.length cvh_0) rl := OwnB.grows h_0 (by exact bel1 q21)
    replace h_1 : OwnB w21 (w16.heap.size) (w17.heap.size) (.slice Avh_1 tl.length cvh_1) tl := OwnB.grows h_1 (by exact bel1 q21)
    clear dh_00 dh_01 dh_02 dh_0l
    replace mh_0 : MBox w21 (w17.heap.size) rr rc (.slice Avh_0 rl.length cvh_0) := MBox.grows mh_0 (by exact bel1 q21)
    have dh_00 := mh_0.c0; have dh_01 := mh_0.c1; have dh_02 := mh_0.c2; have dh_0l := mh_0.lt
    clear dh_10 dh_11 dh_12 dh_1l
    replace mh_1 : MBox w21 (w17.heap.size + 1) tr tc (.slice Avh_1 tl.length cvh_1) := MBox.grows mh_1 (by exact bel1 q21)
    have dh_10 := mh_1.c0; have dh_11 := mh_1.c1; have dh_12 := mh_1.c2; have dh_1l := mh_1.lt
    have sw21q21 := Below.size q21; (try simp at sw21q21)
    replace HG : Grows w w21 := by exact bel2 q21 HG
    go_wp2_with fail
    go_ret
    exact ⟨rfl, HG⟩
end Go.Proofs.Ytpgoefdeodoacaa


namespace Go.Proofs.Ytpgoefdeodoacaa
set_option linter.unusedSimpArgs false
set_option linter.unusedVariables false
open Go.ChangeShapes Go.WideShapes Go.ChangeAt Go.RowKit Go.Joins
set_option linter.unusedVariables false

set_option maxRecDepth 100000 in
theorem fnExactReduceBasis_lifted (os : Os) (started : os.Started) (H : Type) (enc : TypeId × Value → H) :
    ReturnsInHanded {} Try.checked os 9 .any (Rows.fnExactReduceBasisSpec.pre6 enc Try.prog Try.f9 Rows.fnExactReduceBasisRow.domain false) (Rows.fnExactReduceBasisSpec.post enc Try.prog Try.f9 false true false false) := by
  refine returnsInHanded_of_change (C := Try.checked) own started (by kernel_rfl) Try.func9
    (ChangeSpec.witness6 (enc := enc) (C := Try.checked) false ⟨#[], #[.agg #[.int .i64 0, .int .i64 0, .slice none 0 0]], []⟩ 8 (by kernel_rfl) (by kernel_rfl) (by kernel_rfl) (by kernel_rfl)) ?_
  intro W base args ds gs before hval0 hW hcnd _
  have hval : ∀ (j : Nat) t v, Try.f9.params[j]? = some t → args[j]? = some v → Value.okWide Try.prog W .any base t v := hval0
  have hW' := hW
  obtain ⟨p, q, hA0, hV, rfl, hfz, hnd⟩ := hW
  have hA : DataW.TrodAll enc Try.prog W 0 (fun _ => true) true Try.f9.params.toList args.toList ds p := hA0
  rw [Try.params9] at hA hval
  obtain ⟨v0, vs0, d0, ds0, p0, q0, hargs, rfl, rfl, h0, r0⟩ := trodAll_cons hA
  obtain ⟨rfl, rfl, rfl⟩ := trodAll_nil r0
  obtain rfl : args = #[v0] := by cases args; simp_all
  obtain ⟨rfl, rfl⟩ := trodVars_none hV
  have k0 := h0
  have lt0 : ∀ x ∈ p0, x.block < W.heap.size := by obtain ⟨m, hm⟩ := k0; exact DataW.trod_lt m _ _ _ hm
  obtain ⟨u00, u10, u20, y00, y10, y20, m0, rfl, rfl, rfl, t00, t10, t20⟩ := open_agg3 Try.underlying24 (by kernel_rfl) (by kernel_rfl) (hval 0 24 v0 rfl rfl) h0
  obtain ⟨x0, e00, _, wx0⟩ := DataW.trod_int Try.underlying3 t00
  obtain ⟨z0, e10, _, wz0⟩ := DataW.trod_int Try.underlying3 t10
  obtain ⟨A0, l0, c0, e20, ir0⟩ := open_row t20
  simp only [List.cons.injEq, and_true] at e00 e10
  subst e00 e10 e20
  clear hA0 hval0
  refine (lawRb_c x0 z0 A0 l0 c0 W wx0 wz0 ir0).mono fun e W' ⟨he, bel⟩ => ?_
  subst he
  exact ⟨_, rfl, _, _, _, [], _, [], hW', trodAll_mk1 (shut_bool Try.underlying4 _), (trodAll_cons_mk (Below.trod laidOut (by kernel_rfl) (of_decide_eq_true (by kernel_rfl)) k0 bel lt0) trodAll_mk0), rfl, bel.frame _, fun h => by cases h⟩

theorem fnExactReduceBasis_closed : joinedFacts Try.pinned.checked.prog 9 Try.f9 Rows.fnExactReduceBasisSpec Rows.fnExactReduceBasisRow = true := by
  unfold joinedFacts
  rw [fLaid, fRowed, fStops, fEnter, fLift, fMake]
  change _ = true
  kernel_rfl
/-- The statement. -/
theorem fnExactReduceBasis_holds : Rows.FnExactReduceBasisSaid :=
  OpenClaim.holds_of_wide 9 Try.f9 rfl rfl rfl rfl rfl rfl rfl ⟨rfl, rfl, rfl, rfl, rfl⟩ rfl rfl rfl rfl rfl (by kernel_rfl) Try.func9 fnExactReduceBasis_closed
    (of_decide_eq_true (by kernel_rfl)) (by unfold Func.isWrapper; first | (rw [if_pos (by decide +kernel)]; kernel_rfl) | (rw [if_neg (by decide +kernel)]; exact ⟨rfl, rfl⟩))
    (fun os started H enc _ => fnExactReduceBasis_lifted os started H enc)
end Go.Proofs.Ytpgoefdeodoacaa
