/- The row of FnExactShortByTree: proved for every input, no condition beyond those of the row. -/
import Derived.Test.YtfilbjbogggaoaaGreatPkA
import Derived.Test.YtfilbjbogggaoaaGreatPkTA
import Derived.Test.YtfilbjbogggaoaaGreatPkTD
import Derived.Test.YtfilbjbogggaoaaGreatQFacts

namespace Go.Proofs.YtfilbjbogggaoaaGreat
set_option linter.unusedSimpArgs false
set_option linter.unusedVariables false
open Go.RowKit
set_option linter.unusedVariables false
set_option maxHeartbeats 2000000 in
set_option maxRecDepth 10000 in
theorem lawSbt_c (r0 k0 : Int) (A0 : Option Addr) (a : List Int) (c0 : Nat) (b : Int) (w : World) (_wr0 : (Lit.int .i64 r0).wf = true) (_wk0 : (Lit.int .i64 k0).wf = true) (ir0 : InRow w A0 a c0) (_w1 : (Lit.int .i64 b).wf = true) :
    Calls Tryz.prog 6 #[.agg #[.int .i64 r0, .int .i64 k0, .slice A0 a.length c0], .int .i64 b] w fun e w' => e = .returned (.bool true) ∧ Grows w w' := by
  obtain ⟨rd0, hc0, hm0, _⟩ := ir0
  simp only [maxLen] at hm0
  by_cases hs0 : (a.length : Int) ≤ 1048576
  rotate_left
  · go_enter Tryz.func6, Tryz.ntmps6
    go_wp2_with fail
    refine (szMatrix_no _ _ _ _ _ _ _ (by omega) (by omega) (by omega) (by omega)).mono ?_; rintro e y0 ⟨rfl, g0⟩
    have mb0 : MBox y0 (w.heap.size) r0 k0 (.slice A0 a.length c0) := by have := MBox.grows (MBox.mk_ w r0 k0 (.slice A0 a.length c0) 47) (w' := y0) (by exact bel1 g0); simpa using this
    have b00 := mb0.c0; have b01 := mb0.c1; have b02 := mb0.c2; have b0l := mb0.lt
    go_wp2_with fail
    go_ret
    exact ⟨rfl, by exact bel1 g0⟩
  have hl0 : a.length ≤ 1048576 := by omega
  have hrl : (oRows (sbtO ⟨r0, k0, a⟩ b)).length ≤ 24001 := sbt_len _ _
  have hrx : ∀ x ∈ oRows (sbtO ⟨r0, k0, a⟩ b), x.length ≤ 1024 := oRows_row fun s h k hk => sbt_row h hk
  have HS := fun W A c (h0 : Rd W A a) (e0 : a.length ≤ c) (e1 : c ≤ 9223372036854775807) => (sSbt_c r0 k0 b A a a.length c W rfl e0 e1 h0 (by omega)).mono fun _ _ h => rowsGet_out h
  have HI := fun W A c (h0 : Rd W A a) (e0 : a.length ≤ c) (e1 : c ≤ 9223372036854775807) => (iSbt_c r0 k0 b A a a.length c W rfl e0 e1 h0 (by omega)).mono fun _ _ h => rowsRet_out h
  generalize oRows (sbtO ⟨r0, k0, a⟩ b) = rl at *
  generalize (sbtO ⟨r0, k0, a⟩ b).isSome = ok at *
  have hof := offs_le hrx (i := rl.length) (Nat.le_refl _)
  all_goals
    have HS' := Lib.hid HS
    have HI' := Lib.hid HI
    clear HS HI
    go_enter Tryz.func6, Tryz.ntmps6
    go_wp2_with fail
    refine (szMatrix_yes _ _ _ _ _ _ _ (by omega) (by omega) (by omega) (by omega)).mono ?_; rintro e y0 ⟨rfl, g0⟩
    have mb0 : MBox y0 (w.heap.size) r0 k0 (.slice A0 a.length c0) := by have := MBox.grows (MBox.mk_ w r0 k0 (.slice A0 a.length c0) 47) (w' := y0) (by exact bel1 g0); simpa using this
    have b00 := mb0.c0; have b01 := mb0.c1; have b02 := mb0.c2; have b0l := mb0.lt
    go_wp2_with fail
    have ra0 : RdB y0 y0.heap.size A0 a := RdB.of (Rd.grows rd0 (by exact bel1 g0))
    have HG : Grows w y0 := by exact bel1 g0
    have sb0 := mb0.lt
    refine (toMatrix_c r0 k0 A0 a c0 _ (by exact Rd.grows ra0.rd (by exact bel0)) hl0).mono ?_; rintro e w1 ⟨js0, rfl, os0, q1⟩
    (try simp at os0)
    have s0 : OwnB w1 (y0.heap.size) (w1.heap.size) (.slice (some ⟨js0, 0, none⟩) a.length a.length) a := OwnB.of (Own.less os0 (by first | omega | simp))
    clear os0
    replace ra0 : RdB w1 (y0.heap.size) A0 a := RdB.grows ra0 (by exact bel1 q1)
    clear b00 b01 b02 b0l
    replace mb0 : MBox w1 (w.heap.size) r0 k0 (.slice A0 a.length c0) := MBox.grows mb0 (by exact bel1 q1)
    have b00 := mb0.c0; have b01 := mb0.c1; have b02 := mb0.c2; have b0l := mb0.lt
    have sw1q1 := Below.size q1; (try simp at sw1q1)
    replace HG : Grows w w1 := by exact bel2 q1 HG
    go_wp2_with fail
    refine (HS'.out _ _ _ (by exact Rd.grows s0.rd (by exact bel0)) (by omega) (by omega)).mono ?_; rintro e w2 ⟨Avw_0, cvw_0, rfl, ovw_0, q2⟩
    have w_0 : RdRB w2 (w2.heap.size) Avw_0 rl := RdRB.of ovw_0
    clear ovw_0
    replace ra0 : RdB w2 (y0.heap.size) A0 a := RdB.grows ra0 (by exact bel1 q2)
    clear b00 b01 b02 b0l
    replace mb0 : MBox w2 (w.heap.size) r0 k0 (.slice A0 a.length c0) := MBox.grows mb0 (by exact bel1 q2)
    have b00 := mb0.c0; have b01 := mb0.c1; have b02 := mb0.c2; have b0l := mb0.lt
    replace s0 : OwnB w2 (y0.heap.size) (w1.heap.size) (.slice (some ⟨js0, 0, none⟩) a.length a.length) a := OwnB.grows s0 (by exact bel1 q2)
    have sw2q2 := Below.size q2; (try simp at sw2q2)
    replace HG : Grows w w2 := by exact bel2 q2 HG
    go_wp2_with fail
    clear s0
    refine (toMatrix_c r0 k0 A0 a c0 _ (by exact Rd.grows ra0.rd (by exact bel0)) hl0).mono ?_; rintro e w3 ⟨jx0, rfl, ox0, q3⟩
    (try simp at ox0)
    have x0 : OwnB w3 (w2.heap.size) (w3.heap.size) (.slice (some ⟨jx0, 0, none⟩) a.length a.length) a := OwnB.of (Own.less ox0 (by first | omega | simp))
    clear ox0
    replace ra0 : RdB w3 (y0.heap.size) A0 a := RdB.grows ra0 (by exact bel1 q3)
    clear b00 b01 b02 b0l
    replace mb0 : MBox w3 (w.heap.size) r0 k0 (.slice A0 a.length c0) := MBox.grows mb0 (by exact bel1 q3)
    have b00 := mb0.c0; have b01 := mb0.c1; have b02 := mb0.c2; have b0l := mb0.lt
    replace w_0 : RdRB w3 (w2.heap.size) Avw_0 rl := RdRB.grows w_0 (by exact bel1 q3)
    have sw3q3 := Below.size q3; (try simp at sw3q3)
    replace HG : Grows w w3 := by exact bel2 q3 HG
    go_wp2_with fail
    refine (HI'.out _ _ _ (by exact Rd.grows x0.rd (by exact bel0)) (by omega) (by omega)).mono ?_; rintro e w4 ⟨vg_0, svg_0, rfl, ovg_0, q4⟩
    obtain ⟨Avg_0, cvg_0, rfl, _, _⟩ := ovg_0.val
    (try simp at ovg_0)
    have g_0 : RowsO w4 (w3.heap.size + 1) (.slice Avg_0 rl.length cvg_0) svg_0 rl := RowsO.less ovg_0 (by first | omega | simp)
    clear ovg_0
    replace ra0 : RdB w4 (y0.heap.size) A0 a := RdB.grows ra0 (by exact bel1 q4)
    clear b00 b01 b02 b0l
    replace mb0 : MBox w4 (w.heap.size) r0 k0 (.slice A0 a.length c0) := MBox.grows mb0 (by exact bel1 q4)
    have b00 := mb0.c0; have b01 := mb0.c1; have b02 := mb0.c2; have b0l := mb0.lt
    replace w_0 : RdRB w4 (w2.heap.size) Avw_0 rl := RdRB.grows w_0 (by exact bel1 q4)
    replace x0 : OwnB w4 (w2.heap.size) (w3.heap.size) (.slice (some ⟨jx0, 0, none⟩) a.length a.length) a := OwnB.grows x0 (by exact bel1 q4)
    have mx0 : MBox w4 (w3.heap.size) r0 k0 (.slice (some ⟨jx0, 0, none⟩) a.length a.length) := MBox.grows (MBox.mk_ w3 r0 k0 (.slice (some ⟨jx0, 0, none⟩) a.length a.length) 26) q4
    have dx00 := mx0.c0; have dx01 := mx0.c1; have dx02 := mx0.c2; have dx0l := mx0.lt
    have sw4q4 := Below.size q4; (try simp at sw4q4)
    replace HG : Grows w w4 := by exact bel2 q4 HG
    go_wp2_with fail
    refine (eqIntSS_yes _ _ _ _ _ _ _ rfl (by exact RdR.grows RSI.good g_0.rd (by exact bel0)) (by exact RdR.grows RSI.good w_0.rd (by exact bel0)) (by omega) hrx).mono ?_; rintro e w5 ⟨rfl, q5⟩
    replace ra0 : RdB w5 (y0.heap.size) A0 a := RdB.grows ra0 (by exact bel1 q5)
    clear b00 b01 b02 b0l
    replace mb0 : MBox w5 (w.heap.size) r0 k0 (.slice A0 a.length c0) := MBox.grows mb0 (by exact bel1 q5)
    have b00 := mb0.c0; have b01 := mb0.c1; have b02 := mb0.c2; have b0l := mb0.lt
    replace w_0 : RdRB w5 (w2.heap.size) Avw_0 rl := RdRB.grows w_0 (by exact bel1 q5)
    replace x0 : OwnB w5 (w2.heap.size) (w3.heap.size) (.slice (some ⟨jx0, 0, none⟩) a.length a.length) a := OwnB.grows x0 (by exact bel1 q5)
    clear dx00 dx01 dx02 dx0l
    replace mx0 : MBox w5 (w3.heap.size) r0 k0 (.slice (some ⟨jx0, 0, none⟩) a.length a.length) := MBox.grows mx0 (by exact bel1 q5)
    have dx00 := mx0.c0; have dx01 := mx0.c1; have dx02 := mx0.c2; have dx0l := mx0.lt
    replace g_0 : RowsO w5 (w3.heap.size + 1) (.slice Avg_0 rl.length cvg_0) svg_0 rl := RowsO.grows g_0 (by exact bel1 q5)
    have sw5q5 := Below.size q5; (try simp at sw5q5)
    replace HG : Grows w w5 := by exact bel2 q5 HG
    go_wp2_with fail
    go_region_held3 (fun W => W.cell? ⟨w3.heap.size, 0, none⟩ = some (.int .i64 r0) ∧ W.cell? ⟨w3.heap.size, 1, none⟩ = some (.int .i64 k0) ∧ W.cell? ⟨w3.heap.size, 2, none⟩ = some (.slice (some ⟨jx0, 0, none⟩) a.length a.length) ∧ W.cell? ⟨w.heap.size, 0, none⟩ = some (.int .i64 r0) ∧ W.cell? ⟨w.heap.size, 1, none⟩ = some (.int .i64 k0) ∧ W.cell? ⟨w.heap.size, 2, none⟩ = some (.slice A0 a.length c0)) ((refine two_boxes mx0 mb0 ?_; first | exact bel2 q7 q6 | exact bel1 q6 | exact bel0)) (first | (go_at_call 33; refine (toMatrix_c r0 k0 A0 a c0 _ (by exact Rd.grows ra0.rd (by exact bel0)) hl0).mono ?_; rintro e w6 ⟨jt0, rfl, ot0, q6⟩) | (go_at_call 35; refine (eqMatrix_yes _ _ _ _ _ _ _ _ (by exact Rd.grows x0.rd (by exact bel1 q6)) (by exact ot0.rd) (by omega)).mono ?_; rintro e w7 ⟨rfl, q7⟩))
    clear ot0
    replace ra0 : RdB w7 (y0.heap.size) A0 a := RdB.grows ra0 (by exact bel2 q7 q6)
    clear b00 b01 b02 b0l
    replace mb0 : MBox w7 (w.heap.size) r0 k0 (.slice A0 a.length c0) := MBox.grows mb0 (by exact bel2 q7 q6)
    have b00 := mb0.c0; have b01 := mb0.c1; have b02 := mb0.c2; have b0l := mb0.lt
    replace w_0 : RdRB w7 (w2.heap.size) Avw_0 rl := RdRB.grows w_0 (by exact bel2 q7 q6)
    replace x0 : OwnB w7 (w2.heap.size) (w3.heap.size) (.slice (some ⟨jx0, 0, none⟩) a.length a.length) a := OwnB.grows x0 (by exact bel2 q7 q6)
    clear dx00 dx01 dx02 dx0l
    replace mx0 : MBox w7 (w3.heap.size) r0 k0 (.slice (some ⟨jx0, 0, none⟩) a.length a.length) := MBox.grows mx0 (by exact bel2 q7 q6)
    have dx00 := mx0.c0; have dx01 := mx0.c1; have dx02 := mx0.c2; have dx0l := mx0.lt
    replace g_0 : RowsO w7 (w3.heap.size + 1) (.slice Avg_0 rl.length cvg_0) svg_0 rl := RowsO.grows g_0 (by exact bel2 q7 q6)
    have sw7q6 := Below.size q6; (try simp at sw7q6)
    have sw7q7 := Below.size q7; (try simp at sw7q7)
    replace HG : Grows w w7 := by exact bel3 q7 q6 HG
    go_wp2_with fail
    refine (markMatrix_c (w2.heap.size) _ _ _ _ _ _ _ x0.own (by omega) (by omega) (by omega)).mono ?_; rintro e w8 ⟨rfl, ox0, q8⟩
    replace ra0 : RdB w8 (y0.heap.size) A0 a := RdB.mark ra0 x0 q8 (by omega)
    clear b00 b01 b02 b0l
    replace mb0 : MBox w8 (w.heap.size) r0 k0 (.slice A0 a.length c0) := MBox.mark mb0 x0 q8 (by omega)
    have b00 := mb0.c0; have b01 := mb0.c1; have b02 := mb0.c2; have b0l := mb0.lt
    replace w_0 : RdRB w8 (w2.heap.size) Avw_0 rl := RdRB.mark w_0 x0 q8 (by omega)
    clear dx00 dx01 dx02 dx0l
    replace mx0 : MBox w8 (w3.heap.size) r0 k0 (.slice (some ⟨jx0, 0, none⟩) a.length a.length) := MBox.mark mx0 x0 q8 (by omega)
    have dx00 := mx0.c0; have dx01 := mx0.c1; have dx02 := mx0.c2; have dx0l := mx0.lt
    replace g_0 : RowsO w8 (w3.heap.size + 1) (.slice Avg_0 rl.length cvg_0) svg_0 rl := RowsO.mark_hi g_0 x0 q8 (by omega)
    have sw8 := World.grownBy.size q8
    replace HG : Grows w w8 := below_mark HG x0 q8 (by omega) (Below.size HG)
    have hhx0 : OwnB w8 (w2.heap.size) (w3.heap.size) (.slice (some ⟨jx0, 0, none⟩) a.length a.length) (run (1) a.length) := ⟨ox0, x0.2⟩
    clear ox0 x0
    have x0 := hhx0
    clear hhx0
    go_wp2_with fail
    refine (eqIntSS_yes _ _ _ _ _ _ _ rfl (by exact RdR.grows RSI.good g_0.rd (by exact bel0)) (by exact RdR.grows RSI.good w_0.rd (by exact bel0)) (by omega) hrx).mono ?_; rintro e w9 ⟨rfl, q9⟩
    replace ra0 : RdB w9 (y0.heap.size) A0 a := RdB.grows ra0 (by exact bel1 q9)
    clear b00 b01 b02 b0l
    replace mb0 : MBox w9 (w.heap.size) r0 k0 (.slice A0 a.length c0) := MBox.grows mb0 (by exact bel1 q9)
    have b00 := mb0.c0; have b01 := mb0.c1; have b02 := mb0.c2; have b0l := mb0.lt
    replace w_0 : RdRB w9 (w2.heap.size) Avw_0 rl := RdRB.grows w_0 (by exact bel1 q9)
    replace x0 : OwnB w9 (w2.heap.size) (w3.heap.size) (.slice (some ⟨jx0, 0, none⟩) a.length a.length) (run (1) a.length) := OwnB.grows x0 (by exact bel1 q9)
    clear dx00 dx01 dx02 dx0l
    replace mx0 : MBox w9 (w3.heap.size) r0 k0 (.slice (some ⟨jx0, 0, none⟩) a.length a.length) := MBox.grows mx0 (by exact bel1 q9)
    have dx00 := mx0.c0; have dx01 := mx0.c1; have dx02 := mx0.c2; have dx0l := mx0.lt
    replace g_0 : RowsO w9 (w3.heap.size + 1) (.slice Avg_0 rl.length cvg_0) svg_0 rl := RowsO.grows g_0 (by exact bel1 q9)
    have sw9q9 := Below.size q9; (try simp at sw9q9)
    replace HG : Grows w w9 := by exact bel2 q9 HG
    go_wp2_with fail
    refine (markIntSS_c (w3.heap.size + 1) _ _ _ _ _ _ _ rfl g_0 (by omega) hrx (by omega) (by omega) (by omega)).mono ?_; rintro e w10 ⟨rfl, og_0, q10⟩
    replace ra0 : RdB w10 (y0.heap.size) A0 a := RdB.under ra0 q10 (by omega)
    clear b00 b01 b02 b0l
    replace mb0 : MBox w10 (w.heap.size) r0 k0 (.slice A0 a.length c0) := MBox.keep mb0 q10 (by omega)
    have b00 := mb0.c0; have b01 := mb0.c1; have b02 := mb0.c2; have b0l := mb0.lt
    replace w_0 : RdRB w10 (w2.heap.size) Avw_0 rl := RdRB.under w_0 q10 (by omega)
    replace x0 : OwnB w10 (w2.heap.size) (w3.heap.size) (.slice (some ⟨jx0, 0, none⟩) a.length a.length) (run (1) a.length) := OwnB.under x0 q10 (by omega)
    clear dx00 dx01 dx02 dx0l
    replace mx0 : MBox w10 (w3.heap.size) r0 k0 (.slice (some ⟨jx0, 0, none⟩) a.length a.length) := MBox.keep mx0 q10 (by omega)
    have dx00 := mx0.c0; have dx01 := mx0.c1; have dx02 := mx0.c2; have dx0l := mx0.lt
    have sw10 := Below.size q10
    replace HG : Grows w w10 := Below.trans HG (Below.mono q10 (by omega))
    clear g_0
    have g_0 := og_0
    clear og_0
    go_wp2_with fail
    refine (heldIntSS_c _ rl _ _ _ _ rfl (by exact RdR.grows RSI.good g_0.rd (by exact bel0)) (by omega) hrx (by omega) (by omega)).mono ?_; rintro e w11 ⟨rfl, q11⟩
    replace ra0 : RdB w11 (y0.heap.size) A0 a := RdB.grows ra0 (by exact bel1 q11)
    clear b00 b01 b02 b0l
    replace mb0 : MBox w11 (w.heap.size) r0 k0 (.slice A0 a.length c0) := MBox.grows mb0 (by exact bel1 q11)
    have b00 := mb0.c0; have b01 := mb0.c1; have b02 := mb0.c2; have b0l := mb0.lt
    replace w_0 : RdRB w11 (w2.heap.size) Avw_0 rl := RdRB.grows w_0 (by exact bel1 q11)
    replace x0 : OwnB w11 (w2.heap.size) (w3.heap.size) (.slice (some ⟨jx0, 0, none⟩) a.length a.length) (run (1) a.length) := OwnB.grows x0 (by exact bel1 q11)
    clear dx00 dx01 dx02 dx0l
    replace mx0 : MBox w11 (w3.heap.size) r0 k0 (.slice (some ⟨jx0, 0, none⟩) a.length a.length) := MBox.grows mx0 (by exact bel1 q11)
    have dx00 := mx0.c0; have dx01 := mx0.c1; have dx02 := mx0.c2; have dx0l := mx0.lt
    replace g_0 : RowsO w11 (w3.heap.size + 1) (.slice Avg_0 rl.length cvg_0) svg_0 (runR ((1)) rl) := RowsO.grows g_0 (by exact bel1 q11)
    have sw11q11 := Below.size q11; (try simp at sw11q11)
    replace HG : Grows w w11 := by exact bel2 q11 HG
    go_wp2_with fail
    refine (toMatrix_c r0 k0 A0 a c0 _ (by exact Rd.grows ra0.rd (by exact bel0)) hl0).mono ?_; rintro e w12 ⟨ju0, rfl, ou0, q12⟩
    (try simp at ou0)
    have u0 : OwnB w12 (w11.heap.size) (w12.heap.size) (.slice (some ⟨ju0, 0, none⟩) a.length a.length) a := OwnB.of (Own.less ou0 (by first | omega | simp))
    clear ou0
    replace ra0 : RdB w12 (y0.heap.size) A0 a := RdB.grows ra0 (by exact bel1 q12)
    clear b00 b01 b02 b0l
    replace mb0 : MBox w12 (w.heap.size) r0 k0 (.slice A0 a.length c0) := MBox.grows mb0 (by exact bel1 q12)
    have b00 := mb0.c0; have b01 := mb0.c1; have b02 := mb0.c2; have b0l := mb0.lt
    replace w_0 : RdRB w12 (w2.heap.size) Avw_0 rl := RdRB.grows w_0 (by exact bel1 q12)
    replace x0 : OwnB w12 (w2.heap.size) (w3.heap.size) (.slice (some ⟨jx0, 0, none⟩) a.length a.length) (run (1) a.length) := OwnB.grows x0 (by exact bel1 q12)
    clear dx00 dx01 dx02 dx0l
    replace mx0 : MBox w12 (w3.heap.size) r0 k0 (.slice (some ⟨jx0, 0, none⟩) a.length a.length) := MBox.grows mx0 (by exact bel1 q12)
    have dx00 := mx0.c0; have dx01 := mx0.c1; have dx02 := mx0.c2; have dx0l := mx0.lt
    replace g_0 : RowsO w12 (w3.heap.size + 1) (.slice Avg_0 rl.length cvg_0) svg_0 (runR ((1)) rl) := RowsO.grows g_0 (by exact bel1 q12)
    have sw12q12 := Below.size q12; (try simp at sw12q12)
    replace HG : Grows w w12 := by exact bel2 q12 HG
    go_wp2_with fail
    refine (HI'.out _ _ _ (by exact Rd.grows u0.rd (by exact bel0)) (by omega) (by omega)).mono ?_; rintro e w13 ⟨vh_0, svh_0, rfl, ovh_0, q13⟩
    obtain ⟨Avh_0, cvh_0, rfl, _, _⟩ := ovh_0.val
    have h_0 : RdRB w13 (w13.heap.size) Avh_0 rl := RdRB.of ovh_0.rd
    clear ovh_0
    replace ra0 : RdB w13 (y0.heap.size) A0 a := RdB.grows ra0 (by exact bel1 q13)
    clear b00 b01 b02 b0l
    replace mb0 : MBox w13 (w.heap.size) r0 k0 (.slice A0 a.length c0) := MBox.grows mb0 (by exact bel1 q13)
    have b00 := mb0.c0; have b01 := mb0.c1; have b02 := mb0.c2; have b0l := mb0.lt
    replace w_0 : RdRB w13 (w2.heap.size) Avw_0 rl := RdRB.grows w_0 (by exact bel1 q13)
    replace x0 : OwnB w13 (w2.heap.size) (w3.heap.size) (.slice (some ⟨jx0, 0, none⟩) a.length a.length) (run (1) a.length) := OwnB.grows x0 (by exact bel1 q13)
    clear dx00 dx01 dx02 dx0l
    replace mx0 : MBox w13 (w3.heap.size) r0 k0 (.slice (some ⟨jx0, 0, none⟩) a.length a.length) := MBox.grows mx0 (by exact bel1 q13)
    have dx00 := mx0.c0; have dx01 := mx0.c1; have dx02 := mx0.c2; have dx0l := mx0.lt
    replace g_0 : RowsO w13 (w3.heap.size + 1) (.slice Avg_0 rl.length cvg_0) svg_0 (runR ((1)) rl) := RowsO.grows g_0 (by exact bel1 q13)
    replace u0 : OwnB w13 (w11.heap.size) (w12.heap.size) (.slice (some ⟨ju0, 0, none⟩) a.length a.length) a := OwnB.grows u0 (by exact bel1 q13)
    have sw13q13 := Below.size q13; (try simp at sw13q13)
    replace HG : Grows w w13 := by exact bel2 q13 HG
    go_wp2_with fail
    refine (eqIntSS_yes _ _ _ _ _ _ _ rfl (by exact RdR.grows RSI.good h_0.rd (by exact bel0)) (by exact RdR.grows RSI.good w_0.rd (by exact bel0)) (by omega) hrx).mono ?_; rintro e w14 ⟨rfl, q14⟩
    replace ra0 : RdB w14 (y0.heap.size) A0 a := RdB.grows ra0 (by exact bel1 q14)
    clear b00 b01 b02 b0l
    replace mb0 : MBox w14 (w.heap.size) r0 k0 (.slice A0 a.length c0) := MBox.grows mb0 (by exact bel1 q14)
    have b00 := mb0.c0; have b01 := mb0.c1; have b02 := mb0.c2; have b0l := mb0.lt
    replace w_0 : RdRB w14 (w2.heap.size) Avw_0 rl := RdRB.grows w_0 (by exact bel1 q14)
    replace x0 : OwnB w14 (w2.heap.size) (w3.heap.size) (.slice (some ⟨jx0, 0, none⟩) a.length a.length) (run (1) a.length) := OwnB.grows x0 (by exact bel1 q14)
    clear dx00 dx01 dx02 dx0l
    replace mx0 : MBox w14 (w3.heap.size) r0 k0 (.slice (some ⟨jx0, 0, none⟩) a.length a.length) := MBox.grows mx0 (by exact bel1 q14)
    have dx00 := mx0.c0; have dx01 := mx0.c1; have dx02 := mx0.c2; have dx0l := mx0.lt
    replace g_0 : RowsO w14 (w3.heap.size + 1) (.slice Avg_0 rl.length cvg_0) svg_0 (runR ((1)) rl) := RowsO.grows g_0 (by exact bel1 q14)
    replace u0 : OwnB w14 (w11.heap.size) (w12.heap.size) (.slice (some ⟨ju0, 0, none⟩) a.length a.length) a := OwnB.grows u0 (by exact bel1 q14)
    replace h_0 : RdRB w14 (w13.heap.size) Avh_0 rl := RdRB.grows h_0 (by exact bel1 q14)
    have sw14q14 := Below.size q14; (try simp at sw14q14)
    replace HG : Grows w w14 := by exact bel2 q14 HG
    go_wp2_with fail
    refine (heldIntSS_c _ rl _ _ _ _ rfl (by exact RdR.grows RSI.good g_0.rd (by exact bel0)) (by omega) hrx (by omega) (by omega)).mono ?_; rintro e w15 ⟨rfl, q15⟩
    replace ra0 : RdB w15 (y0.heap.size) A0 a := RdB.grows ra0 (by exact bel1 q15)
    clear b00 b01 b02 b0l
    replace mb0 : MBox w15 (w.heap.size) r0 k0 (.slice A0 a.length c0) := MBox.grows mb0 (by exact bel1 q15)
    have b00 := mb0.c0; have b01 := mb0.c1; have b02 := mb0.c2; have b0l := mb0.lt
    replace w_0 : RdRB w15 (w2.heap.size) Avw_0 rl := RdRB.grows w_0 (by exact bel1 q15)
    replace x0 : OwnB w15 (w2.heap.size) (w3.heap.size) (.slice (some ⟨jx0, 0, none⟩) a.length a.length) (run (1) a.length) := OwnB.grows x0 (by exact bel1 q15)
    clear dx00 dx01 dx02 dx0l
    replace mx0 : MBox w15 (w3.heap.size) r0 k0 (.slice (some ⟨jx0, 0, none⟩) a.length a.length) := MBox.grows mx0 (by exact bel1 q15)
    have dx00 := mx0.c0; have dx01 := mx0.c1; have dx02 := mx0.c2; have dx0l := mx0.lt
    replace g_0 : RowsO w15 (w3.heap.size + 1) (.slice Avg_0 rl.length cvg_0) svg_0 (runR ((1)) rl) := RowsO.grows g_0 (by exact bel1 q15)
    replace u0 : OwnB w15 (w11.heap.size) (w12.heap.size) (.slice (some ⟨ju0, 0, none⟩) a.length a.length) a := OwnB.grows u0 (by exact bel1 q15)
    replace h_0 : RdRB w15 (w13.heap.size) Avh_0 rl := RdRB.grows h_0 (by exact bel1 q15)
    have sw15q15 := Below.size q15; (try simp at sw15q15)
    replace HG : Grows w w15 := by exact bel2 q15 HG
    go_wp2_with fail
    go_ret
    exact ⟨rfl, HG⟩
end Go.Proofs.YtfilbjbogggaoaaGreat


namespace Go.Proofs.YtfilbjbogggaoaaGreat
set_option linter.unusedSimpArgs false
set_option linter.unusedVariables false
open Go.ChangeShapes Go.WideShapes Go.ChangeAt Go.RowKit Go.Joins
set_option linter.unusedVariables false

set_option maxRecDepth 100000 in
theorem fnExactShortByTree_lifted (os : Os) (started : os.Started) (H : Type) (enc : TypeId × Value → H) :
    ReturnsInHanded {} Tryz.checked os 6 .any (Rows.fnExactShortByTreeSpec.pre6 enc Tryz.prog Tryz.f6 Rows.fnExactShortByTreeRow.domain false) (Rows.fnExactShortByTreeSpec.post enc Tryz.prog Tryz.f6 false true false false) := by
  refine returnsInHanded_of_change (C := Tryz.checked) own started (by kernel_rfl) Tryz.func6
    (ChangeSpec.witness6 (enc := enc) (C := Tryz.checked) false ⟨#[], #[.agg #[.int .i64 0, .int .i64 0, .slice none 0 0], .int .i64 0], []⟩ 8 (by kernel_rfl) (by kernel_rfl) (by kernel_rfl) (by kernel_rfl)) ?_
  intro W base args ds gs before hval0 hW hcnd _
  have hval : ∀ (j : Nat) t v, Tryz.f6.params[j]? = some t → args[j]? = some v → Value.okWide Tryz.prog W .any base t v := hval0
  have hW' := hW
  obtain ⟨p, q, hA0, hV, rfl, hfz, hnd⟩ := hW
  have hA : DataW.TrodAll enc Tryz.prog W 0 (fun _ => true) true Tryz.f6.params.toList args.toList ds p := hA0
  rw [Tryz.params6] at hA hval
  obtain ⟨v0, vs0, d0, ds0, p0, q0, hargs, rfl, rfl, h0, r0⟩ := trodAll_cons hA
  obtain ⟨v1, vs1, d1, ds1, p1, q1, rfl, rfl, rfl, h1, r1⟩ := trodAll_cons r0
  obtain ⟨rfl, rfl, rfl⟩ := trodAll_nil r1
  obtain rfl : args = #[v0, v1] := by cases args; simp_all
  obtain ⟨rfl, rfl⟩ := trodVars_none hV
  have k0 := h0
  have lt0 : ∀ x ∈ p0, x.block < W.heap.size := by obtain ⟨m, hm⟩ := k0; exact DataW.trod_lt m _ _ _ hm
  obtain ⟨u00, u10, u20, y00, y10, y20, m0, rfl, rfl, rfl, t00, t10, t20⟩ := open_agg3 Tryz.underlying47 (by kernel_rfl) (by kernel_rfl) (hval 0 47 v0 rfl rfl) h0
  obtain ⟨x0, e00, _, wx0⟩ := DataW.trod_int Tryz.underlying3 t00
  obtain ⟨z0, e10, _, wz0⟩ := DataW.trod_int Tryz.underlying3 t10
  obtain ⟨A0, l0, c0, e20, ir0⟩ := open_row t20
  simp only [List.cons.injEq, and_true] at e00 e10
  subst e00 e10 e20
  have k1 := h1
  have lt1 : ∀ x ∈ p1, x.block < W.heap.size := by obtain ⟨m, hm⟩ := k1; exact DataW.trod_lt m _ _ _ hm
  obtain ⟨x1, e1⟩ : ∃ x : Int, v1 = .int .i64 x ∧ (Lit.int .i64 x).wf = true := by
    obtain ⟨x, rfl, _, _, wx⟩ := open_int Tryz.underlying3 (hval 1 3 v1 rfl rfl) h1
    exact ⟨x, rfl, wx⟩
  obtain ⟨rfl, w1⟩ := e1
  clear hA0 hval0
  refine (lawSbt_c x0 z0 A0 l0 c0 x1 W wx0 wz0 ir0 w1).mono fun e W' ⟨he, bel⟩ => ?_
  subst he
  exact ⟨_, rfl, _, _, _, [], _, [], hW', trodAll_mk1 (shut_bool Tryz.underlying4 _), (trodAll_cons_mk (Below.trod laidOut (by kernel_rfl) (of_decide_eq_true (by kernel_rfl)) k0 bel lt0) (trodAll_cons_mk (Below.trod laidOut (by kernel_rfl) (of_decide_eq_true (by kernel_rfl)) k1 bel lt1) trodAll_mk0)), rfl, bel.frame _, fun h => by cases h⟩

theorem fnExactShortByTree_closed : joinedFacts Tryz.pinned.checked.prog 6 Tryz.f6 Rows.fnExactShortByTreeSpec Rows.fnExactShortByTreeRow = true := by
  unfold joinedFacts
  rw [fLaid, fRowed, fStops, fEnter, fLift, fMake]
  change _ = true
  kernel_rfl
/-- The statement. -/
theorem fnExactShortByTree_holds : Rows.FnExactShortByTreeSaid :=
  OpenClaim.holds_of_wide 6 Tryz.f6 rfl rfl rfl rfl rfl rfl rfl ⟨rfl, rfl, rfl, rfl, rfl⟩ rfl rfl rfl rfl rfl (by kernel_rfl) Tryz.func6 fnExactShortByTree_closed
    (of_decide_eq_true (by kernel_rfl)) (by unfold Func.isWrapper; first | (rw [if_pos (by decide +kernel)]; kernel_rfl) | (rw [if_neg (by decide +kernel)]; exact ⟨rfl, rfl⟩))
    (fun os started H enc _ => fnExactShortByTree_lifted os started H enc)
end Go.Proofs.YtfilbjbogggaoaaGreat
