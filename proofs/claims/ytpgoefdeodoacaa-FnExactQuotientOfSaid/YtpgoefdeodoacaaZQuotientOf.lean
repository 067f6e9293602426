/- The row of FnExactQuotientOf: proved for every input, no condition beyond those of the row. -/
import Derived.Test.YtpgoefdeodoacaaPkA
import Derived.Test.YtpgoefdeodoacaaPkZ
import Derived.Test.YtpgoefdeodoacaaQFacts

namespace Go.Proofs.Ytpgoefdeodoacaa
set_option linter.unusedSimpArgs false
set_option linter.unusedVariables false
open Go.RowKit
set_option linter.unusedVariables false
set_option maxHeartbeats 2000000 in
set_option maxRecDepth 10000 in
theorem lawQuo_c (r0 k0 : Int) (A0 : Option Addr) (a : List Int) (c0 : Nat) (r1 k1 : Int) (A1 : Option Addr) (b : List Int) (c1 : Nat) (w : World) (_wr0 : (Lit.int .i64 r0).wf = true) (_wk0 : (Lit.int .i64 k0).wf = true) (ir0 : InRow w A0 a c0) (_wr1 : (Lit.int .i64 r1).wf = true) (_wk1 : (Lit.int .i64 k1).wf = true) (ir1 : InRow w A1 b c1) :
    Calls Try.prog 6 #[.agg #[.int .i64 r0, .int .i64 k0, .slice A0 a.length c0], .agg #[.int .i64 r1, .int .i64 k1, .slice A1 b.length c1]] w fun e w' => e = .returned (.bool true) ∧ Grows w w' := by
  obtain ⟨rd0, hc0, hm0, _⟩ := ir0
  simp only [maxLen] at hm0
  obtain ⟨rd1, hc1, hm1, _⟩ := ir1
  simp only [maxLen] at hm1
  by_cases hs0 : (a.length : Int) ≤ 1048576
  rotate_left
  · go_enter Try.func6, Try.ntmps6
    go_wp2_with fail
    refine (szMatrix_no _ _ _ _ _ _ _ (by omega) (by omega) (by omega) (by omega)).mono ?_; rintro e y0 ⟨rfl, g0⟩
    have mb0 : MBox y0 (w.heap.size) r0 k0 (.slice A0 a.length c0) := by have := MBox.grows (MBox.mk_ w r0 k0 (.slice A0 a.length c0) 24) (w' := y0) (by exact bel1 g0); simpa using this
    have b00 := mb0.c0; have b01 := mb0.c1; have b02 := mb0.c2; have b0l := mb0.lt
    have mb1 : MBox y0 (w.heap.size + 1) r1 k1 (.slice A1 b.length c1) := by have := MBox.grows (MBox.mk_ (w.alloc (.cells #[.int .i64 r0, .int .i64 k0, .slice A0 a.length c0] 24)) r1 k1 (.slice A1 b.length c1) 24) (w' := y0) (by exact bel1 g0); simpa using this
    have b10 := mb1.c0; have b11 := mb1.c1; have b12 := mb1.c2; have b1l := mb1.lt
    go_wp2_with fail
    go_ret
    exact ⟨rfl, by exact bel1 g0⟩
  by_cases hs1 : (a.length : Int) + (b.length : Int) ≤ 1048576
  rotate_left
  · go_enter Try.func6, Try.ntmps6
    go_wp2_with fail
    refine (szMatrix_yes _ _ _ _ _ _ _ (by omega) (by omega) (by omega) (by omega)).mono ?_; rintro e y0 ⟨rfl, g0⟩
    have mb0 : MBox y0 (w.heap.size) r0 k0 (.slice A0 a.length c0) := by have := MBox.grows (MBox.mk_ w r0 k0 (.slice A0 a.length c0) 24) (w' := y0) (by exact bel1 g0); simpa using this
    have b00 := mb0.c0; have b01 := mb0.c1; have b02 := mb0.c2; have b0l := mb0.lt
    have mb1 : MBox y0 (w.heap.size + 1) r1 k1 (.slice A1 b.length c1) := by have := MBox.grows (MBox.mk_ (w.alloc (.cells #[.int .i64 r0, .int .i64 k0, .slice A0 a.length c0] 24)) r1 k1 (.slice A1 b.length c1) 24) (w' := y0) (by exact bel1 g0); simpa using this
    have b10 := mb1.c0; have b11 := mb1.c1; have b12 := mb1.c2; have b1l := mb1.lt
    go_wp2_with fail
    refine (szMatrix_no _ _ _ _ _ _ _ (by omega) (by omega) (by omega) (by omega)).mono ?_; rintro e y1 ⟨rfl, g1⟩
    replace mb0 : MBox y1 (w.heap.size) r0 k0 (.slice A0 a.length c0) := mb0.grows g1
    clear b00 b01 b02 b0l
    have b00 := mb0.c0; have b01 := mb0.c1; have b02 := mb0.c2; have b0l := mb0.lt
    replace mb1 : MBox y1 (w.heap.size + 1) r1 k1 (.slice A1 b.length c1) := mb1.grows g1
    clear b10 b11 b12 b1l
    have b10 := mb1.c0; have b11 := mb1.c1; have b12 := mb1.c2; have b1l := mb1.lt
    go_wp2_with fail
    go_ret
    exact ⟨rfl, by exact bel2 g1 g0⟩
  have hl0 : a.length ≤ 1048576 := by omega
  have hl1 : b.length ≤ 1048576 := by omega
  have hrl : (qoL (quoO ⟨r0, k0, a⟩ ⟨r1, k1, b⟩)).length ≤ 24 := quoO_len
  have HS := fun W A c B d (h0 : Rd W A a) (h1 : Rd W B b) (e0 : a.length ≤ c) (e1 : c ≤ 9223372036854775807) (e2 : b.length ≤ d) (e3 : d ≤ 9223372036854775807) => (sQuo_c r0 k0 r1 k1 A B a b a.length b.length c d W rfl rfl e2 e3 h0 h1 (by omega) (by omega)).mono fun _ _ h => (quoRet_out h)
  have HI := fun W A c B d (h0 : Rd W A a) (h1 : Rd W B b) (e0 : a.length ≤ c) (e1 : c ≤ 9223372036854775807) (e2 : b.length ≤ d) (e3 : d ≤ 9223372036854775807) => (iQuo_c r0 k0 r1 k1 A B a b a.length b.length c d W rfl rfl e0 e1 e2 e3 h0 h1 (by omega) (by omega)).mono fun _ _ h => (quoRet_out h)
  generalize qoL (quoO ⟨r0, k0, a⟩ ⟨r1, k1, b⟩) = rl at *
  generalize qoN (quoO ⟨r0, k0, a⟩ ⟨r1, k1, b⟩) = rv at *
  generalize (quoO ⟨r0, k0, a⟩ ⟨r1, k1, b⟩).isSome = ok at *
  all_goals
    have HS' := Lib.hid HS
    have HI' := Lib.hid HI
    clear HS HI
    go_enter Try.func6, Try.ntmps6
    go_wp2_with fail
    refine (szMatrix_yes _ _ _ _ _ _ _ (by omega) (by omega) (by omega) (by omega)).mono ?_; rintro e y0 ⟨rfl, g0⟩
    have mb0 : MBox y0 (w.heap.size) r0 k0 (.slice A0 a.length c0) := by have := MBox.grows (MBox.mk_ w r0 k0 (.slice A0 a.length c0) 24) (w' := y0) (by exact bel1 g0); simpa using this
    have b00 := mb0.c0; have b01 := mb0.c1; have b02 := mb0.c2; have b0l := mb0.lt
    have mb1 : MBox y0 (w.heap.size + 1) r1 k1 (.slice A1 b.length c1) := by have := MBox.grows (MBox.mk_ (w.alloc (.cells #[.int .i64 r0, .int .i64 k0, .slice A0 a.length c0] 24)) r1 k1 (.slice A1 b.length c1) 24) (w' := y0) (by exact bel1 g0); simpa using this
    have b10 := mb1.c0; have b11 := mb1.c1; have b12 := mb1.c2; have b1l := mb1.lt
    go_wp2_with fail
    refine (szMatrix_yes _ _ _ _ _ _ _ (by omega) (by omega) (by omega) (by omega)).mono ?_; rintro e y1 ⟨rfl, g1⟩
    replace mb0 : MBox y1 (w.heap.size) r0 k0 (.slice A0 a.length c0) := mb0.grows g1
    clear b00 b01 b02 b0l
    have b00 := mb0.c0; have b01 := mb0.c1; have b02 := mb0.c2; have b0l := mb0.lt
    replace mb1 : MBox y1 (w.heap.size + 1) r1 k1 (.slice A1 b.length c1) := mb1.grows g1
    clear b10 b11 b12 b1l
    have b10 := mb1.c0; have b11 := mb1.c1; have b12 := mb1.c2; have b1l := mb1.lt
    go_wp2_with fail
    have ra0 : RdB y1 y1.heap.size A0 a := RdB.of (Rd.grows rd0 (by exact bel2 g1 g0))
    have ra1 : RdB y1 y1.heap.size A1 b := RdB.of (Rd.grows rd1 (by exact bel2 g1 g0))
    have HG : Grows w y1 := by exact bel2 g1 g0
    have sb0 := mb0.lt
    have sb1 := mb1.lt
    go_upto_region 8 with fail
    go_cut [6, 7, 8] (fun s6 s7 s8 wx => ∃ Ar0 cr0, s6 = .slice Ar0 rl.length cr0 ∧ s7 = .int .i64 rv ∧ s8 = .bool ok ∧ OwnB wx (y1.heap.size) wx.heap.size (.slice Ar0 rl.length cr0) rl ∧ Grows y1 wx)
    ·
      go_region_held3 (fun W => W.cell? ⟨w.heap.size, 0, none⟩ = some (.int .i64 r0) ∧ W.cell? ⟨w.heap.size, 1, none⟩ = some (.int .i64 k0) ∧ W.cell? ⟨w.heap.size, 2, none⟩ = some (.slice A0 a.length c0) ∧ W.cell? ⟨w.heap.size + 1, 0, none⟩ = some (.int .i64 r1) ∧ W.cell? ⟨w.heap.size + 1, 1, none⟩ = some (.int .i64 k1) ∧ W.cell? ⟨w.heap.size + 1, 2, none⟩ = some (.slice A1 b.length c1)) ((refine two_boxes mb0 mb1 ?_; first | exact bel3 p3 p2 p1 | exact bel2 p2 p1 | exact bel1 p1 | exact bel0))
        (first
         | (go_at_call 17; with_reducible refine (toMatrix_c r0 k0 A0 a c0 _ (by exact Rd.grows ra0.rd (by exact bel0)) hl0).mono ?_; rintro e t1 ⟨jt1, rfl, ot1, p1⟩; have zt1 := Below.size p1; (try simp at zt1))
         | (go_at_call 17; with_reducible refine (toMatrix_c r1 k1 A1 b c1 _ (by exact Rd.grows ra1.rd (by exact bel1 p1)) hl1).mono ?_; rintro e t2 ⟨jt2, rfl, ot2, p2⟩; have zt2 := Below.size p2; (try simp at zt2))
         | (go_at_call 30; refine (HS'.out _ _ _ _ _ (by exact Rd.grows ot1.rd (by exact bel1 p2)) (by exact Rd.grows ot2.rd (by exact bel0)) (by omega) (by omega) (by omega) (by omega)).mono ?_; rintro e t3 ⟨v0, rfl, ov0, p3⟩; obtain ⟨Av0, cv0, rfl, _, _⟩ := ov0.val; have zt3 := Below.size p3; (try simp at zt3)))
      all_goals
        go_wp2_with fail
        go_meet
        exact ⟨_, _, rfl, rfl, rfl, OwnB.of (by (have hb_ := fun k hk => World.ownsRow.lt ov0 k hk; have ho_ := Own.less ov0 (show y1.heap.size ≤ _ by (try simp); omega); (repeat' (first | with_reducible exact ho_ | with_reducible refine Own.alloc ?_ _ | with_reducible refine Own.drew ?_ | with_reducible refine Own.far ?_ ?_ _)); all_goals first | (intro k hk; have := hb_ k hk; (try simp at this); (try simp); omega) | omega | (simp; done) | (simp; omega))), (by exact bel3 p3 p2 p1)⟩
    obtain ⟨w1, rfl⟩ : ∃ x : World, x = wc := ⟨_, rfl⟩
    obtain ⟨Avw_0, cvw_0, rfl, rfl, rfl, w_0, q1⟩ := hcut
    replace ra0 : RdB w1 (y1.heap.size) A0 a := RdB.grows ra0 (by exact bel1 q1)
    replace ra1 : RdB w1 (y1.heap.size) A1 b := RdB.grows ra1 (by exact bel1 q1)
    clear b00 b01 b02 b0l
    replace mb0 : MBox w1 (w.heap.size) r0 k0 (.slice A0 a.length c0) := MBox.grows mb0 (by exact bel1 q1)
    have b00 := mb0.c0; have b01 := mb0.c1; have b02 := mb0.c2; have b0l := mb0.lt
    clear b10 b11 b12 b1l
    replace mb1 : MBox w1 (w.heap.size + 1) r1 k1 (.slice A1 b.length c1) := MBox.grows mb1 (by exact bel1 q1)
    have b10 := mb1.c0; have b11 := mb1.c1; have b12 := mb1.c2; have b1l := mb1.lt
    have sw1q1 := Below.size q1; (try simp at sw1q1)
    replace HG : Grows w w1 := by exact bel2 q1 HG
    go_wp2_with fail
    refine (toMatrix_c r0 k0 A0 a c0 _ (by exact Rd.grows ra0.rd (by exact bel0)) hl0).mono ?_; rintro e w2 ⟨jx0, rfl, ox0, q2⟩
    (try simp at ox0)
    have x0 : OwnB w2 (w1.heap.size) (w2.heap.size) (.slice (some ⟨jx0, 0, none⟩) a.length a.length) a := OwnB.of (Own.less ox0 (by first | omega | simp))
    clear ox0
    replace ra0 : RdB w2 (y1.heap.size) A0 a := RdB.grows ra0 (by exact bel1 q2)
    replace ra1 : RdB w2 (y1.heap.size) A1 b := RdB.grows ra1 (by exact bel1 q2)
    clear b00 b01 b02 b0l
    replace mb0 : MBox w2 (w.heap.size) r0 k0 (.slice A0 a.length c0) := MBox.grows mb0 (by exact bel1 q2)
    have b00 := mb0.c0; have b01 := mb0.c1; have b02 := mb0.c2; have b0l := mb0.lt
    clear b10 b11 b12 b1l
    replace mb1 : MBox w2 (w.heap.size + 1) r1 k1 (.slice A1 b.length c1) := MBox.grows mb1 (by exact bel1 q2)
    have b10 := mb1.c0; have b11 := mb1.c1; have b12 := mb1.c2; have b1l := mb1.lt
    replace w_0 : OwnB w2 (y1.heap.size) (w1.heap.size) (.slice Avw_0 rl.length cvw_0) rl := OwnB.grows w_0 (by exact bel1 q2)
    have sw2q2 := Below.size q2; (try simp at sw2q2)
    replace HG : Grows w w2 := by exact bel2 q2 HG
    go_wp2_with fail
    refine (toMatrix_c r1 k1 A1 b c1 _ (by exact Rd.grows ra1.rd (by exact bel0)) hl1).mono ?_; rintro e w3 ⟨jx1, rfl, ox1, q3⟩
    (try simp at ox1)
    have x1 : OwnB w3 (w2.heap.size + 1) (w3.heap.size) (.slice (some ⟨jx1, 0, none⟩) b.length b.length) b := OwnB.of (Own.less ox1 (by first | omega | simp))
    clear ox1
    replace ra0 : RdB w3 (y1.heap.size) A0 a := RdB.grows ra0 (by exact bel1 q3)
    replace ra1 : RdB w3 (y1.heap.size) A1 b := RdB.grows ra1 (by exact bel1 q3)
    clear b00 b01 b02 b0l
    replace mb0 : MBox w3 (w.heap.size) r0 k0 (.slice A0 a.length c0) := MBox.grows mb0 (by exact bel1 q3)
    have b00 := mb0.c0; have b01 := mb0.c1; have b02 := mb0.c2; have b0l := mb0.lt
    clear b10 b11 b12 b1l
    replace mb1 : MBox w3 (w.heap.size + 1) r1 k1 (.slice A1 b.length c1) := MBox.grows mb1 (by exact bel1 q3)
    have b10 := mb1.c0; have b11 := mb1.c1; have b12 := mb1.c2; have b1l := mb1.lt
    replace w_0 : OwnB w3 (y1.heap.size) (w1.heap.size) (.slice Avw_0 rl.length cvw_0) rl := OwnB.grows w_0 (by exact bel1 q3)
    replace x0 : OwnB w3 (w1.heap.size) (w2.heap.size) (.slice (some ⟨jx0, 0, none⟩) a.length a.length) a := OwnB.grows x0 (by exact bel1 q3)
    have mx0 : MBox w3 (w2.heap.size) r0 k0 (.slice (some ⟨jx0, 0, none⟩) a.length a.length) := MBox.grows (MBox.mk_ w2 r0 k0 (.slice (some ⟨jx0, 0, none⟩) a.length a.length) 28) q3
    have dx00 := mx0.c0; have dx01 := mx0.c1; have dx02 := mx0.c2; have dx0l := mx0.lt
    have sw3q3 := Below.size q3; (try simp at sw3q3)
    replace HG : Grows w w3 := by exact bel2 q3 HG
    go_wp2_with fail
    refine (HI'.out _ _ _ _ _ (by exact Rd.grows x0.rd (by exact bel0)) (by exact Rd.grows x1.rd (by exact bel0)) (by omega) (by omega) (by omega) (by omega)).mono ?_; rintro e w4 ⟨vg_0, rfl, ovg_0, q4⟩
    (try simp at ovg_0)
    obtain ⟨Avg_0, cvg_0, rfl, _, _⟩ := ovg_0.val
    have g_0 : OwnB w4 (w3.heap.size + 1) (w4.heap.size) (.slice Avg_0 rl.length cvg_0) rl := OwnB.of (Own.less ovg_0 (by first | omega | simp))
    clear ovg_0
    replace ra0 : RdB w4 (y1.heap.size) A0 a := RdB.grows ra0 (by exact bel1 q4)
    replace ra1 : RdB w4 (y1.heap.size) A1 b := RdB.grows ra1 (by exact bel1 q4)
    clear b00 b01 b02 b0l
    replace mb0 : MBox w4 (w.heap.size) r0 k0 (.slice A0 a.length c0) := MBox.grows mb0 (by exact bel1 q4)
    have b00 := mb0.c0; have b01 := mb0.c1; have b02 := mb0.c2; have b0l := mb0.lt
    clear b10 b11 b12 b1l
    replace mb1 : MBox w4 (w.heap.size + 1) r1 k1 (.slice A1 b.length c1) := MBox.grows mb1 (by exact bel1 q4)
    have b10 := mb1.c0; have b11 := mb1.c1; have b12 := mb1.c2; have b1l := mb1.lt
    replace w_0 : OwnB w4 (y1.heap.size) (w1.heap.size) (.slice Avw_0 rl.length cvw_0) rl := OwnB.grows w_0 (by exact bel1 q4)
    replace x0 : OwnB w4 (w1.heap.size) (w2.heap.size) (.slice (some ⟨jx0, 0, none⟩) a.length a.length) a := OwnB.grows x0 (by exact bel1 q4)
    clear dx00 dx01 dx02 dx0l
    replace mx0 : MBox w4 (w2.heap.size) r0 k0 (.slice (some ⟨jx0, 0, none⟩) a.length a.length) := MBox.grows mx0 (by exact bel1 q4)
    have dx00 := mx0.c0; have dx01 := mx0.c1; have dx02 := mx0.c2; have dx0l := mx0.lt
    replace x1 : OwnB w4 (w2.heap.size + 1) (w3.heap.size) (.slice (some ⟨jx1, 0, none⟩) b.length b.length) b := OwnB.grows x1 (by exact bel1 q4)
    have mx1 : MBox w4 (w3.heap.size) r1 k1 (.slice (some ⟨jx1, 0, none⟩) b.length b.length) := MBox.grows (MBox.mk_ w3 r1 k1 (.slice (some ⟨jx1, 0, none⟩) b.length b.length) 28) q4
    have dx10 := mx1.c0; have dx11 := mx1.c1; have dx12 := mx1.c2; have dx1l := mx1.lt
    have sw4q4 := Below.size q4; (try simp at sw4q4)
    replace HG : Grows w w4 := by exact bel2 q4 HG
    go_wp2_with fail
    refine (eqIntS_yes _ _ _ _ _ _ (by exact Rd.grows g_0.rd (by exact bel0)) (by exact Rd.grows w_0.rd (by exact bel0)) (by omega)).mono ?_; rintro e w5 ⟨rfl, q5⟩
    replace ra0 : RdB w5 (y1.heap.size) A0 a := RdB.grows ra0 (by exact bel1 q5)
    replace ra1 : RdB w5 (y1.heap.size) A1 b := RdB.grows ra1 (by exact bel1 q5)
    clear b00 b01 b02 b0l
    replace mb0 : MBox w5 (w.heap.size) r0 k0 (.slice A0 a.length c0) := MBox.grows mb0 (by exact bel1 q5)
    have b00 := mb0.c0; have b01 := mb0.c1; have b02 := mb0.c2; have b0l := mb0.lt
    clear b10 b11 b12 b1l
    replace mb1 : MBox w5 (w.heap.size + 1) r1 k1 (.slice A1 b.length c1) := MBox.grows mb1 (by exact bel1 q5)
    have b10 := mb1.c0; have b11 := mb1.c1; have b12 := mb1.c2; have b1l := mb1.lt
    replace w_0 : OwnB w5 (y1.heap.size) (w1.heap.size) (.slice Avw_0 rl.length cvw_0) rl := OwnB.grows w_0 (by exact bel1 q5)
    replace x0 : OwnB w5 (w1.heap.size) (w2.heap.size) (.slice (some ⟨jx0, 0, none⟩) a.length a.length) a := OwnB.grows x0 (by exact bel1 q5)
    clear dx00 dx01 dx02 dx0l
    replace mx0 : MBox w5 (w2.heap.size) r0 k0 (.slice (some ⟨jx0, 0, none⟩) a.length a.length) := MBox.grows mx0 (by exact bel1 q5)
    have dx00 := mx0.c0; have dx01 := mx0.c1; have dx02 := mx0.c2; have dx0l := mx0.lt
    replace x1 : OwnB w5 (w2.heap.size + 1) (w3.heap.size) (.slice (some ⟨jx1, 0, none⟩) b.length b.length) b := OwnB.grows x1 (by exact bel1 q5)
    clear dx10 dx11 dx12 dx1l
    replace mx1 : MBox w5 (w3.heap.size) r1 k1 (.slice (some ⟨jx1, 0, none⟩) b.length b.length) := MBox.grows mx1 (by exact bel1 q5)
    have dx10 := mx1.c0; have dx11 := mx1.c1; have dx12 := mx1.c2; have dx1l := mx1.lt
    replace g_0 : OwnB w5 (w3.heap.size + 1) (w4.heap.size) (.slice Avg_0 rl.length cvg_0) rl := OwnB.grows g_0 (by exact bel1 q5)
    have sw5q5 := Below.size q5; (try simp at sw5q5)
    replace HG : Grows w w5 := by exact bel2 q5 HG
    go_wp2_with fail
    go_region_held3 (fun W => W.cell? ⟨w2.heap.size, 0, none⟩ = some (.int .i64 r0) ∧ W.cell? ⟨w2.heap.size, 1, none⟩ = some (.int .i64 k0) ∧ W.cell? ⟨w2.heap.size, 2, none⟩ = some (.slice (some ⟨jx0, 0, none⟩) a.length a.length) ∧ W.cell? ⟨w.heap.size, 0, none⟩ = some (.int .i64 r0) ∧ W.cell? ⟨w.heap.size, 1, none⟩ = some (.int .i64 k0) ∧ W.cell? ⟨w.heap.size, 2, none⟩ = some (.slice A0 a.length c0)) ((refine two_boxes mx0 mb0 ?_; first | exact bel2 q7 q6 | exact bel1 q6 | exact bel0)) (first | (go_at_call 17; refine (toMatrix_c r0 k0 A0 a c0 _ (by exact Rd.grows ra0.rd (by exact bel0)) hl0).mono ?_; rintro e w6 ⟨jt0, rfl, ot0, q6⟩) | (go_at_call 21; refine (eqMatrix_yes _ _ _ _ _ _ _ _ (by exact Rd.grows x0.rd (by exact bel1 q6)) (by exact ot0.rd) (by omega)).mono ?_; rintro e w7 ⟨rfl, q7⟩))
    clear ot0
    replace ra0 : RdB w7 (y1.heap.size) A0 a := RdB.grows ra0 (by exact bel2 q7 q6)
    replace ra1 : RdB w7 (y1.heap.size) A1 b := RdB.grows ra1 (by exact bel2 q7 q6)
    clear b00 b01 b02 b0l
    replace mb0 : MBox w7 (w.heap.size) r0 k0 (.slice A0 a.length c0) := MBox.grows mb0 (by exact bel2 q7 q6)
    have b00 := mb0.c0; have b01 := mb0.c1; have b02 := mb0.c2; have b0l := mb0.lt
    clear b10 b11 b12 b1l
    replace mb1 : MBox w7 (w.heap.size + 1) r1 k1 (.slice A1 b.length c1) := MBox.grows mb1 (by exact bel2 q7 q6)
    have b10 := mb1.c0; have b11 := mb1.c1; have b12 := mb1.c2; have b1l := mb1.lt
    replace w_0 : OwnB w7 (y1.heap.size) (w1.heap.size) (.slice Avw_0 rl.length cvw_0) rl := OwnB.grows w_0 (by exact bel2 q7 q6)
    replace x0 : OwnB w7 (w1.heap.size) (w2.heap.size) (.slice (some ⟨jx0, 0, none⟩) a.length a.length) a := OwnB.grows x0 (by exact bel2 q7 q6)
    clear dx00 dx01 dx02 dx0l
    replace mx0 : MBox w7 (w2.heap.size) r0 k0 (.slice (some ⟨jx0, 0, none⟩) a.length a.length) := MBox.grows mx0 (by exact bel2 q7 q6)
    have dx00 := mx0.c0; have dx01 := mx0.c1; have dx02 := mx0.c2; have dx0l := mx0.lt
    replace x1 : OwnB w7 (w2.heap.size + 1) (w3.heap.size) (.slice (some ⟨jx1, 0, none⟩) b.length b.length) b := OwnB.grows x1 (by exact bel2 q7 q6)
    clear dx10 dx11 dx12 dx1l
    replace mx1 : MBox w7 (w3.heap.size) r1 k1 (.slice (some ⟨jx1, 0, none⟩) b.length b.length) := MBox.grows mx1 (by exact bel2 q7 q6)
    have dx10 := mx1.c0; have dx11 := mx1.c1; have dx12 := mx1.c2; have dx1l := mx1.lt
    replace g_0 : OwnB w7 (w3.heap.size + 1) (w4.heap.size) (.slice Avg_0 rl.length cvg_0) rl := OwnB.grows g_0 (by exact bel2 q7 q6)
    have sw7q6 := Below.size q6; (try simp at sw7q6)
    have sw7q7 := Below.size q7; (try simp at sw7q7)
    replace HG : Grows w w7 := by exact bel3 q7 q6 HG
    go_wp2_with fail
    go_region_held3 (fun W => W.cell? ⟨w3.heap.size, 0, none⟩ = some (.int .i64 r1) ∧ W.cell? ⟨w3.heap.size, 1, none⟩ = some (.int .i64 k1) ∧ W.cell? ⟨w3.heap.size, 2, none⟩ = some (.slice (some ⟨jx1, 0, none⟩) b.length b.length) ∧ W.cell? ⟨w.heap.size + 1, 0, none⟩ = some (.int .i64 r1) ∧ W.cell? ⟨w.heap.size + 1, 1, none⟩ = some (.int .i64 k1) ∧ W.cell? ⟨w.heap.size + 1, 2, none⟩ = some (.slice A1 b.length c1)) ((refine two_boxes mx1 mb1 ?_; first | exact bel2 q9 q8 | exact bel1 q8 | exact bel0)) (first | (go_at_call 17; refine (toMatrix_c r1 k1 A1 b c1 _ (by exact Rd.grows ra1.rd (by exact bel0)) hl1).mono ?_; rintro e w8 ⟨jt1, rfl, ot1, q8⟩) | (go_at_call 21; refine (eqMatrix_yes _ _ _ _ _ _ _ _ (by exact Rd.grows x1.rd (by exact bel1 q8)) (by exact ot1.rd) (by omega)).mono ?_; rintro e w9 ⟨rfl, q9⟩))
    clear ot1
    replace ra0 : RdB w9 (y1.heap.size) A0 a := RdB.grows ra0 (by exact bel2 q9 q8)
    replace ra1 : RdB w9 (y1.heap.size) A1 b := RdB.grows ra1 (by exact bel2 q9 q8)
    clear b00 b01 b02 b0l
    replace mb0 : MBox w9 (w.heap.size) r0 k0 (.slice A0 a.length c0) := MBox.grows mb0 (by exact bel2 q9 q8)
    have b00 := mb0.c0; have b01 := mb0.c1; have b02 := mb0.c2; have b0l := mb0.lt
    clear b10 b11 b12 b1l
    replace mb1 : MBox w9 (w.heap.size + 1) r1 k1 (.slice A1 b.length c1) := MBox.grows mb1 (by exact bel2 q9 q8)
    have b10 := mb1.c0; have b11 := mb1.c1; have b12 := mb1.c2; have b1l := mb1.lt
    replace w_0 : OwnB w9 (y1.heap.size) (w1.heap.size) (.slice Avw_0 rl.length cvw_0) rl := OwnB.grows w_0 (by exact bel2 q9 q8)
    replace x0 : OwnB w9 (w1.heap.size) (w2.heap.size) (.slice (some ⟨jx0, 0, none⟩) a.length a.length) a := OwnB.grows x0 (by exact bel2 q9 q8)
    clear dx00 dx01 dx02 dx0l
    replace mx0 : MBox w9 (w2.heap.size) r0 k0 (.slice (some ⟨jx0, 0, none⟩) a.length a.length) := MBox.grows mx0 (by exact bel2 q9 q8)
    have dx00 := mx0.c0; have dx01 := mx0.c1; have dx02 := mx0.c2; have dx0l := mx0.lt
    replace x1 : OwnB w9 (w2.heap.size + 1) (w3.heap.size) (.slice (some ⟨jx1, 0, none⟩) b.length b.length) b := OwnB.grows x1 (by exact bel2 q9 q8)
    clear dx10 dx11 dx12 dx1l
    replace mx1 : MBox w9 (w3.heap.size) r1 k1 (.slice (some ⟨jx1, 0, none⟩) b.length b.length) := MBox.grows mx1 (by exact bel2 q9 q8)
    have dx10 := mx1.c0; have dx11 := mx1.c1; have dx12 := mx1.c2; have dx1l := mx1.lt
    replace g_0 : OwnB w9 (w3.heap.size + 1) (w4.heap.size) (.slice Avg_0 rl.length cvg_0) rl := OwnB.grows g_0 (by exact bel2 q9 q8)
    have sw9q8 := Below.size q8; (try simp at sw9q8)
    have sw9q9 := Below.size q9; (try simp at sw9q9)
    replace HG : Grows w w9 := by exact bel3 q9 q8 HG
    go_wp2_with fail
    refine (markMatrix_c (w1.heap.size) _ _ _ _ _ _ _ x0.own (by omega) (by omega) (by omega)).mono ?_; rintro e w10 ⟨rfl, ox0, q10⟩
    replace ra0 : RdB w10 (y1.heap.size) A0 a := RdB.mark ra0 x0 q10 (by omega)
    replace ra1 : RdB w10 (y1.heap.size) A1 b := RdB.mark ra1 x0 q10 (by omega)
    clear b00 b01 b02 b0l
    replace mb0 : MBox w10 (w.heap.size) r0 k0 (.slice A0 a.length c0) := MBox.mark mb0 x0 q10 (by omega)
    have b00 := mb0.c0; have b01 := mb0.c1; have b02 := mb0.c2; have b0l := mb0.lt
    clear b10 b11 b12 b1l
    replace mb1 : MBox w10 (w.heap.size + 1) r1 k1 (.slice A1 b.length c1) := MBox.mark mb1 x0 q10 (by omega)
    have b10 := mb1.c0; have b11 := mb1.c1; have b12 := mb1.c2; have b1l := mb1.lt
    replace w_0 : OwnB w10 (y1.heap.size) (w1.heap.size) (.slice Avw_0 rl.length cvw_0) rl := by first | exact OwnB.mark_lo w_0 x0 q10 (by omega) | exact OwnB.mark_hi w_0 x0 q10 (by omega)
    clear dx00 dx01 dx02 dx0l
    replace mx0 : MBox w10 (w2.heap.size) r0 k0 (.slice (some ⟨jx0, 0, none⟩) a.length a.length) := MBox.mark mx0 x0 q10 (by omega)
    have dx00 := mx0.c0; have dx01 := mx0.c1; have dx02 := mx0.c2; have dx0l := mx0.lt
    replace x1 : OwnB w10 (w2.heap.size + 1) (w3.heap.size) (.slice (some ⟨jx1, 0, none⟩) b.length b.length) b := by first | exact OwnB.mark_lo x1 x0 q10 (by omega) | exact OwnB.mark_hi x1 x0 q10 (by omega)
    clear dx10 dx11 dx12 dx1l
    replace mx1 : MBox w10 (w3.heap.size) r1 k1 (.slice (some ⟨jx1, 0, none⟩) b.length b.length) := MBox.mark mx1 x0 q10 (by omega)
    have dx10 := mx1.c0; have dx11 := mx1.c1; have dx12 := mx1.c2; have dx1l := mx1.lt
    replace g_0 : OwnB w10 (w3.heap.size + 1) (w4.heap.size) (.slice Avg_0 rl.length cvg_0) rl := by first | exact OwnB.mark_lo g_0 x0 q10 (by omega) | exact OwnB.mark_hi g_0 x0 q10 (by omega)
    have sw10 := World.grownBy.size q10
    replace HG : Grows w w10 := below_mark HG x0 q10 (by omega) (Below.size HG)
    have hhx0 : OwnB w10 (w1.heap.size) (w2.heap.size) (.slice (some ⟨jx0, 0, none⟩) a.length a.length) (run (1) a.length) := ⟨ox0, x0.2⟩
    clear ox0 x0
    have x0 := hhx0
    clear hhx0
    go_wp2_with fail
    refine (markMatrix_c (w2.heap.size + 1) _ _ _ _ _ _ _ x1.own (by omega) (by omega) (by omega)).mono ?_; rintro e w11 ⟨rfl, ox1, q11⟩
    replace ra0 : RdB w11 (y1.heap.size) A0 a := RdB.mark ra0 x1 q11 (by omega)
    replace ra1 : RdB w11 (y1.heap.size) A1 b := RdB.mark ra1 x1 q11 (by omega)
    clear b00 b01 b02 b0l
    replace mb0 : MBox w11 (w.heap.size) r0 k0 (.slice A0 a.length c0) := MBox.mark mb0 x1 q11 (by omega)
    have b00 := mb0.c0; have b01 := mb0.c1; have b02 := mb0.c2; have b0l := mb0.lt
    clear b10 b11 b12 b1l
    replace mb1 : MBox w11 (w.heap.size + 1) r1 k1 (.slice A1 b.length c1) := MBox.mark mb1 x1 q11 (by omega)
    have b10 := mb1.c0; have b11 := mb1.c1; have b12 := mb1.c2; have b1l := mb1.lt
    replace w_0 : OwnB w11 (y1.heap.size) (w1.heap.size) (.slice Avw_0 rl.length cvw_0) rl := by first | exact OwnB.mark_lo w_0 x1 q11 (by omega) | exact OwnB.mark_hi w_0 x1 q11 (by omega)
    replace x0 : OwnB w11 (w1.heap.size) (w2.heap.size) (.slice (some ⟨jx0, 0, none⟩) a.length a.length) (run (1) a.length) := by first | exact OwnB.mark_lo x0 x1 q11 (by omega) | exact OwnB.mark_hi x0 x1 q11 (by omega)
    clear dx00 dx01 dx02 dx0l
    replace mx0 : MBox w11 (w2.heap.size) r0 k0 (.slice (some ⟨jx0, 0, none⟩) a.length a.length) := MBox.mark mx0 x1 q11 (by omega)
    have dx00 := mx0.c0; have dx01 := mx0.c1; have dx02 := mx0.c2; have dx0l := mx0.lt
    clear dx10 dx11 dx12 dx1l
    replace mx1 : MBox w11 (w3.heap.size) r1 k1 (.slice (some ⟨jx1, 0, none⟩) b.length b.length) := MBox.mark mx1 x1 q11 (by omega)
    have dx10 := mx1.c0; have dx11 := mx1.c1; have dx12 := mx1.c2; have dx1l := mx1.lt
    replace g_0 : OwnB w11 (w3.heap.size + 1) (w4.heap.size) (.slice Avg_0 rl.length cvg_0) rl := by first | exact OwnB.mark_lo g_0 x1 q11 (by omega) | exact OwnB.mark_hi g_0 x1 q11 (by omega)
    have sw11 := World.grownBy.size q11
    replace HG : Grows w w11 := below_mark HG x1 q11 (by omega) (Below.size HG)
    have hhx1 : OwnB w11 (w2.heap.size + 1) (w3.heap.size) (.slice (some ⟨jx1, 0, none⟩) b.length b.length) (run (1 + (a.length : Int)) b.length) := ⟨ox1, x1.2⟩
    clear ox1 x1
    have x1 := hhx1
    clear hhx1
    go_wp2_with fail
    refine (eqIntS_yes _ _ _ _ _ _ (by exact Rd.grows g_0.rd (by exact bel0)) (by exact Rd.grows w_0.rd (by exact bel0)) (by omega)).mono ?_; rintro e w12 ⟨rfl, q12⟩
    replace ra0 : RdB w12 (y1.heap.size) A0 a := RdB.grows ra0 (by exact bel1 q12)
    replace ra1 : RdB w12 (y1.heap.size) A1 b := RdB.grows ra1 (by exact bel1 q12)
    clear b00 b01 b02 b0l
    replace mb0 : MBox w12 (w.heap.size) r0 k0 (.slice A0 a.length c0) := MBox.grows mb0 (by exact bel1 q12)
    have b00 := mb0.c0; have b01 := mb0.c1; have b02 := mb0.c2; have b0l := mb0.lt
    clear b10 b11 b12 b1l
    replace mb1 : MBox w12 (w.heap.size + 1) r1 k1 (.slice A1 b.length c1) := MBox.grows mb1 (by exact bel1 q12)
    have b10 := mb1.c0; have b11 := mb1.c1; have b12 := mb1.c2; have b1l := mb1.lt
    replace w_0 : OwnB w12 (y1.heap.size) (w1.heap.size) (.slice Avw_0 rl.length cvw_0) rl := OwnB.grows w_0 (by exact bel1 q12)
    replace x0 : OwnB w12 (w1.heap.size) (w2.heap.size) (.slice (some ⟨jx0, 0, none⟩) a.length a.length) (run (1) a.length) := OwnB.grows x0 (by exact bel1 q12)
    clear dx00 dx01 dx02 dx0l
    replace mx0 : MBox w12 (w2.heap.size) r0 k0 (.slice (some ⟨jx0, 0, none⟩) a.length a.length) := MBox.grows mx0 (by exact bel1 q12)
    have dx00 := mx0.c0; have dx01 := mx0.c1; have dx02 := mx0.c2; have dx0l := mx0.lt
    replace x1 : OwnB w12 (w2.heap.size + 1) (w3.heap.size) (.slice (some ⟨jx1, 0, none⟩) b.length b.length) (run (1 + (a.length : Int)) b.length) := OwnB.grows x1 (by exact bel1 q12)
    clear dx10 dx11 dx12 dx1l
    replace mx1 : MBox w12 (w3.heap.size) r1 k1 (.slice (some ⟨jx1, 0, none⟩) b.length b.length) := MBox.grows mx1 (by exact bel1 q12)
    have dx10 := mx1.c0; have dx11 := mx1.c1; have dx12 := mx1.c2; have dx1l := mx1.lt
    replace g_0 : OwnB w12 (w3.heap.size + 1) (w4.heap.size) (.slice Avg_0 rl.length cvg_0) rl := OwnB.grows g_0 (by exact bel1 q12)
    have sw12q12 := Below.size q12; (try simp at sw12q12)
    replace HG : Grows w w12 := by exact bel2 q12 HG
    go_wp2_with fail
    refine (markIntS_c (w3.heap.size + 1) _ _ _ _ _ g_0.own (by omega) (by omega) (by omega)).mono ?_; rintro e w13 ⟨rfl, og_0, q13⟩
    replace ra0 : RdB w13 (y1.heap.size) A0 a := RdB.mark ra0 g_0 q13 (by omega)
    replace ra1 : RdB w13 (y1.heap.size) A1 b := RdB.mark ra1 g_0 q13 (by omega)
    clear b00 b01 b02 b0l
    replace mb0 : MBox w13 (w.heap.size) r0 k0 (.slice A0 a.length c0) := MBox.mark mb0 g_0 q13 (by omega)
    have b00 := mb0.c0; have b01 := mb0.c1; have b02 := mb0.c2; have b0l := mb0.lt
    clear b10 b11 b12 b1l
    replace mb1 : MBox w13 (w.heap.size + 1) r1 k1 (.slice A1 b.length c1) := MBox.mark mb1 g_0 q13 (by omega)
    have b10 := mb1.c0; have b11 := mb1.c1; have b12 := mb1.c2; have b1l := mb1.lt
    replace w_0 : OwnB w13 (y1.heap.size) (w1.heap.size) (.slice Avw_0 rl.length cvw_0) rl := by first | exact OwnB.mark_lo w_0 g_0 q13 (by omega) | exact OwnB.mark_hi w_0 g_0 q13 (by omega)
    replace x0 : OwnB w13 (w1.heap.size) (w2.heap.size) (.slice (some ⟨jx0, 0, none⟩) a.length a.length) (run (1) a.length) := by first | exact OwnB.mark_lo x0 g_0 q13 (by omega) | exact OwnB.mark_hi x0 g_0 q13 (by omega)
    clear dx00 dx01 dx02 dx0l
    replace mx0 : MBox w13 (w2.heap.size) r0 k0 (.slice (some ⟨jx0, 0, none⟩) a.length a.length) := MBox.mark mx0 g_0 q13 (by omega)
    have dx00 := mx0.c0; have dx01 := mx0.c1; have dx02 := mx0.c2; have dx0l := mx0.lt
    replace x1 : OwnB w13 (w2.heap.size + 1) (w3.heap.size) (.slice (some ⟨jx1, 0, none⟩) b.length b.length) (run (1 + (a.length : Int)) b.length) := by first | exact OwnB.mark_lo x1 g_0 q13 (by omega) | exact OwnB.mark_hi x1 g_0 q13 (by omega)
    clear dx10 dx11 dx12 dx1l
    replace mx1 : MBox w13 (w3.heap.size) r1 k1 (.slice (some ⟨jx1, 0, none⟩) b.length b.length) := MBox.mark mx1 g_0 q13 (by omega)
    have dx10 := mx1.c0; have dx11 := mx1.c1; have dx12 := mx1.c2; have dx1l := mx1.lt
    have sw13 := World.grownBy.size q13
    replace HG : Grows w w13 := below_mark HG g_0 q13 (by omega) (Below.size HG)
    have hhg_0 : OwnB w13 (w3.heap.size + 1) (w4.heap.size) (.slice Avg_0 rl.length cvg_0) (run (1) rl.length) := ⟨og_0, g_0.2⟩
    clear og_0 g_0
    have g_0 := hhg_0
    clear hhg_0
    go_wp2_with fail
    refine (heldIntS_c _ _ _ _ _ (by exact Rd.grows g_0.rd (by exact bel0)) (by omega) (by omega) (by omega)).mono ?_; rintro e w14 ⟨rfl, q14⟩
    replace ra0 : RdB w14 (y1.heap.size) A0 a := RdB.grows ra0 (by exact bel1 q14)
    replace ra1 : RdB w14 (y1.heap.size) A1 b := RdB.grows ra1 (by exact bel1 q14)
    clear b00 b01 b02 b0l
    replace mb0 : MBox w14 (w.heap.size) r0 k0 (.slice A0 a.length c0) := MBox.grows mb0 (by exact bel1 q14)
    have b00 := mb0.c0; have b01 := mb0.c1; have b02 := mb0.c2; have b0l := mb0.lt
    clear b10 b11 b12 b1l
    replace mb1 : MBox w14 (w.heap.size + 1) r1 k1 (.slice A1 b.length c1) := MBox.grows mb1 (by exact bel1 q14)
    have b10 := mb1.c0; have b11 := mb1.c1; have b12 := mb1.c2; have b1l := mb1.lt
    replace w_0 : OwnB w14 (y1.heap.size) (w1.heap.size) (.slice Avw_0 rl.length cvw_0) rl := OwnB.grows w_0 (by exact bel1 q14)
    replace x0 : OwnB w14 (w1.heap.size) (w2.heap.size) (.slice (some ⟨jx0, 0, none⟩) a.length a.length) (run (1) a.length) := OwnB.grows x0 (by exact bel1 q14)
    clear dx00 dx01 dx02 dx0l
    replace mx0 : MBox w14 (w2.heap.size) r0 k0 (.slice (some ⟨jx0, 0, none⟩) a.length a.length) := MBox.grows mx0 (by exact bel1 q14)
    have dx00 := mx0.c0; have dx01 := mx0.c1; have dx02 := mx0.c2; have dx0l := mx0.lt
    replace x1 : OwnB w14 (w2.heap.size + 1) (w3.heap.size) (.slice (some ⟨jx1, 0, none⟩) b.length b.length) (run (1 + (a.length : Int)) b.length) := OwnB.grows x1 (by exact bel1 q14)
    clear dx10 dx11 dx12 dx1l
    replace mx1 : MBox w14 (w3.heap.size) r1 k1 (.slice (some ⟨jx1, 0, none⟩) b.length b.length) := MBox.grows mx1 (by exact bel1 q14)
    have dx10 := mx1.c0; have dx11 := mx1.c1; have dx12 := mx1.c2; have dx1l := mx1.lt
    replace g_0 : OwnB w14 (w3.heap.size + 1) (w4.heap.size) (.slice Avg_0 rl.length cvg_0) (run (1) rl.length) := OwnB.grows g_0 (by exact bel1 q14)
    have sw14q14 := Below.size q14; (try simp at sw14q14)
    replace HG : Grows w w14 := by exact bel2 q14 HG
    go_wp2_with fail
    go_upto_region 31 with fail
    go_cut [17, 18, 19] (fun s17 s18 s19 wx => ∃ Ar0 cr0, s17 = .slice Ar0 rl.length cr0 ∧ s18 = .int .i64 rv ∧ s19 = .bool ok ∧ OwnB wx (w14.heap.size) wx.heap.size (.slice Ar0 rl.length cr0) rl ∧ Grows w14 wx)
    ·
      go_region_held3 (fun W => W.cell? ⟨w.heap.size, 0, none⟩ = some (.int .i64 r0) ∧ W.cell? ⟨w.heap.size, 1, none⟩ = some (.int .i64 k0) ∧ W.cell? ⟨w.heap.size, 2, none⟩ = some (.slice A0 a.length c0) ∧ W.cell? ⟨w.heap.size + 1, 0, none⟩ = some (.int .i64 r1) ∧ W.cell? ⟨w.heap.size + 1, 1, none⟩ = some (.int .i64 k1) ∧ W.cell? ⟨w.heap.size + 1, 2, none⟩ = some (.slice A1 b.length c1)) ((refine two_boxes mb0 mb1 ?_; first | exact bel3 p3 p2 p1 | exact bel2 p2 p1 | exact bel1 p1 | exact bel0))
        (first
         | (go_at_call 17; with_reducible refine (toMatrix_c r0 k0 A0 a c0 _ (by exact Rd.grows ra0.rd (by exact bel0)) hl0).mono ?_; rintro e t1 ⟨jt1, rfl, ot1, p1⟩; have zt1 := Below.size p1; (try simp at zt1))
         | (go_at_call 17; with_reducible refine (toMatrix_c r1 k1 A1 b c1 _ (by exact Rd.grows ra1.rd (by exact bel1 p1)) hl1).mono ?_; rintro e t2 ⟨jt2, rfl, ot2, p2⟩; have zt2 := Below.size p2; (try simp at zt2))
         | (go_at_call 31; refine (HI'.out _ _ _ _ _ (by exact Rd.grows ot1.rd (by exact bel1 p2)) (by exact Rd.grows ot2.rd (by exact bel0)) (by omega) (by omega) (by omega) (by omega)).mono ?_; rintro e t3 ⟨v0, rfl, ov0, p3⟩; obtain ⟨Av0, cv0, rfl, _, _⟩ := ov0.val; have zt3 := Below.size p3; (try simp at zt3)))
      all_goals
        go_wp2_with fail
        go_meet
        exact ⟨_, _, rfl, rfl, rfl, OwnB.of (by (have hb_ := fun k hk => World.ownsRow.lt ov0 k hk; have ho_ := Own.less ov0 (show w14.heap.size ≤ _ by (try simp); omega); (repeat' (first | with_reducible exact ho_ | with_reducible refine Own.alloc ?_ _ | with_reducible refine Own.drew ?_ | with_reducible refine Own.far ?_ ?_ _)); all_goals first | (intro k hk; have := hb_ k hk; (try simp at this); (try simp); omega) | omega | (simp; done) | (simp; omega))), (by exact bel3 p3 p2 p1)⟩
    obtain ⟨w15, rfl⟩ : ∃ x : World, x = wc := ⟨_, rfl⟩
    obtain ⟨Avh_0, cvh_0, rfl, rfl, rfl, h_0, q15⟩ := hcut
    replace ra0 : RdB w15 (y1.heap.size) A0 a := RdB.grows ra0 (by exact bel1 q15)
    replace ra1 : RdB w15 (y1.heap.size) A1 b := RdB.grows ra1 (by exact bel1 q15)
    clear b00 b01 b02 b0l
    replace mb0 : MBox w15 (w.heap.size) r0 k0 (.slice A0 a.length c0) := MBox.grows mb0 (by exact bel1 q15)
    have b00 := mb0.c0; have b01 := mb0.c1; have b02 := mb0.c2; have b0l := mb0.lt
    clear b10 b11 b12 b1l
    replace mb1 : MBox w15 (w.heap.size + 1) r1 k1 (.slice A1 b.length c1) := MBox.grows mb1 (by exact bel1 q15)
    have b10 := mb1.c0; have b11 := mb1.c1; have b12 := mb1.c2; have b1l := mb1.lt
    replace w_0 : OwnB w15 (y1.heap.size) (w1.heap.size) (.slice Avw_0 rl.length cvw_0) rl := OwnB.grows w_0 (by exact bel1 q15)
    replace x0 : OwnB w15 (w1.heap.size) (w2.heap.size) (.slice (some ⟨jx0, 0, none⟩) a.length a.length) (run (1) a.length) := OwnB.grows x0 (by exact bel1 q15)
    clear dx00 dx01 dx02 dx0l
    replace mx0 : MBox w15 (w2.heap.size) r0 k0 (.slice (some ⟨jx0, 0, none⟩) a.length a.length) := MBox.grows mx0 (by exact bel1 q15)
    have dx00 := mx0.c0; have dx01 := mx0.c1; have dx02 := mx0.c2; have dx0l := mx0.lt
    replace x1 : OwnB w15 (w2.heap.size + 1) (w3.heap.size) (.slice (some ⟨jx1, 0, none⟩) b.length b.length) (run (1 + (a.length : Int)) b.length) := OwnB.grows x1 (by exact bel1 q15)
    clear dx10 dx11 dx12 dx1l
    replace mx1 : MBox w15 (w3.heap.size) r1 k1 (.slice (some ⟨jx1, 0, none⟩) b.length b.length) := MBox.grows mx1 (by exact bel1 q15)
    have dx10 := mx1.c0; have dx11 := mx1.c1; have dx12 := mx1.c2; have dx1l := mx1.lt
    replace g_0 : OwnB w15 (w3.heap.size + 1) (w4.heap.size) (.slice Avg_0 rl.length cvg_0) (run (1) rl.length) := OwnB.grows g_0 (by exact bel1 q15)
    have sw15q15 := Below.size q15; (try simp at sw15q15)
    replace HG : Grows w w15 := by exact bel2 q15 HG
    go_wp2_with fail
    refine (eqIntS_yes _ _ _ _ _ _ (by exact Rd.grows h_0.rd (by exact bel0)) (by exact Rd.grows w_0.rd (by exact bel0)) (by omega)).mono ?_; rintro e w16 ⟨rfl, q16⟩
    replace ra0 : RdB w16 (y1.heap.size) A0 a := RdB.grows ra0 (by exact bel1 q16)
    replace ra1 : RdB w16 (y1.heap.size) A1 b := RdB.grows ra1 (by exact bel1 q16)
    clear b00 b01 b02 b0l
    replace mb0 : MBox w16 (w.heap.size) r0 k0 (.slice A0 a.length c0) := MBox.grows mb0 (by exact bel1 q16)
    have b00 := mb0.c0; have b01 := mb0.c1; have b02 := mb0.c2; have b0l := mb0.lt
    clear b10 b11 b12 b1l
    replace mb1 : MBox w16 (w.heap.size + 1) r1 k1 (.slice A1 b.length c1) := MBox.grows mb1 (by exact bel1 q16)
    have b10 := mb1.c0; have b11 := mb1.c1; have b12 := mb1.c2; have b1l := mb1.lt
    replace w_0 : OwnB w16 (y1.heap.size) (w1.heap.size) (.slice Avw_0 rl.length cvw_0) rl := OwnB.grows w_0 (by exact bel1 q16)
    replace x0 : OwnB w16 (w1.heap.size) (w2.heap.size) (.slice (some ⟨jx0, 0, none⟩) a.length a.length) (run (1) a.length) := OwnB.grows x0 (by exact bel1 q16)
    clear dx00 dx01 dx02 dx0l
    replace mx0 : MBox w16 (w2.heap.size) r0 k0 (.slice (some ⟨jx0, 0, none⟩) a.length a.length) := MBox.grows mx0 (by exact bel1 q16)
    have dx00 := mx0.c0; have dx01 := mx0.c1; have dx02 := mx0.c2; have dx0l := mx0.lt
    replace x1 : OwnB w16 (w2.heap.size + 1) (w3.heap.size) (.slice (some ⟨jx1, 0, none⟩) b.length b.length) (run (1 + (a.length : Int)) b.length) := OwnB.grows x1 (by exact bel1 q16)
    clear dx10 dx11 dx12 dx1l
    replace mx1 : MBox w16 (w3.heap.size) r1 k1 (.slice (some ⟨jx1, 0, none⟩) b.length b.length) := MBox.grows mx1 (by exact bel1 q16)
    have dx10 := mx1.c0; have dx11 := mx1.c1; have dx12 := mx1.c2; have dx1l := mx1.lt
    replace g_0 : OwnB w16 (w3.heap.size + 1) (w4.heap.size) (.slice Avg_0 rl.length cvg_0) (run (1) rl.length) := OwnB.grows g_0 (by exact bel1 q16)
    replace h_0 : OwnB w16 (w14.heap.size) (w15.heap.size) (.slice Avh_0 rl.length cvh_0) rl := OwnB.grows h_0 (by exact bel1 q16)
    have sw16q16 := Below.size q16; (try simp at sw16q16)
    replace HG : Grows w w16 := by exact bel2 q16 HG
    go_wp2_with fail
    refine (heldIntS_c _ _ _ _ _ (by exact Rd.grows g_0.rd (by exact bel0)) (by omega) (by omega) (by omega)).mono ?_; rintro e w17 ⟨rfl, q17⟩
    replace ra0 : RdB w17 (y1.heap.size) A0 a := RdB.grows ra0 (by exact bel1 q17)
    replace ra1 : RdB w17 (y1.heap.size) A1 b := RdB.grows ra1 (by exact bel1 q17)
    clear b00 b01 b02 b0l
    replace mb0 : MBox w17 (w.heap.size) r0 k0 (.slice A0 a.length c0) := MBox.grows mb0 (by exact bel1 q17)
    have b00 := mb0.c0; have b01 := mb0.c1; have b02 := mb0.c2; have b0l := mb0.lt
    clear b10 b11 b12 b1l
    replace mb1 : MBox w17 (w.heap.size + 1) r1 k1 (.slice A1 b.length c1) := MBox.grows mb1 (by exact bel1 q17)
    have b10 := mb1.c0; have b11 := mb1.c1; have b12 := mb1.c2; have b1l := mb1.lt
    replace w_0 : OwnB w17 (y1.heap.size) (w1.heap.size) (.slice Avw_0 rl.length cvw_0) rl := OwnB.grows w_0 (by exact bel1 q17)
    replace x0 : OwnB w17 (w1.heap.size) (w2.heap.size) (.slice (some ⟨jx0, 0, none⟩) a.length a.length) (run (1) a.length) := OwnB.grows x0 (by exact bel1 q17)
    clear dx00 dx01 dx02 dx0l
    replace mx0 : MBox w17 (w2.heap.size) r0 k0 (.slice (some ⟨jx0, 0, none⟩) a.length a.length) := MBox.grows mx0 (by exact bel1 q17)
    have dx00 := mx0.c0; have dx01 := mx0.c1; have dx02 := mx0.c2; have dx0l := mx0.lt
    replace x1 : OwnB w17 (w2.heap.size + 1) (w3.heap.size) (.slice (some ⟨jx1, 0, none⟩) b.length b.length) (run (1 + (a.length : Int)) b.length) := OwnB.grows x1 (by exact bel1 q17)
    clear dx10 dx11 dx12 dx1l
    replace mx1 : MBox w17 (w3.heap.size) r1 k1 (.slice (some ⟨jx1, 0, none⟩) b.length b.length) := MBox.grows mx1 (by exact bel1 q17)
    have dx10 := mx1.c0; have dx11 := mx1.c1; have dx12 := mx1.c2; have dx1l := mx1.lt
    replace g_0 : OwnB w17 (w3.heap.size + 1) (w4.heap.size) (.slice Avg_0 rl.length cvg_0) (run (1) rl.length) := OwnB.grows g_0 (by exact bel1 q17)
    replace h_0 : OwnB w17 (w14.heap.size) (w15.heap.size) (.slice Avh_0 rl.length cvh_0) rl := OwnB.grows h_0 (by exact bel1 q17)
    have sw17q17 := Below.size q17; (try simp at sw17q17)
    replace HG : Grows w w17 := by exact bel2 q17 HG
    go_wp2_with fail
    go_ret
    exact ⟨rfl, HG⟩
end Go.Proofs.Ytpgoefdeodoacaa


namespace Go.Proofs.Ytpgoefdeodoacaa
set_option linter.unusedSimpArgs false
set_option linter.unusedVariables false
open Go.ChangeShapes Go.WideShapes Go.ChangeAt Go.RowKit Go.Joins
set_option linter.unusedVariables false

set_option maxRecDepth 100000 in
theorem fnExactQuotientOf_lifted (os : Os) (started : os.Started) (H : Type) (enc : TypeId × Value → H) :
    ReturnsInHanded {} Try.checked os 6 .any (Rows.fnExactQuotientOfSpec.pre6 enc Try.prog Try.f6 Rows.fnExactQuotientOfRow.domain false) (Rows.fnExactQuotientOfSpec.post enc Try.prog Try.f6 false true false false) := by
  refine returnsInHanded_of_change (C := Try.checked) own started (by kernel_rfl) Try.func6
    (ChangeSpec.witness6 (enc := enc) (C := Try.checked) false ⟨#[], #[.agg #[.int .i64 0, .int .i64 0, .slice none 0 0], .agg #[.int .i64 0, .int .i64 0, .slice none 0 0]], []⟩ 8 (by kernel_rfl) (by kernel_rfl) (by kernel_rfl) (by kernel_rfl)) ?_
  intro W base args ds gs before hval0 hW hcnd _
  have hval : ∀ (j : Nat) t v, Try.f6.params[j]? = some t → args[j]? = some v → Value.okWide Try.prog W .any base t v := hval0
  have hW' := hW
  obtain ⟨p, q, hA0, hV, rfl, hfz, hnd⟩ := hW
  have hA : DataW.TrodAll enc Try.prog W 0 (fun _ => true) true Try.f6.params.toList args.toList ds p := hA0
  rw [Try.params6] at hA hval
  obtain ⟨v0, vs0, d0, ds0, p0, q0, hargs, rfl, rfl, h0, r0⟩ := trodAll_cons hA
  obtain ⟨v1, vs1, d1, ds1, p1, q1, rfl, rfl, rfl, h1, r1⟩ := trodAll_cons r0
  obtain ⟨rfl, rfl, rfl⟩ := trodAll_nil r1
  obtain rfl : args = #[v0, v1] := by cases args; simp_all
  obtain ⟨rfl, rfl⟩ := trodVars_none hV
  have k0 := h0
  have lt0 : ∀ x ∈ p0, x.block < W.heap.size := by obtain ⟨m, hm⟩ := k0; exact DataW.trod_lt m _ _ _ hm
  obtain ⟨u00, u10, u20, y00, y10, y20, m0, rfl, rfl, rfl, t00, t10, t20⟩ := open_agg3 Try.underlying24 (by kernel_rfl) (by kernel_rfl) (hval 0 24 v0 rfl rfl) h0
  obtain ⟨x0, e00, _, wx0⟩ := DataW.trod_int Try.underlying3 t00
  obtain ⟨z0, e10, _, wz0⟩ := DataW.trod_int Try.underlying3 t10
  obtain ⟨A0, l0, c0, e20, ir0⟩ := open_row t20
  simp only [List.cons.injEq, and_true] at e00 e10
  subst e00 e10 e20
  have k1 := h1
  have lt1 : ∀ x ∈ p1, x.block < W.heap.size := by obtain ⟨m, hm⟩ := k1; exact DataW.trod_lt m _ _ _ hm
  obtain ⟨u01, u11, u21, y01, y11, y21, m1, rfl, rfl, rfl, t01, t11, t21⟩ := open_agg3 Try.underlying24 (by kernel_rfl) (by kernel_rfl) (hval 1 24 v1 rfl rfl) h1
  obtain ⟨x1, e01, _, wx1⟩ := DataW.trod_int Try.underlying3 t01
  obtain ⟨z1, e11, _, wz1⟩ := DataW.trod_int Try.underlying3 t11
  obtain ⟨A1, l1, c1, e21, ir1⟩ := open_row t21
  simp only [List.cons.injEq, and_true] at e01 e11
  subst e01 e11 e21
  clear hA0 hval0
  refine (lawQuo_c x0 z0 A0 l0 c0 x1 z1 A1 l1 c1 W wx0 wz0 ir0 wx1 wz1 ir1).mono fun e W' ⟨he, bel⟩ => ?_
  subst he
  exact ⟨_, rfl, _, _, _, [], _, [], hW', trodAll_mk1 (shut_bool Try.underlying4 _), (trodAll_cons_mk (Below.trod laidOut (by kernel_rfl) (of_decide_eq_true (by kernel_rfl)) k0 bel lt0) (trodAll_cons_mk (Below.trod laidOut (by kernel_rfl) (of_decide_eq_true (by kernel_rfl)) k1 bel lt1) trodAll_mk0)), rfl, bel.frame _, fun h => by cases h⟩

theorem fnExactQuotientOf_closed : joinedFacts Try.pinned.checked.prog 6 Try.f6 Rows.fnExactQuotientOfSpec Rows.fnExactQuotientOfRow = true := by
  unfold joinedFacts
  rw [fLaid, fRowed, fStops, fEnter, fLift, fMake]
  change _ = true
  kernel_rfl
/-- The statement. -/
theorem fnExactQuotientOf_holds : Rows.FnExactQuotientOfSaid :=
  OpenClaim.holds_of_wide 6 Try.f6 rfl rfl rfl rfl rfl rfl rfl ⟨rfl, rfl, rfl, rfl, rfl⟩ rfl rfl rfl rfl rfl (by kernel_rfl) Try.func6 fnExactQuotientOf_closed
    (of_decide_eq_true (by kernel_rfl)) (by unfold Func.isWrapper; first | (rw [if_pos (by decide +kernel)]; kernel_rfl) | (rw [if_neg (by decide +kernel)]; exact ⟨rfl, rfl⟩))
    (fun os started H enc _ => fnExactQuotientOf_lifted os started H enc)
end Go.Proofs.Ytpgoefdeodoacaa
