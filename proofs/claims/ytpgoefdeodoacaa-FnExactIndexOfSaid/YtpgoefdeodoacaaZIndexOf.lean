/- The row of FnExactIndexOf: proved for every input, no condition beyond those of the row. -/
import Derived.Test.YtpgoefdeodoacaaPkA
import Derived.Test.YtpgoefdeodoacaaQFacts
import Derived.Test.YtpgoefdeodoacaaQIdx

namespace Go.Proofs.Ytpgoefdeodoacaa
set_option linter.unusedSimpArgs false
set_option linter.unusedVariables false
open Go.RowKit
set_option linter.unusedVariables false
set_option maxHeartbeats 2000000 in
set_option maxRecDepth 10000 in
theorem lawIdx_c (r0 k0 : Int) (A0 : Option Addr) (a : List Int) (c0 : Nat) (r1 k1 : Int) (A1 : Option Addr) (b : List Int) (c1 : Nat) (w : World) (_wr0 : (Lit.int .i64 r0).wf = true) (_wk0 : (Lit.int .i64 k0).wf = true) (ir0 : InRow w A0 a c0) (_wr1 : (Lit.int .i64 r1).wf = true) (_wk1 : (Lit.int .i64 k1).wf = true) (ir1 : InRow w A1 b c1) :
    Calls Try.prog 4 #[.agg #[.int .i64 r0, .int .i64 k0, .slice A0 a.length c0], .agg #[.int .i64 r1, .int .i64 k1, .slice A1 b.length c1]] w fun e w' => e = .returned (.bool true) ∧ Grows w w' := by
  obtain ⟨rd0, hc0, hm0, _⟩ := ir0
  simp only [maxLen] at hm0
  obtain ⟨rd1, hc1, hm1, _⟩ := ir1
  simp only [maxLen] at hm1
  by_cases hs0 : (a.length : Int) ≤ 1048576
  rotate_left
  · go_enter Try.func4, Try.ntmps4
    go_wp2_with fail
    refine (szMatrix_no _ _ _ _ _ _ _ (by omega) (by omega) (by omega) (by omega)).mono ?_; rintro e y0 ⟨rfl, g0⟩
    have mb0 : MBox y0 (w.heap.size) r0 k0 (.slice A0 a.length c0) := by have := MBox.grows (MBox.mk_ w r0 k0 (.slice A0 a.length c0) 24) (w' := y0) (by exact bel1 g0); simpa using this
    have b00 := mb0.c0; have b01 := mb0.c1; have b02 := mb0.c2; have b0l := mb0.lt
    have mb1 : MBox y0 (w.heap.size + 1) r1 k1 (.slice A1 b.length c1) := by have := MBox.grows (MBox.mk_ (w.alloc (.cells #[.int .i64 r0, .int .i64 k0, .slice A0 a.length c0] 24)) r1 k1 (.slice A1 b.length c1) 24) (w' := y0) (by exact bel1 g0); simpa using this
    have b10 := mb1.c0; have b11 := mb1.c1; have b12 := mb1.c2; have b1l := mb1.lt
    go_wp2_with fail
    go_ret
    exact ⟨rfl, by exact bel1 g0⟩
  by_cases hs1 : (a.length : Int) + (b.length : Int) ≤ 1048576
  rotate_left
  · go_enter Try.func4, Try.ntmps4
    go_wp2_with fail
    refine (szMatrix_yes _ _ _ _ _ _ _ (by omega) (by omega) (by omega) (by omega)).mono ?_; rintro e y0 ⟨rfl, g0⟩
    have mb0 : MBox y0 (w.heap.size) r0 k0 (.slice A0 a.length c0) := by have := MBox.grows (MBox.mk_ w r0 k0 (.slice A0 a.length c0) 24) (w' := y0) (by exact bel1 g0); simpa using this
    have b00 := mb0.c0; have b01 := mb0.c1; have b02 := mb0.c2; have b0l := mb0.lt
    have mb1 : MBox y0 (w.heap.size + 1) r1 k1 (.slice A1 b.length c1) := by have := MBox.grows (MBox.mk_ (w.alloc (.cells #[.int .i64 r0, .int .i64 k0, .slice A0 a.length c0] 24)) r1 k1 (.slice A1 b.length c1) 24) (w' := y0) (by exact bel1 g0); simpa using this
    have b10 := mb1.c0; have b11 := mb1.c1; have b12 := mb1.c2; have b1l := mb1.lt
    go_wp2_with fail
    refine (szMatrix_no _ _ _ _ _ _ _ (by omega) (by omega) (by omega) (by omega)).mono ?_; rintro e y1 ⟨rfl, g1⟩
    replace mb0 : MBox y1 (w.heap.size) r0 k0 (.slice A0 a.length c0) := mb0.grows g1
    clear b00 b01 b02 b0l
    have b00 := mb0.c0; have b01 := mb0.c1; have b02 := mb0.c2; have b0l := mb0.lt
    replace mb1 : MBox y1 (w.heap.size + 1) r1 k1 (.slice A1 b.length c1) := mb1.grows g1
    clear b10 b11 b12 b1l
    have b10 := mb1.c0; have b11 := mb1.c1; have b12 := mb1.c2; have b1l := mb1.lt
    go_wp2_with fail
    go_ret
    exact ⟨rfl, by exact bel2 g1 g0⟩
  have hl0 : a.length ≤ 1048576 := by omega
  have hl1 : b.length ≤ 1048576 := by omega
  have HS := fun W A c B d (h0 : Rd W A a) (h1 : Rd W B b) (e0 : a.length ≤ c) (e1 : c ≤ 9223372036854775807) (e2 : b.length ≤ d) (e3 : d ≤ 9223372036854775807) => sIdx_c r0 k0 r1 k1 A B a b a.length b.length c d W rfl rfl e2 h0 h1 (by omega) (by omega)
  have HI := fun W A c B d (h0 : Rd W A a) (h1 : Rd W B b) (e0 : a.length ≤ c) (e1 : c ≤ 9223372036854775807) (e2 : b.length ≤ d) (e3 : d ≤ 9223372036854775807) => iIdx_c r0 k0 r1 k1 A B a b a.length b.length c d W rfl rfl e0 e1 e2 e3 h0 h1 (by omega) (by omega)
  generalize idxO ⟨r0, k0, a⟩ ⟨r1, k1, b⟩ = ro at *
  all_goals
    have HS' := Lib.hid HS
    have HI' := Lib.hid HI
    clear HS HI
    go_enter Try.func4, Try.ntmps4
    go_wp2_with fail
    refine (szMatrix_yes _ _ _ _ _ _ _ (by omega) (by omega) (by omega) (by omega)).mono ?_; rintro e y0 ⟨rfl, g0⟩
    have mb0 : MBox y0 (w.heap.size) r0 k0 (.slice A0 a.length c0) := by have := MBox.grows (MBox.mk_ w r0 k0 (.slice A0 a.length c0) 24) (w' := y0) (by exact bel1 g0); simpa using this
    have b00 := mb0.c0; have b01 := mb0.c1; have b02 := mb0.c2; have b0l := mb0.lt
    have mb1 : MBox y0 (w.heap.size + 1) r1 k1 (.slice A1 b.length c1) := by have := MBox.grows (MBox.mk_ (w.alloc (.cells #[.int .i64 r0, .int .i64 k0, .slice A0 a.length c0] 24)) r1 k1 (.slice A1 b.length c1) 24) (w' := y0) (by exact bel1 g0); simpa using this
    have b10 := mb1.c0; have b11 := mb1.c1; have b12 := mb1.c2; have b1l := mb1.lt
    go_wp2_with fail
    refine (szMatrix_yes _ _ _ _ _ _ _ (by omega) (by omega) (by omega) (by omega)).mono ?_; rintro e y1 ⟨rfl, g1⟩
    replace mb0 : MBox y1 (w.heap.size) r0 k0 (.slice A0 a.length c0) := mb0.grows g1
    clear b00 b01 b02 b0l
    have b00 := mb0.c0; have b01 := mb0.c1; have b02 := mb0.c2; have b0l := mb0.lt
    replace mb1 : MBox y1 (w.heap.size + 1) r1 k1 (.slice A1 b.length c1) := mb1.grows g1
    clear b10 b11 b12 b1l
    have b10 := mb1.c0; have b11 := mb1.c1; have b12 := mb1.c2; have b1l := mb1.lt
    go_wp2_with fail
    have ra0 : RdB y1 y1.heap.size A0 a := RdB.of (Rd.grows rd0 (by exact bel2 g1 g0))
    have ra1 : RdB y1 y1.heap.size A1 b := RdB.of (Rd.grows rd1 (by exact bel2 g1 g0))
    have HG : Grows w y1 := by exact bel2 g1 g0
    have sb0 := mb0.lt
    have sb1 := mb1.lt
    go_upto_region 8 with fail
    go_cut [6, 7] (fun s6 s7 wx => ∃ _u : Unit, s6 = .int .i64 (oI ro) ∧ s7 = .bool ro.isSome ∧ Grows y1 wx)
    ·
      go_region_held3 (fun W => W.cell? ⟨w.heap.size, 0, none⟩ = some (.int .i64 r0) ∧ W.cell? ⟨w.heap.size, 1, none⟩ = some (.int .i64 k0) ∧ W.cell? ⟨w.heap.size, 2, none⟩ = some (.slice A0 a.length c0) ∧ W.cell? ⟨w.heap.size + 1, 0, none⟩ = some (.int .i64 r1) ∧ W.cell? ⟨w.heap.size + 1, 1, none⟩ = some (.int .i64 k1) ∧ W.cell? ⟨w.heap.size + 1, 2, none⟩ = some (.slice A1 b.length c1)) ((refine two_boxes mb0 mb1 ?_; first | exact bel3 p3 p2 p1 | exact bel2 p2 p1 | exact bel1 p1 | exact bel0))
        (first
         | (go_at_call 17; with_reducible refine (toMatrix_c r0 k0 A0 a c0 _ (by exact Rd.grows ra0.rd (by exact bel0)) hl0).mono ?_; rintro e t1 ⟨jt1, rfl, ot1, p1⟩; have zt1 := Below.size p1; (try simp at zt1))
         | (go_at_call 17; with_reducible refine (toMatrix_c r1 k1 A1 b c1 _ (by exact Rd.grows ra1.rd (by exact bel1 p1)) hl1).mono ?_; rintro e t2 ⟨jt2, rfl, ot2, p2⟩; have zt2 := Below.size p2; (try simp at zt2))
         | (go_at_call 25; refine (HS'.out _ _ _ _ _ (by exact Rd.grows ot1.rd (by exact bel1 p2)) (by exact Rd.grows ot2.rd (by exact bel0)) (by omega) (by omega) (by omega) (by omega)).mono ?_; rintro e t3 ⟨rfl, p3⟩; have zt3 := Below.size p3; (try simp at zt3)))
      all_goals
        go_wp2_with fail
        go_meet
        exact ⟨(), rfl, rfl, (by exact bel3 p3 p2 p1)⟩
    obtain ⟨w1, rfl⟩ : ∃ x : World, x = wc := ⟨_, rfl⟩
    obtain ⟨_, rfl, rfl, q1⟩ := hcut
    replace ra0 : RdB w1 (y1.heap.size) A0 a := RdB.grows ra0 (by exact bel1 q1)
    replace ra1 : RdB w1 (y1.heap.size) A1 b := RdB.grows ra1 (by exact bel1 q1)
    clear b00 b01 b02 b0l
    replace mb0 : MBox w1 (w.heap.size) r0 k0 (.slice A0 a.length c0) := MBox.grows mb0 (by exact bel1 q1)
    have b00 := mb0.c0; have b01 := mb0.c1; have b02 := mb0.c2; have b0l := mb0.lt
    clear b10 b11 b12 b1l
    replace mb1 : MBox w1 (w.heap.size + 1) r1 k1 (.slice A1 b.length c1) := MBox.grows mb1 (by exact bel1 q1)
    have b10 := mb1.c0; have b11 := mb1.c1; have b12 := mb1.c2; have b1l := mb1.lt
    have sw1q1 := Below.size q1; (try simp at sw1q1)
    replace HG : Grows w w1 := by exact bel2 q1 HG
    go_wp2_with fail
    refine (toMatrix_c r0 k0 A0 a c0 _ (by exact Rd.grows ra0.rd (by exact bel0)) hl0).mono ?_; rintro e w2 ⟨jx0, rfl, ox0, q2⟩
    (try simp at ox0)
    have x0 : OwnB w2 (w1.heap.size) (w2.heap.size) (.slice (some ⟨jx0, 0, none⟩) a.length a.length) a := OwnB.of (Own.less ox0 (by first | omega | simp))
    clear ox0
    replace ra0 : RdB w2 (y1.heap.size) A0 a := RdB.grows ra0 (by exact bel1 q2)
    replace ra1 : RdB w2 (y1.heap.size) A1 b := RdB.grows ra1 (by exact bel1 q2)
    clear b00 b01 b02 b0l
    replace mb0 : MBox w2 (w.heap.size) r0 k0 (.slice A0 a.length c0) := MBox.grows mb0 (by exact bel1 q2)
    have b00 := mb0.c0; have b01 := mb0.c1; have b02 := mb0.c2; have b0l := mb0.lt
    clear b10 b11 b12 b1l
    replace mb1 : MBox w2 (w.heap.size + 1) r1 k1 (.slice A1 b.length c1) := MBox.grows mb1 (by exact bel1 q2)
    have b10 := mb1.c0; have b11 := mb1.c1; have b12 := mb1.c2; have b1l := mb1.lt
    have sw2q2 := Below.size q2; (try simp at sw2q2)
    replace HG : Grows w w2 := by exact bel2 q2 HG
    go_wp2_with fail
    refine (toMatrix_c r1 k1 A1 b c1 _ (by exact Rd.grows ra1.rd (by exact bel0)) hl1).mono ?_; rintro e w3 ⟨jx1, rfl, ox1, q3⟩
    (try simp at ox1)
    have x1 : OwnB w3 (w2.heap.size + 1) (w3.heap.size) (.slice (some ⟨jx1, 0, none⟩) b.length b.length) b := OwnB.of (Own.less ox1 (by first | omega | simp))
    clear ox1
    replace ra0 : RdB w3 (y1.heap.size) A0 a := RdB.grows ra0 (by exact bel1 q3)
    replace ra1 : RdB w3 (y1.heap.size) A1 b := RdB.grows ra1 (by exact bel1 q3)
    clear b00 b01 b02 b0l
    replace mb0 : MBox w3 (w.heap.size) r0 k0 (.slice A0 a.length c0) := MBox.grows mb0 (by exact bel1 q3)
    have b00 := mb0.c0; have b01 := mb0.c1; have b02 := mb0.c2; have b0l := mb0.lt
    clear b10 b11 b12 b1l
    replace mb1 : MBox w3 (w.heap.size + 1) r1 k1 (.slice A1 b.length c1) := MBox.grows mb1 (by exact bel1 q3)
    have b10 := mb1.c0; have b11 := mb1.c1; have b12 := mb1.c2; have b1l := mb1.lt
    replace x0 : OwnB w3 (w1.heap.size) (w2.heap.size) (.slice (some ⟨jx0, 0, none⟩) a.length a.length) a := OwnB.grows x0 (by exact bel1 q3)
    have mx0 : MBox w3 (w2.heap.size) r0 k0 (.slice (some ⟨jx0, 0, none⟩) a.length a.length) := MBox.grows (MBox.mk_ w2 r0 k0 (.slice (some ⟨jx0, 0, none⟩) a.length a.length) 28) q3
    have dx00 := mx0.c0; have dx01 := mx0.c1; have dx02 := mx0.c2; have dx0l := mx0.lt
    have sw3q3 := Below.size q3; (try simp at sw3q3)
    replace HG : Grows w w3 := by exact bel2 q3 HG
    go_wp2_with fail
    refine (HI'.out _ _ _ _ _ (by exact Rd.grows x0.rd (by exact bel0)) (by exact Rd.grows x1.rd (by exact bel0)) (by omega) (by omega) (by omega) (by omega)).mono ?_; rintro e w4 ⟨rfl, q4⟩
    replace ra0 : RdB w4 (y1.heap.size) A0 a := RdB.grows ra0 (by exact bel1 q4)
    replace ra1 : RdB w4 (y1.heap.size) A1 b := RdB.grows ra1 (by exact bel1 q4)
    clear b00 b01 b02 b0l
    replace mb0 : MBox w4 (w.heap.size) r0 k0 (.slice A0 a.length c0) := MBox.grows mb0 (by exact bel1 q4)
    have b00 := mb0.c0; have b01 := mb0.c1; have b02 := mb0.c2; have b0l := mb0.lt
    clear b10 b11 b12 b1l
    replace mb1 : MBox w4 (w.heap.size + 1) r1 k1 (.slice A1 b.length c1) := MBox.grows mb1 (by exact bel1 q4)
    have b10 := mb1.c0; have b11 := mb1.c1; have b12 := mb1.c2; have b1l := mb1.lt
    replace x0 : OwnB w4 (w1.heap.size) (w2.heap.size) (.slice (some ⟨jx0, 0, none⟩) a.length a.length) a := OwnB.grows x0 (by exact bel1 q4)
    clear dx00 dx01 dx02 dx0l
    replace mx0 : MBox w4 (w2.heap.size) r0 k0 (.slice (some ⟨jx0, 0, none⟩) a.length a.length) := MBox.grows mx0 (by exact bel1 q4)
    have dx00 := mx0.c0; have dx01 := mx0.c1; have dx02 := mx0.c2; have dx0l := mx0.lt
    replace x1 : OwnB w4 (w2.heap.size + 1) (w3.heap.size) (.slice (some ⟨jx1, 0, none⟩) b.length b.length) b := OwnB.grows x1 (by exact bel1 q4)
    have mx1 : MBox w4 (w3.heap.size) r1 k1 (.slice (some ⟨jx1, 0, none⟩) b.length b.length) := MBox.grows (MBox.mk_ w3 r1 k1 (.slice (some ⟨jx1, 0, none⟩) b.length b.length) 28) q4
    have dx10 := mx1.c0; have dx11 := mx1.c1; have dx12 := mx1.c2; have dx1l := mx1.lt
    have sw4q4 := Below.size q4; (try simp at sw4q4)
    replace HG : Grows w w4 := by exact bel2 q4 HG
    go_wp2_with fail
    go_region_held3 (fun W => W.cell? ⟨w2.heap.size, 0, none⟩ = some (.int .i64 r0) ∧ W.cell? ⟨w2.heap.size, 1, none⟩ = some (.int .i64 k0) ∧ W.cell? ⟨w2.heap.size, 2, none⟩ = some (.slice (some ⟨jx0, 0, none⟩) a.length a.length) ∧ W.cell? ⟨w.heap.size, 0, none⟩ = some (.int .i64 r0) ∧ W.cell? ⟨w.heap.size, 1, none⟩ = some (.int .i64 k0) ∧ W.cell? ⟨w.heap.size, 2, none⟩ = some (.slice A0 a.length c0)) ((refine two_boxes mx0 mb0 ?_; first | exact bel2 q6 q5 | exact bel1 q5 | exact bel0)) (first | (go_at_call 17; refine (toMatrix_c r0 k0 A0 a c0 _ (by exact Rd.grows ra0.rd (by exact bel0)) hl0).mono ?_; rintro e w5 ⟨jt0, rfl, ot0, q5⟩) | (go_at_call 21; refine (eqMatrix_yes _ _ _ _ _ _ _ _ (by exact Rd.grows x0.rd (by exact bel1 q5)) (by exact ot0.rd) (by omega)).mono ?_; rintro e w6 ⟨rfl, q6⟩))
    clear ot0
    replace ra0 : RdB w6 (y1.heap.size) A0 a := RdB.grows ra0 (by exact bel2 q6 q5)
    replace ra1 : RdB w6 (y1.heap.size) A1 b := RdB.grows ra1 (by exact bel2 q6 q5)
    clear b00 b01 b02 b0l
    replace mb0 : MBox w6 (w.heap.size) r0 k0 (.slice A0 a.length c0) := MBox.grows mb0 (by exact bel2 q6 q5)
    have b00 := mb0.c0; have b01 := mb0.c1; have b02 := mb0.c2; have b0l := mb0.lt
    clear b10 b11 b12 b1l
    replace mb1 : MBox w6 (w.heap.size + 1) r1 k1 (.slice A1 b.length c1) := MBox.grows mb1 (by exact bel2 q6 q5)
    have b10 := mb1.c0; have b11 := mb1.c1; have b12 := mb1.c2; have b1l := mb1.lt
    replace x0 : OwnB w6 (w1.heap.size) (w2.heap.size) (.slice (some ⟨jx0, 0, none⟩) a.length a.length) a := OwnB.grows x0 (by exact bel2 q6 q5)
    clear dx00 dx01 dx02 dx0l
    replace mx0 : MBox w6 (w2.heap.size) r0 k0 (.slice (some ⟨jx0, 0, none⟩) a.length a.length) := MBox.grows mx0 (by exact bel2 q6 q5)
    have dx00 := mx0.c0; have dx01 := mx0.c1; have dx02 := mx0.c2; have dx0l := mx0.lt
    replace x1 : OwnB w6 (w2.heap.size + 1) (w3.heap.size) (.slice (some ⟨jx1, 0, none⟩) b.length b.length) b := OwnB.grows x1 (by exact bel2 q6 q5)
    clear dx10 dx11 dx12 dx1l
    replace mx1 : MBox w6 (w3.heap.size) r1 k1 (.slice (some ⟨jx1, 0, none⟩) b.length b.length) := MBox.grows mx1 (by exact bel2 q6 q5)
    have dx10 := mx1.c0; have dx11 := mx1.c1; have dx12 := mx1.c2; have dx1l := mx1.lt
    have sw6q5 := Below.size q5; (try simp at sw6q5)
    have sw6q6 := Below.size q6; (try simp at sw6q6)
    replace HG : Grows w w6 := by exact bel3 q6 q5 HG
    go_wp2_with fail
    go_region_held3 (fun W => W.cell? ⟨w3.heap.size, 0, none⟩ = some (.int .i64 r1) ∧ W.cell? ⟨w3.heap.size, 1, none⟩ = some (.int .i64 k1) ∧ W.cell? ⟨w3.heap.size, 2, none⟩ = some (.slice (some ⟨jx1, 0, none⟩) b.length b.length) ∧ W.cell? ⟨w.heap.size + 1, 0, none⟩ = some (.int .i64 r1) ∧ W.cell? ⟨w.heap.size + 1, 1, none⟩ = some (.int .i64 k1) ∧ W.cell? ⟨w.heap.size + 1, 2, none⟩ = some (.slice A1 b.length c1)) ((refine two_boxes mx1 mb1 ?_; first | exact bel2 q8 q7 | exact bel1 q7 | exact bel0)) (first | (go_at_call 17; refine (toMatrix_c r1 k1 A1 b c1 _ (by exact Rd.grows ra1.rd (by exact bel0)) hl1).mono ?_; rintro e w7 ⟨jt1, rfl, ot1, q7⟩) | (go_at_call 21; refine (eqMatrix_yes _ _ _ _ _ _ _ _ (by exact Rd.grows x1.rd (by exact bel1 q7)) (by exact ot1.rd) (by omega)).mono ?_; rintro e w8 ⟨rfl, q8⟩))
    clear ot1
    replace ra0 : RdB w8 (y1.heap.size) A0 a := RdB.grows ra0 (by exact bel2 q8 q7)
    replace ra1 : RdB w8 (y1.heap.size) A1 b := RdB.grows ra1 (by exact bel2 q8 q7)
    clear b00 b01 b02 b0l
    replace mb0 : MBox w8 (w.heap.size) r0 k0 (.slice A0 a.length c0) := MBox.grows mb0 (by exact bel2 q8 q7)
    have b00 := mb0.c0; have b01 := mb0.c1; have b02 := mb0.c2; have b0l := mb0.lt
    clear b10 b11 b12 b1l
    replace mb1 : MBox w8 (w.heap.size + 1) r1 k1 (.slice A1 b.length c1) := MBox.grows mb1 (by exact bel2 q8 q7)
    have b10 := mb1.c0; have b11 := mb1.c1; have b12 := mb1.c2; have b1l := mb1.lt
    replace x0 : OwnB w8 (w1.heap.size) (w2.heap.size) (.slice (some ⟨jx0, 0, none⟩) a.length a.length) a := OwnB.grows x0 (by exact bel2 q8 q7)
    clear dx00 dx01 dx02 dx0l
    replace mx0 : MBox w8 (w2.heap.size) r0 k0 (.slice (some ⟨jx0, 0, none⟩) a.length a.length) := MBox.grows mx0 (by exact bel2 q8 q7)
    have dx00 := mx0.c0; have dx01 := mx0.c1; have dx02 := mx0.c2; have dx0l := mx0.lt
    replace x1 : OwnB w8 (w2.heap.size + 1) (w3.heap.size) (.slice (some ⟨jx1, 0, none⟩) b.length b.length) b := OwnB.grows x1 (by exact bel2 q8 q7)
    clear dx10 dx11 dx12 dx1l
    replace mx1 : MBox w8 (w3.heap.size) r1 k1 (.slice (some ⟨jx1, 0, none⟩) b.length b.length) := MBox.grows mx1 (by exact bel2 q8 q7)
    have dx10 := mx1.c0; have dx11 := mx1.c1; have dx12 := mx1.c2; have dx1l := mx1.lt
    have sw8q7 := Below.size q7; (try simp at sw8q7)
    have sw8q8 := Below.size q8; (try simp at sw8q8)
    replace HG : Grows w w8 := by exact bel3 q8 q7 HG
    go_wp2_with fail
    go_ret
    exact ⟨rfl, HG⟩
end Go.Proofs.Ytpgoefdeodoacaa


namespace Go.Proofs.Ytpgoefdeodoacaa
set_option linter.unusedSimpArgs false
set_option linter.unusedVariables false
open Go.ChangeShapes Go.WideShapes Go.ChangeAt Go.RowKit Go.Joins
set_option linter.unusedVariables false

set_option maxRecDepth 100000 in
theorem fnExactIndexOf_lifted (os : Os) (started : os.Started) (H : Type) (enc : TypeId × Value → H) :
    ReturnsInHanded {} Try.checked os 4 .any (Rows.fnExactIndexOfSpec.pre6 enc Try.prog Try.f4 Rows.fnExactIndexOfRow.domain false) (Rows.fnExactIndexOfSpec.post enc Try.prog Try.f4 false true false false) := by
  refine returnsInHanded_of_change (C := Try.checked) own started (by kernel_rfl) Try.func4
    (ChangeSpec.witness6 (enc := enc) (C := Try.checked) false ⟨#[], #[.agg #[.int .i64 0, .int .i64 0, .slice none 0 0], .agg #[.int .i64 0, .int .i64 0, .slice none 0 0]], []⟩ 8 (by kernel_rfl) (by kernel_rfl) (by kernel_rfl) (by kernel_rfl)) ?_
  intro W base args ds gs before hval0 hW hcnd _
  have hval : ∀ (j : Nat) t v, Try.f4.params[j]? = some t → args[j]? = some v → Value.okWide Try.prog W .any base t v := hval0
  have hW' := hW
  obtain ⟨p, q, hA0, hV, rfl, hfz, hnd⟩ := hW
  have hA : DataW.TrodAll enc Try.prog W 0 (fun _ => true) true Try.f4.params.toList args.toList ds p := hA0
  rw [Try.params4] at hA hval
  obtain ⟨v0, vs0, d0, ds0, p0, q0, hargs, rfl, rfl, h0, r0⟩ := trodAll_cons hA
  obtain ⟨v1, vs1, d1, ds1, p1, q1, rfl, rfl, rfl, h1, r1⟩ := trodAll_cons r0
  obtain ⟨rfl, rfl, rfl⟩ := trodAll_nil r1
  obtain rfl : args = #[v0, v1] := by cases args; simp_all
  obtain ⟨rfl, rfl⟩ := trodVars_none hV
  have k0 := h0
  have lt0 : ∀ x ∈ p0, x.block < W.heap.size := by obtain ⟨m, hm⟩ := k0; exact DataW.trod_lt m _ _ _ hm
  obtain ⟨u00, u10, u20, y00, y10, y20, m0, rfl, rfl, rfl, t00, t10, t20⟩ := open_agg3 Try.underlying24 (by kernel_rfl) (by kernel_rfl) (hval 0 24 v0 rfl rfl) h0
  obtain ⟨x0, e00, _, wx0⟩ := DataW.trod_int Try.underlying3 t00
  obtain ⟨z0, e10, _, wz0⟩ := DataW.trod_int Try.underlying3 t10
  obtain ⟨A0, l0, c0, e20, ir0⟩ := open_row t20
  simp only [List.cons.injEq, and_true] at e00 e10
  subst e00 e10 e20
  have k1 := h1
  have lt1 : ∀ x ∈ p1, x.block < W.heap.size := by obtain ⟨m, hm⟩ := k1; exact DataW.trod_lt m _ _ _ hm
  obtain ⟨u01, u11, u21, y01, y11, y21, m1, rfl, rfl, rfl, t01, t11, t21⟩ := open_agg3 Try.underlying24 (by kernel_rfl) (by kernel_rfl) (hval 1 24 v1 rfl rfl) h1
  obtain ⟨x1, e01, _, wx1⟩ := DataW.trod_int Try.underlying3 t01
  obtain ⟨z1, e11, _, wz1⟩ := DataW.trod_int Try.underlying3 t11
  obtain ⟨A1, l1, c1, e21, ir1⟩ := open_row t21
  simp only [List.cons.injEq, and_true] at e01 e11
  subst e01 e11 e21
  clear hA0 hval0
  refine (lawIdx_c x0 z0 A0 l0 c0 x1 z1 A1 l1 c1 W wx0 wz0 ir0 wx1 wz1 ir1).mono fun e W' ⟨he, bel⟩ => ?_
  subst he
  exact ⟨_, rfl, _, _, _, [], _, [], hW', trodAll_mk1 (shut_bool Try.underlying4 _), (trodAll_cons_mk (Below.trod laidOut (by kernel_rfl) (of_decide_eq_true (by kernel_rfl)) k0 bel lt0) (trodAll_cons_mk (Below.trod laidOut (by kernel_rfl) (of_decide_eq_true (by kernel_rfl)) k1 bel lt1) trodAll_mk0)), rfl, bel.frame _, fun h => by cases h⟩

theorem fnExactIndexOf_closed : joinedFacts Try.pinned.checked.prog 4 Try.f4 Rows.fnExactIndexOfSpec Rows.fnExactIndexOfRow = true := by
  unfold joinedFacts
  rw [fLaid, fRowed, fStops, fEnter, fLift, fMake]
  change _ = true
  kernel_rfl
/-- The statement. -/
theorem fnExactIndexOf_holds : Rows.FnExactIndexOfSaid :=
  OpenClaim.holds_of_wide 4 Try.f4 rfl rfl rfl rfl rfl rfl rfl ⟨rfl, rfl, rfl, rfl, rfl⟩ rfl rfl rfl rfl rfl (by kernel_rfl) Try.func4 fnExactIndexOf_closed
    (of_decide_eq_true (by kernel_rfl)) (by unfold Func.isWrapper; first | (rw [if_pos (by decide +kernel)]; kernel_rfl) | (rw [if_neg (by decide +kernel)]; exact ⟨rfl, rfl⟩))
    (fun os started H enc _ => fnExactIndexOf_lifted os started H enc)
end Go.Proofs.Ytpgoefdeodoacaa
