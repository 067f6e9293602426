/- The row of FnExactKissingOf: proved for every input, no condition beyond those of the row. -/
import Derived.Test.YtpgoefdeodoacaaPkA
import Derived.Test.YtpgoefdeodoacaaPkN
import Derived.Test.YtpgoefdeodoacaaQFacts

namespace Go.Proofs.Ytpgoefdeodoacaa
set_option linter.unusedSimpArgs false
set_option linter.unusedVariables false
open Go.RowKit
set_option linter.unusedVariables false
set_option maxHeartbeats 2000000 in
set_option maxRecDepth 10000 in
theorem lawKis_c (r0 k0 : Int) (A0 : Option Addr) (a : List Int) (c0 : Nat) (w : World) (_wr0 : (Lit.int .i64 r0).wf = true) (_wk0 : (Lit.int .i64 k0).wf = true) (ir0 : InRow w A0 a c0) :
    Calls Try.prog 13 #[.agg #[.int .i64 r0, .int .i64 k0, .slice A0 a.length c0]] w fun e w' => e = .returned (.bool true) ∧ Grows w w' := by
  obtain ⟨rd0, hc0, hm0, _⟩ := ir0
  simp only [maxLen] at hm0
  by_cases hs0 : (a.length : Int) ≤ 1048576
  rotate_left
  · go_enter Try.func13, Try.ntmps13
    go_wp2_with fail
    refine (szMatrix_no _ _ _ _ _ _ _ (by omega) (by omega) (by omega) (by omega)).mono ?_; rintro e y0 ⟨rfl, g0⟩
    have mb0 : MBox y0 (w.heap.size) r0 k0 (.slice A0 a.length c0) := by have := MBox.grows (MBox.mk_ w r0 k0 (.slice A0 a.length c0) 24) (w' := y0) (by exact bel1 g0); simpa using this
    have b00 := mb0.c0; have b01 := mb0.c1; have b02 := mb0.c2; have b0l := mb0.lt
    go_wp2_with fail
    go_ret
    exact ⟨rfl, by exact bel1 g0⟩
  have hl0 : a.length ≤ 1048576 := by omega
  have HS := fun W A c (h0 : Rd W A a) (e0 : a.length ≤ c) (e1 : c ≤ 9223372036854775807) => (sKis_c r0 k0 A a a.length c W rfl e0 e1 h0 (by omega)).mono fun _ _ h => minRet_out h
  have HI := fun W A c (h0 : Rd W A a) (e0 : a.length ≤ c) (e1 : c ≤ 9223372036854775807) => (iKis_c r0 k0 A a a.length c W rfl e0 e1 h0 (by omega)).mono fun _ _ h => minRet_out h
  generalize kisO ⟨r0, k0, a⟩ = ro at *
  all_goals
    have HS' := Lib.hid HS
    have HI' := Lib.hid HI
    clear HS HI
    go_enter Try.func13, Try.ntmps13
    go_wp2_with fail
    refine (szMatrix_yes _ _ _ _ _ _ _ (by omega) (by omega) (by omega) (by omega)).mono ?_; rintro e y0 ⟨rfl, g0⟩
    have mb0 : MBox y0 (w.heap.size) r0 k0 (.slice A0 a.length c0) := by have := MBox.grows (MBox.mk_ w r0 k0 (.slice A0 a.length c0) 24) (w' := y0) (by exact bel1 g0); simpa using this
    have b00 := mb0.c0; have b01 := mb0.c1; have b02 := mb0.c2; have b0l := mb0.lt
    go_wp2_with fail
    have ra0 : RdB y0 y0.heap.size A0 a := RdB.of (Rd.grows rd0 (by exact bel1 g0))
    have HG : Grows w y0 := by exact bel1 g0
    have sb0 := mb0.lt
    refine (toMatrix_c r0 k0 A0 a c0 _ (by exact Rd.grows ra0.rd (by exact bel0)) hl0).mono ?_; rintro e w1 ⟨js0, rfl, os0, q1⟩
    (try simp at os0)
    have s0 : OwnB w1 (y0.heap.size) (w1.heap.size) (.slice (some ⟨js0, 0, none⟩) a.length a.length) a := OwnB.of (Own.less os0 (by first | omega | simp))
    clear os0
    replace ra0 : RdB w1 (y0.heap.size) A0 a := RdB.grows ra0 (by exact bel1 q1)
    clear b00 b01 b02 b0l
    replace mb0 : MBox w1 (w.heap.size) r0 k0 (.slice A0 a.length c0) := MBox.grows mb0 (by exact bel1 q1)
    have b00 := mb0.c0; have b01 := mb0.c1; have b02 := mb0.c2; have b0l := mb0.lt
    have sw1q1 := Below.size q1; (try simp at sw1q1)
    replace HG : Grows w w1 := by exact bel2 q1 HG
    go_wp2_with fail
    refine (HS'.out _ _ _ (by exact Rd.grows s0.rd (by exact bel0)) (by omega) (by omega)).mono ?_; rintro e w2 ⟨rfl, q2⟩
    replace ra0 : RdB w2 (y0.heap.size) A0 a := RdB.grows ra0 (by exact bel1 q2)
    clear b00 b01 b02 b0l
    replace mb0 : MBox w2 (w.heap.size) r0 k0 (.slice A0 a.length c0) := MBox.grows mb0 (by exact bel1 q2)
    have b00 := mb0.c0; have b01 := mb0.c1; have b02 := mb0.c2; have b0l := mb0.lt
    replace s0 : OwnB w2 (y0.heap.size) (w1.heap.size) (.slice (some ⟨js0, 0, none⟩) a.length a.length) a := OwnB.grows s0 (by exact bel1 q2)
    have sw2q2 := Below.size q2; (try simp at sw2q2)
    replace HG : Grows w w2 := by exact bel2 q2 HG
    go_wp2_with fail
    clear s0
    refine (toMatrix_c r0 k0 A0 a c0 _ (by exact Rd.grows ra0.rd (by exact bel0)) hl0).mono ?_; rintro e w3 ⟨jx0, rfl, ox0, q3⟩
    (try simp at ox0)
    have x0 : OwnB w3 (w2.heap.size) (w3.heap.size) (.slice (some ⟨jx0, 0, none⟩) a.length a.length) a := OwnB.of (Own.less ox0 (by first | omega | simp))
    clear ox0
    replace ra0 : RdB w3 (y0.heap.size) A0 a := RdB.grows ra0 (by exact bel1 q3)
    clear b00 b01 b02 b0l
    replace mb0 : MBox w3 (w.heap.size) r0 k0 (.slice A0 a.length c0) := MBox.grows mb0 (by exact bel1 q3)
    have b00 := mb0.c0; have b01 := mb0.c1; have b02 := mb0.c2; have b0l := mb0.lt
    have sw3q3 := Below.size q3; (try simp at sw3q3)
    replace HG : Grows w w3 := by exact bel2 q3 HG
    go_wp2_with fail
    refine (HI'.out _ _ _ (by exact Rd.grows x0.rd (by exact bel0)) (by omega) (by omega)).mono ?_; rintro e w4 ⟨rfl, q4⟩
    replace ra0 : RdB w4 (y0.heap.size) A0 a := RdB.grows ra0 (by exact bel1 q4)
    clear b00 b01 b02 b0l
    replace mb0 : MBox w4 (w.heap.size) r0 k0 (.slice A0 a.length c0) := MBox.grows mb0 (by exact bel1 q4)
    have b00 := mb0.c0; have b01 := mb0.c1; have b02 := mb0.c2; have b0l := mb0.lt
    replace x0 : OwnB w4 (w2.heap.size) (w3.heap.size) (.slice (some ⟨jx0, 0, none⟩) a.length a.length) a := OwnB.grows x0 (by exact bel1 q4)
    have mx0 : MBox w4 (w3.heap.size) r0 k0 (.slice (some ⟨jx0, 0, none⟩) a.length a.length) := MBox.grows (MBox.mk_ w3 r0 k0 (.slice (some ⟨jx0, 0, none⟩) a.length a.length) 28) q4
    have dx00 := mx0.c0; have dx01 := mx0.c1; have dx02 := mx0.c2; have dx0l := mx0.lt
    have sw4q4 := Below.size q4; (try simp at sw4q4)
    replace HG : Grows w w4 := by exact bel2 q4 HG
    go_wp2_with fail
    go_region_held3 (fun W => W.cell? ⟨w3.heap.size, 0, none⟩ = some (.int .i64 r0) ∧ W.cell? ⟨w3.heap.size, 1, none⟩ = some (.int .i64 k0) ∧ W.cell? ⟨w3.heap.size, 2, none⟩ = some (.slice (some ⟨jx0, 0, none⟩) a.length a.length) ∧ W.cell? ⟨w.heap.size, 0, none⟩ = some (.int .i64 r0) ∧ W.cell? ⟨w.heap.size, 1, none⟩ = some (.int .i64 k0) ∧ W.cell? ⟨w.heap.size, 2, none⟩ = some (.slice A0 a.length c0)) ((refine two_boxes mx0 mb0 ?_; first | exact bel2 q6 q5 | exact bel1 q5 | exact bel0)) (first | (go_at_call 17; refine (toMatrix_c r0 k0 A0 a c0 _ (by exact Rd.grows ra0.rd (by exact bel0)) hl0).mono ?_; rintro e w5 ⟨jt0, rfl, ot0, q5⟩) | (go_at_call 21; refine (eqMatrix_yes _ _ _ _ _ _ _ _ (by exact Rd.grows x0.rd (by exact bel1 q5)) (by exact ot0.rd) (by omega)).mono ?_; rintro e w6 ⟨rfl, q6⟩))
    clear ot0
    replace ra0 : RdB w6 (y0.heap.size) A0 a := RdB.grows ra0 (by exact bel2 q6 q5)
    clear b00 b01 b02 b0l
    replace mb0 : MBox w6 (w.heap.size) r0 k0 (.slice A0 a.length c0) := MBox.grows mb0 (by exact bel2 q6 q5)
    have b00 := mb0.c0; have b01 := mb0.c1; have b02 := mb0.c2; have b0l := mb0.lt
    replace x0 : OwnB w6 (w2.heap.size) (w3.heap.size) (.slice (some ⟨jx0, 0, none⟩) a.length a.length) a := OwnB.grows x0 (by exact bel2 q6 q5)
    clear dx00 dx01 dx02 dx0l
    replace mx0 : MBox w6 (w3.heap.size) r0 k0 (.slice (some ⟨jx0, 0, none⟩) a.length a.length) := MBox.grows mx0 (by exact bel2 q6 q5)
    have dx00 := mx0.c0; have dx01 := mx0.c1; have dx02 := mx0.c2; have dx0l := mx0.lt
    have sw6q5 := Below.size q5; (try simp at sw6q5)
    have sw6q6 := Below.size q6; (try simp at sw6q6)
    replace HG : Grows w w6 := by exact bel3 q6 q5 HG
    go_wp2_with fail
    go_ret
    exact ⟨rfl, HG⟩
end Go.Proofs.Ytpgoefdeodoacaa


namespace Go.Proofs.Ytpgoefdeodoacaa
set_option linter.unusedSimpArgs false
set_option linter.unusedVariables false
open Go.ChangeShapes Go.WideShapes Go.ChangeAt Go.RowKit Go.Joins
set_option linter.unusedVariables false

set_option maxRecDepth 100000 in
theorem fnExactKissingOf_lifted (os : Os) (started : os.Started) (H : Type) (enc : TypeId × Value → H) :
    ReturnsInHanded {} Try.checked os 13 .any (Rows.fnExactKissingOfSpec.pre6 enc Try.prog Try.f13 Rows.fnExactKissingOfRow.domain false) (Rows.fnExactKissingOfSpec.post enc Try.prog Try.f13 false true false false) := by
  refine returnsInHanded_of_change (C := Try.checked) own started (by kernel_rfl) Try.func13
    (ChangeSpec.witness6 (enc := enc) (C := Try.checked) false ⟨#[], #[.agg #[.int .i64 0, .int .i64 0, .slice none 0 0]], []⟩ 8 (by kernel_rfl) (by kernel_rfl) (by kernel_rfl) (by kernel_rfl)) ?_
  intro W base args ds gs before hval0 hW hcnd _
  have hval : ∀ (j : Nat) t v, Try.f13.params[j]? = some t → args[j]? = some v → Value.okWide Try.prog W .any base t v := hval0
  have hW' := hW
  obtain ⟨p, q, hA0, hV, rfl, hfz, hnd⟩ := hW
  have hA : DataW.TrodAll enc Try.prog W 0 (fun _ => true) true Try.f13.params.toList args.toList ds p := hA0
  rw [Try.params13] at hA hval
  obtain ⟨v0, vs0, d0, ds0, p0, q0, hargs, rfl, rfl, h0, r0⟩ := trodAll_cons hA
  obtain ⟨rfl, rfl, rfl⟩ := trodAll_nil r0
  obtain rfl : args = #[v0] := by cases args; simp_all
  obtain ⟨rfl, rfl⟩ := trodVars_none hV
  have k0 := h0
  have lt0 : ∀ x ∈ p0, x.block < W.heap.size := by obtain ⟨m, hm⟩ := k0; exact DataW.trod_lt m _ _ _ hm
  obtain ⟨u00, u10, u20, y00, y10, y20, m0, rfl, rfl, rfl, t00, t10, t20⟩ := open_agg3 Try.underlying24 (by kernel_rfl) (by kernel_rfl) (hval 0 24 v0 rfl rfl) h0
  obtain ⟨x0, e00, _, wx0⟩ := DataW.trod_int Try.underlying3 t00
  obtain ⟨z0, e10, _, wz0⟩ := DataW.trod_int Try.underlying3 t10
  obtain ⟨A0, l0, c0, e20, ir0⟩ := open_row t20
  simp only [List.cons.injEq, and_true] at e00 e10
  subst e00 e10 e20
  clear hA0 hval0
  refine (lawKis_c x0 z0 A0 l0 c0 W wx0 wz0 ir0).mono fun e W' ⟨he, bel⟩ => ?_
  subst he
  exact ⟨_, rfl, _, _, _, [], _, [], hW', trodAll_mk1 (shut_bool Try.underlying4 _), (trodAll_cons_mk (Below.trod laidOut (by kernel_rfl) (of_decide_eq_true (by kernel_rfl)) k0 bel lt0) trodAll_mk0), rfl, bel.frame _, fun h => by cases h⟩

theorem fnExactKissingOf_closed : joinedFacts Try.pinned.checked.prog 13 Try.f13 Rows.fnExactKissingOfSpec Rows.fnExactKissingOfRow = true := by
  unfold joinedFacts
  rw [fLaid, fRowed, fStops, fEnter, fLift, fMake]
  change _ = true
  kernel_rfl
/-- The statement. -/
theorem fnExactKissingOf_holds : Rows.FnExactKissingOfSaid :=
  OpenClaim.holds_of_wide 13 Try.f13 rfl rfl rfl rfl rfl rfl rfl ⟨rfl, rfl, rfl, rfl, rfl⟩ rfl rfl rfl rfl rfl (by kernel_rfl) Try.func13 fnExactKissingOf_closed
    (of_decide_eq_true (by kernel_rfl)) (by unfold Func.isWrapper; first | (rw [if_pos (by decide +kernel)]; kernel_rfl) | (rw [if_neg (by decide +kernel)]; exact ⟨rfl, rfl⟩))
    (fun os started H enc _ => fnExactKissingOf_lifted os started H enc)
end Go.Proofs.Ytpgoefdeodoacaa
