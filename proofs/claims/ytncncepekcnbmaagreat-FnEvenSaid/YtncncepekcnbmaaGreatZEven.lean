/- The row of FnEven: proved for every input, no condition beyond those of the row. -/
import Derived.Test.YtncncepekcnbmaaGreatPkDs
import Derived.Test.YtncncepekcnbmaaGreatQEvnP
import Derived.Test.YtncncepekcnbmaaGreatQFacts

namespace Go.Proofs.YtncncepekcnbmaaGreat
set_option linter.unusedSimpArgs false
set_option linter.unusedVariables false
open Go.RowKit
set_option linter.unusedVariables false

section
set_option maxHeartbeats 4000000
set_option maxRecDepth 10000
theorem lawEvn_c (A : Option Addr) (lc : List Int) (cap : Nat) (w : World) (hi : InCode w A lc cap) :
    Calls Tryz.prog 3 #[.slice A lc.length cap] w fun e w' => e = .returned (.bool true) ∧ Grows w w' := by
  obtain ⟨hr, hc1, hc2⟩ := hi
  simp only [maxLen] at hc2
  have CB := big_c A lc.length cap w (by omega)
  by_cases hn : lc.length ≤ 1048576
  rotate_left
  · rw [decide_eq_true (by omega)] at CB
    have CB' := Lib.hid CB
    clear CB
    go_enter Tryz.func3, Tryz.ntmps3
    go_wp2_with fail
    refine CB'.out.mono ?_; rintro e w' ⟨rfl, rfl⟩
    go_wp2_with fail
    go_ret
    exact ⟨rfl, by exact bel0⟩
  · rw [decide_eq_false (by omega)] at CB
    have CB' := Lib.hid CB
    have CD := Lib.hid (askDrawThetaOf_c A lc.length cap w hr hn)
    clear CB
    go_enter Tryz.func3, Tryz.ntmps3
    go_wp2_with fail
    refine CB'.out.mono ?_; rintro e w' ⟨rfl, rfl⟩
    go_wp2_with fail
    refine CD.out.mono ?_; rintro e w2 ⟨r, c, V, cv, l, x, rfl, hrb, hl, o2, g2⟩
    obtain ⟨_, hcv, hcv2⟩ := o2.caps
    have rd2 := o2.rd'
    have CS := fun W h => (iTht_c r c x V l l.length cv W rfl hcv hcv2 h (by omega)).mono fun _ _ h => lRet_out h
    have CT := fun W h => (sTht_c r c x V l l.length cv W rfl hcv hcv2 h (by omega)).mono fun _ _ h => lRet_out h
    have CE := fun W h => iIsEven_c r c V l l.length cv W rfl h (by omega)
    obtain ⟨w3, hw3⟩ : ∃ w3, w3 = w2.alloc (.cells #[.int .i64 r, .int .i64 c, .slice V l.length cv] 26) := ⟨_, rfl⟩
    have mg : MBox w3 w2.heap.size r c (.slice V l.length cv) := by rw [hw3]; exact MBox.mk_ _ _ _ _ _
    have g23 : Grows w2 w3 := by rw [hw3]; exact bel0
    have rd3 := rd2.grows g23
    have G3 : Grows w' w3 := by exact bel2 g23 g2
    have HW3 := Lib.hid hw3
    have HF := Lib.hid fun a (h : thO ⟨r, c, l⟩ x = some a) => th_facts h
    obtain ⟨ev, hev⟩ : ∃ ev, ev = evB r c l := ⟨_, rfl⟩
    rw [← hev] at CE
    have HEV := Lib.hid hev
    have CE' := Lib.hid CE
    clear hw3 o2 CD hr hc1 hc2 hn hev CE
    generalize thO ⟨r, c, l⟩ x = T at *
    have CS' := Lib.hid CS
    have CT' := Lib.hid CT
    clear CS CT
    go_wp2_with fail
    rw [← HW3.out]
    refine (CS'.out _ rd3).mono ?_; rintro e w4 ⟨v4, rfl, o4, g4⟩
    obtain ⟨A4, c4, rfl, hr4, _⟩ := o4.val
    obtain ⟨d0, d1, d2⟩ := (mg.grows g4).cells
    go_wp2_with fail
    refine (CT'.out _ (rd3.grows g4)).mono ?_; rintro e w5 ⟨v5, rfl, o5, g5⟩
    have mg5 : MBox w5 w2.heap.size r c (.slice V l.length cv) := (mg.grows g4).grows g5
    have rd5 := (rd3.grows g4).grows g5
    have hr5 := hr4.grows g5
    have G5 : Grows w' w5 := by exact bel3 g5 g4 G3
    clear d0 d1 d2 o4 o5 g4 g5 g23 g2 rd3 rd2 mg G3 CS' CT'
    obtain ⟨d0, d1, d2⟩ := mg5.cells
    cases T with
    | none =>
      have e1 : (oL (none : Option (List Int))).length = 0 := rfl
      rw [e1]
      simp only [Option.isSome_none]
      go_wp2_with fail
      refine (CE'.out _ rd5).mono ?_; rintro e w6 ⟨rfl, g6⟩
      go_wp2_with fail
      go_ret
      exact ⟨rfl, by exact bel2 g6 G5⟩
    | some a =>
      obtain ⟨x0, x1, ha, ha0, hodd⟩ := HF.out a rfl
      have e1 : oL (some a) = a := rfl
      simp only [e1, Option.isSome_some] at hr5 ⊢
      have HA := Lib.hid ha
      have HA0 := Lib.hid ha0
      have HO := Lib.hid hodd
      have hal : a.length ≤ 10001 := by omega
      have hal1 : 1 ≤ a.length := by omega
      clear HF e1 ha ha0 hodd
      go_wp2_with fail
      refine (CE'.out _ rd5).mono ?_; rintro e w6 ⟨rfl, g6⟩
      have hr6 := hr5.grows g6
      have G6 : Grows w' w6 := by exact bel2 g6 G5
      clear d0 d1 d2
      go_wp2_with fail
      go_loopw [10] (fun i wr => ∃ I : Nat, i = .int .i64 I ∧ I % 2 = 1 ∧ I ≤ 10002 ∧ wr = w6) (fun i _ => 10003 - (intOf i).toNat)
      case atStart => exact ⟨1, by first | rfl | simp, rfl, by omega, by first | rfl | trivial⟩
      case round =>
        obtain ⟨I, rfl, hI2, hI, rfl⟩ := hrel
        by_cases hlt : I < a.length
        · have hlt' : (I : Int) < (a.length : Int) := by omega
          cases ev with
          | true =>
            have hz := HO.out (HEV.out.symm) I hI2
            obtain ⟨bs, fs, rfl, hbs, s0⟩ := hr6.at_ I hlt
            rw [hz] at s0
            go_wp2_with fail
            go_round
            case rel => exact ⟨I + 2, by go_num, by omega, by omega, by first | rfl | trivial⟩
            case measure => first | (simp [intOf]; done) | (simp [intOf]; omega)
          | false =>
            go_wp2_with fail
            go_round
            case rel => exact ⟨I + 2, by go_num, by omega, by omega, by first | rfl | trivial⟩
            case measure => first | (simp [intOf]; done) | (simp [intOf]; omega)
        · have hlt' : ¬ (I : Int) < (a.length : Int) := by omega
          obtain ⟨bs, fs, rfl, hbs, s0⟩ := hr6.at_ 0 (by omega)
          rw [HA0.out] at s0
          simp only [Nat.add_zero] at s0
          have ha := HA.out
          have hp : (0 : Int) < (a.length : Int) := by omega
          have hp2 : 0 < a.length := hal1
          have hq : ((a.length : Int) == x + 1) = true := by rw [ha]; simp
          go_wp2_with fail
          go_ret
          exact ⟨rfl, by exact bel1 G6⟩
end
end Go.Proofs.YtncncepekcnbmaaGreat


namespace Go.Proofs.YtncncepekcnbmaaGreat
set_option linter.unusedSimpArgs false
set_option linter.unusedVariables false
open Go.ChangeShapes Go.WideShapes Go.ChangeAt Go.RowKit Go.Joins
set_option linter.unusedVariables false

set_option maxRecDepth 100000 in
theorem fnEven_lifted (os : Os) (started : os.Started) (H : Type) (enc : TypeId × Value → H) :
    ReturnsInHanded {} Tryz.checked os 3 .any (Rows.fnEvenSpec.pre6 enc Tryz.prog Tryz.f3 Rows.fnEvenRow.domain false) (Rows.fnEvenSpec.post enc Tryz.prog Tryz.f3 false true false false) := by
  refine returnsInHanded_of_change (C := Tryz.checked) own started (by kernel_rfl) Tryz.func3
    (ChangeSpec.witness6 (enc := enc) (C := Tryz.checked) false ⟨#[], #[.slice none 0 0], []⟩ 8 (by kernel_rfl) (by kernel_rfl) (by kernel_rfl) (by kernel_rfl)) ?_
  intro W base args ds gs before hval0 hW hcnd _
  have hval : ∀ (j : Nat) t v, Tryz.f3.params[j]? = some t → args[j]? = some v → Value.okWide Tryz.prog W .any base t v := hval0
  have hW' := hW
  obtain ⟨p, q, hA0, hV, rfl, hfz, hnd⟩ := hW
  have hA : DataW.TrodAll enc Tryz.prog W 0 (fun _ => true) true Tryz.f3.params.toList args.toList ds p := hA0
  rw [Tryz.params3] at hA hval
  obtain ⟨v0, vs0, d0, ds0, p0, q0, hargs, rfl, rfl, h0, r0⟩ := trodAll_cons hA
  obtain ⟨rfl, rfl, rfl⟩ := trodAll_nil r0
  obtain rfl : args = #[v0] := by cases args; simp_all
  obtain ⟨rfl, rfl⟩ := trodVars_none hV
  have k0 := h0
  have lt0 : ∀ x ∈ p0, x.block < W.heap.size := by obtain ⟨m, hm⟩ := k0; exact DataW.trod_lt m _ _ _ hm
  obtain ⟨a00, len0, cap0, rfl⟩ := okWide_slice Tryz.underlying22 (hval 0 22 v0 rfl rfl)
  obtain ⟨A0, l0, c0, e0, ir0⟩ : ∃ A l c, Value.slice a00 len0 cap0 = .slice A (List.length l) c ∧ InCode W A l c := by obtain ⟨fuel, hf⟩ := h0; simp only [Value.cells] at hf; exact open_code hf
  rw [e0] at hval hW' k0 ⊢
  clear hA0 hval0
  refine (lawEvn_c A0 l0 c0 W ir0).mono fun e W' ⟨he, bel⟩ => ?_
  subst he
  exact ⟨_, rfl, _, _, _, [], _, [], hW', trodAll_mk1 (shut_bool Tryz.underlying4 _), (trodAll_cons_mk (Below.trod laidOut (by kernel_rfl) (of_decide_eq_true (by kernel_rfl)) k0 bel lt0) trodAll_mk0), rfl, bel.frame _, fun h => by cases h⟩

theorem fnEven_closed : joinedFacts Tryz.pinned.checked.prog 3 Tryz.f3 Rows.fnEvenSpec Rows.fnEvenRow = true := by
  unfold joinedFacts
  rw [fLaid, fRowed, fStops, fEnter, fLift, fMake]
  change _ = true
  kernel_rfl
/-- The statement. -/
theorem fnEven_holds : Rows.FnEvenSaid :=
  OpenClaim.holds_of_wide 3 Tryz.f3 rfl rfl rfl rfl rfl rfl rfl ⟨rfl, rfl, rfl, rfl, rfl⟩ rfl rfl rfl rfl rfl (by kernel_rfl) Tryz.func3 fnEven_closed
    (of_decide_eq_true (by kernel_rfl)) (by unfold Func.isWrapper; first | (rw [if_pos (by decide +kernel)]; kernel_rfl) | (rw [if_neg (by decide +kernel)]; exact ⟨rfl, rfl⟩))
    (fun os started H enc _ => fnEven_lifted os started H enc)
end Go.Proofs.YtncncepekcnbmaaGreat
