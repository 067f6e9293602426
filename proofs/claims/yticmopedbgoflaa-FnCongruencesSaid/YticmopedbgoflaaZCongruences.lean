/- The row of FnCongruences: proved for every input, no condition beyond those of the row. -/
import Derived.Test.YticmopedbgoflaaPkDr
import Derived.Test.YticmopedbgoflaaPkG
import Derived.Test.YticmopedbgoflaaQCngT
import Derived.Test.YticmopedbgoflaaQDrwL
import Derived.Test.YticmopedbgoflaaQFacts
import Derived.Test.YticmopedbgoflaaQIdx

namespace Go.Proofs.Yticmopedbgoflaa
set_option linter.unusedSimpArgs false
set_option linter.unusedVariables false
open Go.RowKit
set_option linter.unusedVariables false

/-- what the law needs of a lattice of congruences -/
structure ConF (v : List Int) (x : Int) (m : MX) : Prop where
  pos : 1 ≤ x
  nx : isNum x = true
  nv : allNum v = true
  len : v.length ≤ 23
  shape : ∃ (T : Nat) (l : List Int), m = ⟨T, v.length, l⟩ ∧ l.length ≤ 576
  prod : ∀ p, mulO m ⟨v.length, 1, v⟩ = some p → ∀ i, i < p.l.length → (nth p.l i).tmod x = 0
  idx : ∀ k, idxO ⟨v.length, v.length, idL v.length⟩ m = some k → k = x.tdiv (gF x v v.length)
theorem conF {v : List Int} {x : Int} {m : MX} (h : conO v x = some m) : ConF v x m := by
  obtain ⟨h1, h2, h3, h4, T, l, e, h5, h6⟩ := conO_D h
  refine ⟨h1, h4, h3, by omega, ⟨T, l, e, ?_⟩, fun p hp => con_prod h hp, fun k hk => con_index h hk⟩
  have := oM_length (o := some m) fun m h2 => by cases h2; exact conO_ok h
  rw [e] at this
  exact this
section
set_option maxHeartbeats 4000000
set_option maxRecDepth 10000
theorem lawCng_c (A : Option Addr) (lc : List Int) (cap : Nat) (w : World) (hi : InCode w A lc cap) :
    Calls Try.prog 7 #[.slice A lc.length cap] w fun e w' => e = .returned (.bool true) ∧ Grows w w' := by
  obtain ⟨hr, hc1, hc2⟩ := hi
  simp only [maxLen] at hc2
  have CB := big_c A lc.length cap w (by omega)
  by_cases hn : lc.length ≤ 1048576
  rotate_left
  · rw [decide_eq_true (by omega)] at CB
    have CB' := Lib.hid CB
    clear CB
    go_enter Try.func7, Try.ntmps7
    go_wp2_with fail
    refine CB'.out.mono ?_; rintro e w' ⟨rfl, rfl⟩
    go_wp2_with fail
    go_ret
    exact ⟨rfl, by exact bel0⟩
  · rw [decide_eq_false (by omega)] at CB
    have CB' := Lib.hid CB
    have CD := Lib.hid (drawCon_c A lc.length cap w hr hn)
    clear CB
    go_enter Try.func7, Try.ntmps7
    go_wp2_with fail
    refine CB'.out.mono ?_; rintro e w' ⟨rfl, h0⟩
    have h1 := h0.symm
    clear h0
    subst h1
    go_wp2_with fail
    refine CD.out.mono ?_; rintro e w2 ⟨V, cv, l, x, rfl, hl, o2, HG⟩
    obtain ⟨_, hcv, hcv2⟩ := o2.caps
    have rd2 := o2.rd'
    have h_w2 := Below.size HG
    have CS := fun W h => (iCon_c V l x l.length cv W rfl h (by omega)).mono fun _ _ h => matRet_out h
    have CT := fun W h => (sCon_c V l x l.length cv W rfl h (by omega)).mono fun _ _ h => matRet_out h
    have HF := Lib.hid fun m (h : conO l x = some m) => conF h
    generalize conO l x = CO at *
    have CS' := Lib.hid CS
    have CT' := Lib.hid CT
    clear CS CT CD hr hc1 hc2 hn
    go_wp2_with fail
    refine (CS'.out _ (by exact Rd.grows rd2 (by exact bel0))).mono ?_; rintro e w3 ⟨v3, rfl, o3, g_w3⟩
    have s_w3 := Below.size g_w3; (try simp at s_w3)
    replace rd2 := rd2.grows (w' := w3) (by exact bel1 g_w3)
    replace HG : Grows w w3 := by exact bel2 g_w3 HG
    have h_w3 := Below.size HG
    obtain ⟨A3, c3, rfl, rd3, _⟩ := o3.val
    obtain ⟨_, hc3, hc32⟩ := o3.caps
    go_wp2_with fail
    refine (CT'.out _ (by exact Rd.grows rd2 (by exact bel0))).mono ?_; rintro e w4 ⟨v4, rfl, o4, g_w4⟩
    have s_w4 := Below.size g_w4; (try simp at s_w4)
    replace rd2 := rd2.grows (w' := w4) (by exact bel1 g_w4)
    replace rd3 := rd3.grows (w' := w4) (by exact bel1 g_w4)
    have ml : MBox w4 (w3.heap.size) (oM CO).r (oM CO).c (.slice A3 (oM CO).l.length c3) := MBox.grows (MBox.new_ w3 (oM CO).r (oM CO).c (.slice A3 (oM CO).l.length c3) 26 (by simp)) (w' := w4) (by exact bel1 g_w4)
    have ml_0 := ml.c0; have ml_1 := ml.c1; have ml_2 := ml.c2; have ml_l := ml.lt; have ml_f := ml.fz
    replace HG : Grows w w4 := by exact bel2 g_w4 HG
    have h_w4 := Below.size HG
    obtain ⟨A4, c4, rfl, _, _⟩ := o4.val
    clear o3 o4 CS' CT'
    cases CO with
    | none =>
      have e1 : (oM (none : Option MX)).l.length = 0 := rfl
      rw [e1] at ml_2 ⊢
      simp only [Option.isSome_none]
      go_wp2_with fail
      go_ret
      exact ⟨rfl, by exact bel1 HG⟩
    | some m =>
      obtain ⟨hx1, hxn, hvn, hv23, ⟨T, L, rfl, hL⟩, hprod, hidx⟩ := HF.out m rfl
      have ml : MBox w4 w3.heap.size T l.length (.slice A3 L.length c3) := ml
      have rd3 : Rd w4 A3 L := rd3
      have hc3 : L.length ≤ c3 := hc3
      clear ml_0 ml_1 ml_2 ml_l ml_f HF
      obtain ⟨ml_0, ml_1, ml_2⟩ := ml.cells
      have CG := Lib.hid fun i (hi : i < l.length) W => iGcdOf_c (gF x l i) (nth l i) W (by have := gF_pos hx1 l i; rw [isNum_iff] at *; omega) ((allNum_iff l).1 hvn i hi)
      have CM := fun W h1 h2 => (iMul_m T l.length l.length 1 A3 V L l L.length l.length c3 cv W rfl rfl h1 h2 (by omega) (by omega)).mono fun _ _ h => matRet_out h
      have CU := Lib.hid fun W => unit_c l.length W (by omega)
      have CI := fun A ca W h0 h1 h2 h3 => iIdx_c l.length l.length T l.length A A3 (idL l.length) L (idL l.length).length L.length ca c3 W rfl rfl h0 h1 hc3 hc32 h2 h3 (by rw [idL_length]; have := Nat.mul_le_mul hl hl; omega) (by omega)
      have hgp := Lib.hid (gF_pos hx1 l l.length)
      have hPl : (oM (mulO ⟨T, l.length, L⟩ ⟨l.length, 1, l⟩)).l.length ≤ 576 := oM_length fun m h => mulO_ok h
      generalize mulO ⟨T, l.length, L⟩ ⟨l.length, 1, l⟩ = PO at *
      generalize idxO ⟨l.length, l.length, idL l.length⟩ ⟨T, l.length, L⟩ = KO at *
      have hpp : ∀ i, i < (oM PO).l.length → PO.isSome = true ∧ (nth (oM PO).l i).tmod x = 0 := fun i hi => by
        cases PO with
        | none => exact absurd hi (Nat.not_lt_zero _)
        | some p => exact ⟨rfl, hprod p rfl i hi⟩
      generalize PO.isSome = ok at *
      generalize oM PO = P at *
      have HPR := Lib.hid hpp
      have HID := Lib.hid hidx
      have CM' := Lib.hid CM
      have CI' := Lib.hid CI
      have HXN := Lib.hid ((isNum_iff x).1 hxn)
      clear CM CI hprod hpp hidx hxn hvn
      go_wp2_with fail
      go_loopw [9, 10] (fun g i wr => ∃ I : Nat, i = .int .i64 I ∧ g = .int .i64 (gF x l I) ∧ I ≤ l.length ∧ Grows w4 wr) (fun _ i _ => l.length - (intOf i).toNat)
      case atStart => exact ⟨0, rfl, rfl, Nat.zero_le _, by exact bel0⟩
      case round =>
        obtain ⟨I, rfl, rfl, hI, hg⟩ := hrel
        have rdI := rd2.grows hg
        by_cases hlt : I < l.length
        · have hlt' : (I : Int) < (l.length : Int) := by omega
          obtain ⟨bs, fs, rfl, hbs, s0⟩ := rdI.at_ I hlt
          have HN := Lib.hid (show gcdI (gF x l I) (nth l I) = gF x l (I + 1) from rfl)
          have CGI := CG.out I hlt
          generalize nth l I = y at *
          generalize gF x l I = gI at *
          have CGI' := Lib.hid CGI
          clear CGI
          go_wp2_with fail
          refine (CGI'.out _).mono ?_; rintro e w5 ⟨rfl, g5⟩
          rw [HN.out]
          go_wp2_with fail
          go_round
          case rel => exact ⟨I + 1, by go_num, rfl, by omega, by exact bel2 g5 hg⟩
          case measure => first | (simp [intOf]; done) | (simp [intOf]; omega)
        · have hlt' : ¬ (I : Int) < (l.length : Int) := by omega
          obtain rfl : I = l.length := by omega
          have hgq := hgp.out
          generalize gF x l l.length = G at *
          replace rd2 := rdI
          have rd3' := rd3.grows hg
          have ml' := ml.grows hg
          replace HG : Grows w wr := by exact bel2 hg HG
          clear ml_0 ml_1 ml_2 rdI rd3 ml
          obtain ⟨ml_0, ml_1, ml_2⟩ := ml'.cells
          go_wp2_with fail
          refine (CM'.out _ rd3' rd2).mono ?_; rintro e w6 ⟨v6, rfl, o6, g6⟩
          obtain ⟨A6, c6, rfl, rd6, _⟩ := o6.val
          obtain ⟨w7, hw7⟩ : ∃ w7, w7 = w6.alloc (.cells #[.int .i64 P.r, .int .i64 P.c, .slice A6 P.l.length c6] 26) := ⟨_, rfl⟩
          have mp : MBox w7 w6.heap.size P.r P.c (.slice A6 P.l.length c6) := by rw [hw7]; exact MBox.mk_ _ _ _ _ _
          have g67 : Grows w6 w7 := by rw [hw7]; exact bel0
          have HW7 := Lib.hid hw7
          replace HG : Grows w w7 := by exact bel3 g67 g6 HG
          have rd6' := rd6.grows g67
          have ml7 := (ml'.grows g6).grows g67
          have rd37 := (rd3'.grows g6).grows g67
          clear hw7 ml_0 ml_1 ml_2 ml' rd3' rd6 o6 g6 g67
          obtain ⟨mp_0, mp_1, mp_2⟩ := mp.cells
          go_wp2_with fail
          rw [← HW7.out]
          go_loopw [13] (fun i wr => ∃ I : Nat, i = .int .i64 I ∧ I ≤ P.l.length ∧ wr = w7) (fun i _ => P.l.length - (intOf i).toNat)
          case atStart => exact ⟨0, rfl, Nat.zero_le _, by first | rfl | trivial⟩
          case round =>
            obtain ⟨I, rfl, hI, rfl⟩ := hrel
            obtain ⟨ml_0, ml_1, ml_2⟩ := ml7.cells
            by_cases hlt : I < P.l.length
            · have hlt' : (I : Int) < (P.l.length : Int) := by omega
              obtain ⟨bs, fs, rfl, hbs, s0⟩ := rd6'.at_ I hlt
              obtain ⟨rfl, hz⟩ := HPR.out I hlt
              have hx0 : ¬ x = 0 := by omega
              generalize nth P.l I = y at *
              have hxr := HXN.out
              go_wp2_with fail
              go_round
              case rel => exact ⟨I + 1, by go_num, by omega, by first | rfl | trivial⟩
              case measure => first | (simp [intOf]; done) | (simp [intOf]; omega)
            · have hlt' : ¬ (I : Int) < (P.l.length : Int) := by omega
              clear hlt
              go_wp2_with fail
              (refine wp_region_heldL (fun W => W.cell? ⟨w3.heap.size, 0, none⟩ = some (.int .i64 T) ∧ W.cell? ⟨w3.heap.size, 1, none⟩ = some (.int .i64 l.length) ∧ W.cell? ⟨w3.heap.size, 2, none⟩ = some (.slice A3 L.length c3)) (by kernel_rfl) (by ((try dsimp only); (first | exact ml9.cells | exact ml8.cells | exact (ml7.grows (by exact bel0)).cells))) (fun hHeld => ?_); refine heldL_take (i := 0) (v := _) (by rfl) (by kernel_rfl) (by kernel_rfl) (by kernel_rfl) (fun _ _ _ h => h) (Or.inl ⟨by rfl, fun wS hSw => by ((try dsimp only at hSw); go_simp; (try with_reducible rfl))⟩) (by assumption) ?_; simp only [Act.put, List.setIfInBounds_toArray, List.set_cons_zero, List.set_cons_succ]; refine heldL_take (i := 1) (v := _) (by rfl) (by kernel_rfl) (by kernel_rfl) (by kernel_rfl) (fun _ _ _ h => h) (Or.inl ⟨by rfl, fun wS hSw => by ((try dsimp only at hSw); go_simp; (try with_reducible rfl))⟩) (by assumption) ?_; simp only [Act.put, List.setIfInBounds_toArray, List.set_cons_zero, List.set_cons_succ]; refine heldL_take (i := 3) (v := _) (by rfl) (by kernel_rfl) (by kernel_rfl) (by kernel_rfl) (fun _ _ _ h => h) (Or.inl ⟨by rfl, fun wS hSw => by ((try dsimp only at hSw); go_simp; (try with_reducible rfl))⟩) (by assumption) ?_; simp only [Act.put, List.setIfInBounds_toArray, List.set_cons_zero, List.set_cons_succ]; refine heldL_step (i := 2) (by kernel_rfl) (by rfl) (fun K hK => ?_); go_simp; (refine (CU.out _).mono ?_; rintro e w8 ⟨VU, cu, rfl, oU, g8⟩; have g78 : Grows wr w8 := (by exact bel1 g8); have ml8 := ml7.grows g78; obtain ⟨_, hcu, hcu2⟩ := oU.caps) ; (try (go_wp2_with fail)); refine hK.out _ _ (by ((try dsimp only); (first | exact ml9.cells | exact ml8.cells | exact (ml7.grows (by exact bel0)).cells))) (fun hHeld => ?_); clear hK K; (try simp only [Act.put, List.setIfInBounds_toArray, List.set_cons_zero, List.set_cons_succ]); refine heldL_step (i := 4) (by kernel_rfl) (by rfl) (fun K hK => ?_); go_simp; (refine (CI'.out VU cu _ hcu hcu2 oU.rd' (rd37.grows g78)).mono ?_; rintro e w9 ⟨rfl, g9⟩; have ml9 := ml8.grows g9) ; (try (go_wp2_with fail)); refine hK.out _ _ (by ((try dsimp only); (first | exact ml9.cells | exact ml8.cells | exact (ml7.grows (by exact bel0)).cells))) (fun hHeld => ?_); clear hK K; (try simp only [Act.put, List.setIfInBounds_toArray, List.set_cons_zero, List.set_cons_succ]); refine heldL_take (i := 5) (v := _) (by rfl) (by kernel_rfl) (by kernel_rfl) (by kernel_rfl) (fun _ _ _ h => h) (Or.inl ⟨by rfl, fun wS hSw => by ((try dsimp only at hSw); go_simp; (try with_reducible rfl))⟩) (by assumption) ?_; simp only [Act.put, List.setIfInBounds_toArray, List.set_cons_zero, List.set_cons_succ]; refine heldL_take (i := 6) (v := _) (by rfl) (by kernel_rfl) (by kernel_rfl) (by kernel_rfl) (fun _ _ _ h => h) (Or.inl ⟨by rfl, fun wS hSw => by ((try dsimp only at hSw); go_simp; (try with_reducible rfl))⟩) (by assumption) ?_; simp only [Act.put, List.setIfInBounds_toArray, List.set_cons_zero, List.set_cons_succ]; refine heldL_take (i := 7) (v := _) (by rfl) (by kernel_rfl) (by kernel_rfl) (by kernel_rfl) (fun _ _ _ h => h) (Or.inl ⟨by rfl, fun wS hSw => by ((try dsimp only at hSw); go_simp; (try with_reducible rfl))⟩) (by assumption) ?_; simp only [Act.put, List.setIfInBounds_toArray, List.set_cons_zero, List.set_cons_succ]; refine heldL_take (i := 8) (v := _) (by rfl) (by kernel_rfl) (by kernel_rfl) (by kernel_rfl) (fun _ _ _ h => h) (Or.inl ⟨by rfl, fun wS hSw => by ((try dsimp only at hSw); go_simp; (try with_reducible rfl))⟩) (by assumption) ?_; simp only [Act.put, List.setIfInBounds_toArray, List.set_cons_zero, List.set_cons_succ]; refine heldL_take (i := 9) (v := _) (by rfl) (by kernel_rfl) (by kernel_rfl) (by kernel_rfl) (fun _ _ _ h => h) (Or.inl ⟨by rfl, fun wS hSw => by ((try dsimp only at hSw); go_simp; (try with_reducible rfl))⟩) (by assumption) ?_; simp only [Act.put, List.setIfInBounds_toArray, List.set_cons_zero, List.set_cons_succ]; refine wpAnyH_done (by kernel_rfl) ?_ _; refine NoPanic.normal ?_)
              cases KO with
              | none =>
                simp only [Option.isSome_none]
                go_wp2_with fail
                go_ret
                exact ⟨rfl, by exact bel3 g9 g78 HG⟩
              | some k =>
                have hk := HID.out k rfl
                simp only [Option.isSome_some, oI, Option.getD_some]
                have hG0 : ¬ G = 0 := by omega
                have hxr := HXN.out
                have hqb : -400000000 ≤ x.tdiv G ∧ x.tdiv G ≤ 400000000 := (isNum_iff _).1 (tdiv_num ((isNum_iff x).2 hxr))
                have hq1 := hqb.1
                have hq2 := hqb.2
                have HK := Lib.hid hk
                clear hk hqb
                go_wp2_with fail
                rw [HK.out]
                go_wp2_with fail
                go_ret
                exact ⟨by simp, by exact bel3 g9 g78 HG⟩
end
end Go.Proofs.Yticmopedbgoflaa


namespace Go.Proofs.Yticmopedbgoflaa
set_option linter.unusedSimpArgs false
set_option linter.unusedVariables false
open Go.ChangeShapes Go.WideShapes Go.ChangeAt Go.RowKit Go.Joins
set_option linter.unusedVariables false

set_option maxRecDepth 100000 in
theorem fnCongruences_lifted (os : Os) (started : os.Started) (H : Type) (enc : TypeId × Value → H) :
    ReturnsInHanded {} Try.checked os 7 .any (Rows.fnCongruencesSpec.pre6 enc Try.prog Try.f7 Rows.fnCongruencesRow.domain false) (Rows.fnCongruencesSpec.post enc Try.prog Try.f7 false true false false) := by
  refine returnsInHanded_of_change (C := Try.checked) own started (by kernel_rfl) Try.func7
    (ChangeSpec.witness6 (enc := enc) (C := Try.checked) false ⟨#[], #[.slice none 0 0], []⟩ 8 (by kernel_rfl) (by kernel_rfl) (by kernel_rfl) (by kernel_rfl)) ?_
  intro W base args ds gs before hval0 hW hcnd _
  have hval : ∀ (j : Nat) t v, Try.f7.params[j]? = some t → args[j]? = some v → Value.okWide Try.prog W .any base t v := hval0
  have hW' := hW
  obtain ⟨p, q, hA0, hV, rfl, hfz, hnd⟩ := hW
  have hA : DataW.TrodAll enc Try.prog W 0 (fun _ => true) true Try.f7.params.toList args.toList ds p := hA0
  rw [Try.params7] at hA hval
  obtain ⟨v0, vs0, d0, ds0, p0, q0, hargs, rfl, rfl, h0, r0⟩ := trodAll_cons hA
  obtain ⟨rfl, rfl, rfl⟩ := trodAll_nil r0
  obtain rfl : args = #[v0] := by cases args; simp_all
  obtain ⟨rfl, rfl⟩ := trodVars_none hV
  have k0 := h0
  have lt0 : ∀ x ∈ p0, x.block < W.heap.size := by obtain ⟨m, hm⟩ := k0; exact DataW.trod_lt m _ _ _ hm
  obtain ⟨a00, len0, cap0, rfl⟩ := okWide_slice Try.underlying22 (hval 0 22 v0 rfl rfl)
  obtain ⟨A0, l0, c0, e0, ir0⟩ : ∃ A l c, Value.slice a00 len0 cap0 = .slice A (List.length l) c ∧ InCode W A l c := by obtain ⟨fuel, hf⟩ := h0; simp only [Value.cells] at hf; exact open_code hf
  rw [e0] at hval hW' k0 ⊢
  clear hA0 hval0
  refine (lawCng_c A0 l0 c0 W ir0).mono fun e W' ⟨he, bel⟩ => ?_
  subst he
  exact ⟨_, rfl, _, _, _, [], _, [], hW', trodAll_mk1 (shut_bool Try.underlying4 _), (trodAll_cons_mk (Below.trod laidOut (by kernel_rfl) (of_decide_eq_true (by kernel_rfl)) k0 bel lt0) trodAll_mk0), rfl, bel.frame _, fun h => by cases h⟩

theorem fnCongruences_closed : joinedFacts Try.pinned.checked.prog 7 Try.f7 Rows.fnCongruencesSpec Rows.fnCongruencesRow = true := by
  unfold joinedFacts
  rw [fLaid, fRowed, fStops, fEnter, fLift, fMake]
  change _ = true
  kernel_rfl
/-- The statement. -/
theorem fnCongruences_holds : Rows.FnCongruencesSaid :=
  OpenClaim.holds_of_wide 7 Try.f7 rfl rfl rfl rfl rfl rfl rfl ⟨rfl, rfl, rfl, rfl, rfl⟩ rfl rfl rfl rfl rfl (by kernel_rfl) Try.func7 fnCongruences_closed
    (of_decide_eq_true (by kernel_rfl)) (by unfold Func.isWrapper; first | (rw [if_pos (by decide +kernel)]; kernel_rfl) | (rw [if_neg (by decide +kernel)]; exact ⟨rfl, rfl⟩))
    (fun os started H enc _ => fnCongruences_lifted os started H enc)
end Go.Proofs.Yticmopedbgoflaa
