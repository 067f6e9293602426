/- The row of FnShifted: proved for every input, no condition beyond those of the row. -/
import Derived.Test.YthajmffhgbenpaaPkCc
import Derived.Test.YthajmffhgbenpaaPkCd
import Derived.Test.YthajmffhgbenpaaPkCe
import Derived.Test.YthajmffhgbenpaaPkDr
import Derived.Test.YthajmffhgbenpaaQFacts

namespace Go.Proofs.Ythajmffhgbenpaa
set_option linter.unusedSimpArgs false
set_option linter.unusedVariables false
open Go.RowKit
set_option linter.unusedVariables false

theorem cloRet_rd {o : Option (List (List Int) × Int)} {w w' : World} {e : Ending} (h : CloRet o w e w') : ∃ A c, e = .returned (.tuple #[.slice A (oC o).1.length c, .int .i64 (oC o).2, .bool o.isSome]) ∧ RdR RSI w' A (oC o).1 ∧ Grows w w' := by
  obtain ⟨v, vs, h1, h2, h3⟩ := h
  obtain ⟨A, c, rfl, h4, _⟩ := h2.val
  exact ⟨A, c, h1, h4, h3⟩
theorem shf_keep {w W : World} {p q r : Addr} {x y z : Value} (h : (w.cell? p = some x ∧ p.block < w.heap.size) ∧ (w.cell? q = some y ∧ q.block < w.heap.size) ∧ (w.cell? r = some z ∧ r.block < w.heap.size)) (g : Grows w W) :
    W.cell? p = some x ∧ W.cell? q = some y ∧ W.cell? r = some z :=
  ⟨(g.cell (p := p) h.1.2).trans h.1.1, (g.cell (p := q) h.2.1.2).trans h.2.1.1, (g.cell (p := r) h.2.2.2).trans h.2.2.1⟩
section
set_option maxHeartbeats 2000000
set_option maxRecDepth 100000
theorem lawFsf_c (A : Option Addr) (lc : List Int) (cap : Nat) (w : World) (hi : InCode w A lc cap) :
    Calls Try.prog 4 #[.slice A lc.length cap] w fun e w' => e = .returned (.bool true) ∧ Grows w w' := by
  obtain ⟨hr, hc1, hc2⟩ := hi
  simp only [maxLen] at hc2
  have CB := big_c A lc.length cap w (by omega)
  by_cases hn : lc.length ≤ 1048576
  rotate_left
  · rw [decide_eq_true (by omega)] at CB
    have CB' := Lib.hid CB
    clear CB
    go_enter Try.func4, Try.ntmps4
    go_wp2_with fail
    refine CB'.out.mono ?_; rintro e w' ⟨rfl, rfl⟩
    go_wp2_with fail
    go_ret
    exact ⟨rfl, by exact bel0⟩
  · rw [decide_eq_false (by omega)] at CB
    have CB' := Lib.hid CB
    have CD := Lib.hid (drawCloT_c A lc.length cap w hr hn)
    clear CB
    go_enter Try.func4, Try.ntmps4
    go_wp2_with fail
    refine CB'.out.mono ?_; rintro e w' ⟨rfl, h0⟩
    have h1 := h0.symm
    clear h0
    subst h1
    go_wp2_with fail
    refine CD.out.mono ?_; rintro e w2 ⟨r, c, V, cv, l, T, ct, t, rfl, hl, hl2, hT, o2, o3, HG⟩
    have rd2 := o2.rd'
    have rdt := o3.rd'
    have h_w2 := Below.size HG
    have CS := Lib.hid fun W h h' => (iClo_c r c V T l t l.length cv t.length ct W rfl h (by omega) rfl h' (by omega)).mono fun _ _ h => cloRet_rd h
    have CT := Lib.hid fun W h h' => (sClo_c r c V T l t l.length cv t.length ct W rfl h (by omega) rfl h' (by omega)).mono fun _ _ h => cloGet_out h
    have CU := Lib.hid fun U cu W h h' => (iClo_c r c V U l (shS l t t.length) l.length cv t.length cu W rfl h (by omega) (shS_length l t _) h' (by omega)).mono fun _ _ h => cloRet_rd h
    have HF := Lib.hid fun L d (h : closO ⟨r, c, l⟩ t = some (L, d)) hr => shf_names h hr hl2 hT
    have HFL := Lib.hid fun L d (h : closO ⟨r, c, l⟩ t = some (L, d)) => shf_len h
    generalize closO ⟨r, c, l⟩ t = S at *
    clear CD hr hc1 hc2 o2 o3 hT
    go_wp2_with fail
    cases S with
    | none =>
      have e0 : oC (none : Option (List (List Int) × Int)) = ([], 0) := rfl
      rw [e0] at CS CT
      clear HF HFL CU
      refine (CS.out _ (by exact Rd.grows rd2 (by exact bel0)) (by exact Rd.grows rdt (by exact bel0))).mono ?_; rintro e w3 ⟨A3, c3, rfl, rd3, g_w3⟩
      have s_w3 := Below.size g_w3; (try simp at s_w3)
      replace rd2 := rd2.grows (w' := w3) (by exact bel1 g_w3)
      replace rdt := rdt.grows (w' := w3) (by exact bel1 g_w3)
      have mg : MBox w3 (w2.heap.size) r c (.slice V l.length cv) := MBox.grows (MBox.new_ w2 r c (.slice V l.length cv) 26 (by simp)) (w' := w3) (by exact bel1 g_w3)
      have mg_0 := mg.c0; have mg_1 := mg.c1; have mg_2 := mg.c2; have mg_l := mg.lt; have mg_f := mg.fz
      replace HG : Grows w w3 := by exact bel2 g_w3 HG
      have h_w3 := Below.size HG
      go_wp2_with fail
      refine (CT.out _ (by exact Rd.grows rd2 (by exact bel0)) (by exact Rd.grows rdt (by exact bel0))).mono ?_; rintro e w4 ⟨A4, c4, rfl, rd4, g_w4⟩
      have s_w4 := Below.size g_w4; (try simp at s_w4)
      replace rd2 := rd2.grows (w' := w4) (by exact bel1 g_w4)
      replace rdt := rdt.grows (w' := w4) (by exact bel1 g_w4)
      clear mg_0 mg_1 mg_2 mg_l mg_f
      replace mg := mg.grows (w' := w4) (by exact bel1 g_w4)
      have mg_0 := mg.c0; have mg_1 := mg.c1; have mg_2 := mg.c2; have mg_l := mg.lt; have mg_f := mg.fz
      replace HG : Grows w w4 := by exact bel2 g_w4 HG
      have h_w4 := Below.size HG
      go_wp2_with fail
      go_ret
      exact ⟨by first | rfl | simp, by exact bel1 HG⟩
    | some s =>
      obtain ⟨L, d⟩ := s
      have e0 : oC (some (L, d)) = (L, d) := rfl
      rw [e0] at CS CT
      have hlen := HFL.out L d rfl
      obtain ⟨N, hN⟩ : ∃ N, L.length = N := ⟨_, rfl⟩
      simp only [hN] at CS CT
      rw [hN] at hlen
      by_cases hr0 : r = 0
      · subst hr0
        clear HF HFL CU hN
        refine (CS.out _ (by exact Rd.grows rd2 (by exact bel0)) (by exact Rd.grows rdt (by exact bel0))).mono ?_; rintro e w3 ⟨A3, c3, rfl, rd3, g_w3⟩
        have s_w3 := Below.size g_w3; (try simp at s_w3)
        replace rd2 := rd2.grows (w' := w3) (by exact bel1 g_w3)
        replace rdt := rdt.grows (w' := w3) (by exact bel1 g_w3)
        have mg : MBox w3 (w2.heap.size) 0 c (.slice V l.length cv) := MBox.grows (MBox.new_ w2 0 c (.slice V l.length cv) 26 (by simp)) (w' := w3) (by exact bel1 g_w3)
        have mg_0 := mg.c0; have mg_1 := mg.c1; have mg_2 := mg.c2; have mg_l := mg.lt; have mg_f := mg.fz
        replace HG : Grows w w3 := by exact bel2 g_w3 HG
        have h_w3 := Below.size HG
        go_wp2_with fail
        refine (CT.out _ (by exact Rd.grows rd2 (by exact bel0)) (by exact Rd.grows rdt (by exact bel0))).mono ?_; rintro e w4 ⟨A4, c4, rfl, rd4, g_w4⟩
        have s_w4 := Below.size g_w4; (try simp at s_w4)
        replace rd2 := rd2.grows (w' := w4) (by exact bel1 g_w4)
        replace rdt := rdt.grows (w' := w4) (by exact bel1 g_w4)
        clear mg_0 mg_1 mg_2 mg_l mg_f
        replace mg := mg.grows (w' := w4) (by exact bel1 g_w4)
        have mg_0 := mg.c0; have mg_1 := mg.c1; have mg_2 := mg.c2; have mg_l := mg.lt; have mg_f := mg.fz
        replace HG : Grows w w4 := by exact bel2 g_w4 HG
        have h_w4 := Below.size HG
        clear rd3 rd4
        go_wp2_with fail
        go_ret
        exact ⟨by first | rfl | simp, by exact bel1 HG⟩
      · have hr1 : (r == 0) = false := by simpa using hr0
        obtain ⟨hcc, hll, hlb, htb, hrow, hlaw⟩ := HF.out L d rfl hr0
        subst hcc
        have HN := Lib.hid hN
        have HLB := Lib.hid hlb
        have HTB := Lib.hid htb
        have HRW := Lib.hid hrow
        have HLW := Lib.hid hlaw
        clear HF HFL hN hlb htb hrow hlaw e0
        refine (CS.out _ (by exact Rd.grows rd2 (by exact bel0)) (by exact Rd.grows rdt (by exact bel0))).mono ?_; rintro e w3 ⟨A3, c3, rfl, rd3, g_w3⟩
        have s_w3 := Below.size g_w3; (try simp at s_w3)
        replace rd2 := rd2.grows (w' := w3) (by exact bel1 g_w3)
        replace rdt := rdt.grows (w' := w3) (by exact bel1 g_w3)
        have mg : MBox w3 (w2.heap.size) r (t.length : Int) (.slice V l.length cv) := MBox.grows (MBox.new_ w2 r (t.length : Int) (.slice V l.length cv) 26 (by simp)) (w' := w3) (by exact bel1 g_w3)
        have mg_0 := mg.c0; have mg_1 := mg.c1; have mg_2 := mg.c2; have mg_l := mg.lt; have mg_f := mg.fz
        replace HG : Grows w w3 := by exact bel2 g_w3 HG
        have h_w3 := Below.size HG
        go_wp2_with fail
        refine (CT.out _ (by exact Rd.grows rd2 (by exact bel0)) (by exact Rd.grows rdt (by exact bel0))).mono ?_; rintro e w4 ⟨A4, c4, rfl, rd4, g_w4⟩
        have s_w4 := Below.size g_w4; (try simp at s_w4)
        replace rd2 := rd2.grows (w' := w4) (by exact bel1 g_w4)
        replace rdt := rdt.grows (w' := w4) (by exact bel1 g_w4)
        clear mg_0 mg_1 mg_2 mg_l mg_f
        replace mg := mg.grows (w' := w4) (by exact bel1 g_w4)
        have mg_0 := mg.c0; have mg_1 := mg.c1; have mg_2 := mg.c2; have mg_l := mg.lt; have mg_f := mg.fz
        replace rd3 := rd3.grows RSI.good (w' := w4) (by exact bel1 g_w4)
        replace HG : Grows w w4 := by exact bel2 g_w4 HG
        have h_w4 := Below.size HG
        clear rd4 CS CT
        go_wp2_with fail
        go_loopw [11, 12] (fun s11 s12 wr => ∃ (I : Nat), s12 = .int .i64 (I : Nat) ∧ I ≤ t.length ∧ Own wr w4.heap.size s11 (shS l t I) ∧ Grows w4 wr) (fun _ i _ => t.length - (intOf i).toNat)
        case atStart => exact ⟨0, rfl, Nat.zero_le _, Own.new_ _ rfl (Nat.le_refl _), by exact bel0⟩
        case round =>
          obtain ⟨I, rfl, hI, ho, hgr⟩ := hrel
          obtain ⟨A5, c5, rfl, ro5, _⟩ := ho.val
          obtain ⟨w5, rfl⟩ : ∃ x : World, x = wr := ⟨_, rfl⟩
          have s5 := Below.size hgr
          have hsl := Lib.hid (shS_length l t I)
          by_cases hlt : I < t.length
          · have i3 : (I : Int) < (t.length : Int) := by omega
            have i4 : (I : Int) < (l.length : Int) := by omega
            obtain ⟨bb, ob, rfl, hbb, hcb⟩ := rd2.at_ I (by omega)
            obtain ⟨bt, ot, rfl, hbt, hct⟩ := rdt.at_ I (by omega)
            have hy := HLB.out I
            have hx := HTB.out I
            have HSS := Lib.hid (shS_succ l t I)
            generalize nth l I = y at *
            generalize nth t I = x at *
            generalize shS l t I = F at *
            have k1 : IntKind.i64.wrap (2 * y) = 2 * y := IntWalk.i64_in _ (by omega)
            have k2 : IntKind.i64.wrap (x + 2 * y) = x + 2 * y := IntWalk.i64_in _ (by omega)
            have hk := Lib.hid (show ((w4.cell? ⟨w2.heap.size, 2, none⟩ = some (.slice (some ⟨bb, ob, none⟩) l.length cv) ∧ w2.heap.size < w4.heap.size) ∧ (w4.cell? ⟨bt, ot + I, none⟩ = some (.int .i64 x) ∧ bt < w4.heap.size) ∧ (w4.cell? ⟨bb, ob + I, none⟩ = some (.int .i64 y) ∧ bb < w4.heap.size)) from ⟨⟨mg_2, mg_l⟩, ⟨hct, hbt⟩, ⟨hcb, hbb⟩⟩)
            have mg5 := mg.grows hgr
            clear mg_0 mg_1 mg_2 mg_l mg_f hcb hct
            have m0 := mg5.c0; have m1 := mg5.c1; have m2 := mg5.c2; have ml := mg5.lt; have mf := mg5.fz
            go_wp2_with fail
            (refine wp_region_heldL (fun W => W.cell? ⟨w2.heap.size, 2, none⟩ = some (.slice (some ⟨bb, ob, none⟩) l.length cv) ∧ W.cell? ⟨bt, ot + I, none⟩ = some (.int .i64 x) ∧ W.cell? ⟨bb, ob + I, none⟩ = some (.int .i64 y)) (by kernel_rfl) (by ((try dsimp only); (first | exact shf_keep hk.out (by exact bel1 hgr) | exact shf_keep hk.out (by exact bel1 gg7)))) (fun hHeld => ?_); refine heldL_take (i := 0) (v := _) (by rfl) (by kernel_rfl) (by kernel_rfl) (by kernel_rfl) (fun _ _ _ h => h) (Or.inl ⟨by rfl, fun wS hSw => by ((try dsimp only at hSw); go_simp; (try with_reducible rfl))⟩) (by assumption) ?_; simp only [Act.put, List.setIfInBounds_toArray, List.set_cons_zero, List.set_cons_succ]; refine heldL_take (i := 1) (v := _) (by rfl) (by kernel_rfl) (by kernel_rfl) (by kernel_rfl) (fun _ _ _ h => h) (Or.inl ⟨by rfl, fun wS hSw => by ((try dsimp only at hSw); go_simp; (try with_reducible rfl))⟩) (by assumption) ?_; simp only [Act.put, List.setIfInBounds_toArray, List.set_cons_zero, List.set_cons_succ]; refine heldL_take (i := 2) (v := _) (by rfl) (by kernel_rfl) (by kernel_rfl) (by kernel_rfl) (fun _ _ _ h => h) (Or.inl ⟨by rfl, fun wS hSw => by ((try dsimp only at hSw); go_simp; (try with_reducible rfl))⟩) (by assumption) ?_; simp only [Act.put, List.setIfInBounds_toArray, List.set_cons_zero, List.set_cons_succ]; refine heldL_take (i := 3) (v := _) (by rfl) (by kernel_rfl) (by kernel_rfl) (by kernel_rfl) (fun _ _ _ h => h) (Or.inl ⟨by rfl, fun wS hSw => by ((try dsimp only at hSw); go_simp; (try with_reducible rfl))⟩) (by assumption) ?_; simp only [Act.put, List.setIfInBounds_toArray, List.set_cons_zero, List.set_cons_succ]; refine heldL_take (i := 4) (v := _) (by rfl) (by kernel_rfl) (by kernel_rfl) (by kernel_rfl) (fun _ _ _ h => h) (Or.inl ⟨by rfl, fun wS hSw => by ((try dsimp only at hSw); go_simp; (try with_reducible rfl))⟩) (by assumption) ?_; simp only [Act.put, List.setIfInBounds_toArray, List.set_cons_zero, List.set_cons_succ]; refine heldL_take (i := 5) (v := _) (by rfl) (by kernel_rfl) (by kernel_rfl) (by kernel_rfl) (fun _ _ _ h => h) (Or.inl ⟨by rfl, fun wS hSw => by ((try dsimp only at hSw); go_simp; (try with_reducible rfl))⟩) (by assumption) ?_; simp only [Act.put, List.setIfInBounds_toArray, List.set_cons_zero, List.set_cons_succ]; refine heldL_take (i := 6) (v := _) (by rfl) (by kernel_rfl) (by kernel_rfl) (by kernel_rfl) (fun _ _ _ h => h) (Or.inl ⟨by rfl, fun wS hSw => by ((try dsimp only at hSw); go_simp; (try with_reducible rfl))⟩) (by assumption) ?_; simp only [Act.put, List.setIfInBounds_toArray, List.set_cons_zero, List.set_cons_succ]; refine heldL_take (i := 7) (v := _) (by rfl) (by kernel_rfl) (by kernel_rfl) (by kernel_rfl) (fun _ _ _ h => h) (Or.inl ⟨by rfl, fun wS hSw => by ((try dsimp only at hSw); go_simp; (try with_reducible rfl))⟩) (by assumption) ?_; simp only [Act.put, List.setIfInBounds_toArray, List.set_cons_zero, List.set_cons_succ]; refine heldL_take (i := 8) (v := _) (by rfl) (by kernel_rfl) (by kernel_rfl) (by kernel_rfl) (fun _ _ _ h => h) (Or.inl ⟨by rfl, fun wS hSw => by ((try dsimp only at hSw); go_simp; (try with_reducible rfl))⟩) (by assumption) ?_; simp only [Act.put, List.setIfInBounds_toArray, List.set_cons_zero, List.set_cons_succ]; refine heldL_take (i := 9) (v := _) (by rfl) (by kernel_rfl) (by kernel_rfl) (by kernel_rfl) (fun _ _ _ h => h) (Or.inl ⟨by rfl, fun wS hSw => by ((try dsimp only at hSw); go_simp; (try with_reducible rfl))⟩) (by assumption) ?_; simp only [Act.put, List.setIfInBounds_toArray, List.set_cons_zero, List.set_cons_succ]; refine heldL_take (i := 10) (v := _) (by rfl) (by kernel_rfl) (by kernel_rfl) (by kernel_rfl) (fun _ _ _ h => h) (Or.inl ⟨by rfl, fun wS hSw => by ((try dsimp only at hSw); go_simp; (try with_reducible rfl))⟩) (by assumption) ?_; simp only [Act.put, List.setIfInBounds_toArray, List.set_cons_zero, List.set_cons_succ]; refine heldL_take (i := 11) (v := _) (by rfl) (by kernel_rfl) (by kernel_rfl) (by kernel_rfl) (fun _ _ _ h => h) (Or.inl ⟨by rfl, fun wS hSw => by ((try dsimp only at hSw); go_simp; (try with_reducible rfl))⟩) (by assumption) ?_; simp only [Act.put, List.setIfInBounds_toArray, List.set_cons_zero, List.set_cons_succ]; refine heldL_step (i := 12) (by kernel_rfl) (by rfl) (fun K hK => ?_); go_simp; refine hK.out _ _ (by ((try dsimp only); (first | exact shf_keep hk.out (by exact bel1 hgr) | exact shf_keep hk.out (by exact bel1 gg7)))) (fun hHeld => ?_); clear hK K; (try simp only [Act.put, List.setIfInBounds_toArray, List.set_cons_zero, List.set_cons_succ]); refine heldL_step (i := 13) (by kernel_rfl) (by rfl) (fun K hK => ?_); (refine step_app1 rfl (.tmp 63) (.tmp 75) rfl _ (x + 2 * y) w4.heap.size _ F (by rfl) ho.drew (by rfl) (by have := hsl.out; omega) (by simp; omega) ?_; intro v7 w7 ho7 hg7 hv7; have gg7 : Grows w4 w7 := Below.trans (show Grows w4 w5.drew by exact bel1 hgr) (below_app ho.drew (by simp; omega) hg7); obtain ⟨A7, c7, rfl, _, _⟩ := ho7.val; clear hg7 hv7) ; refine hK.out _ _ (by ((try dsimp only); (first | exact shf_keep hk.out (by exact bel1 hgr) | exact shf_keep hk.out (by exact bel1 gg7)))) (fun hHeld => ?_); clear hK K; (try simp only [Act.put, List.setIfInBounds_toArray, List.set_cons_zero, List.set_cons_succ]); refine heldL_take (i := 14) (v := _) (by rfl) (by kernel_rfl) (by kernel_rfl) (by kernel_rfl) (fun _ _ _ h => h) (Or.inl ⟨by rfl, fun wS hSw => by ((try dsimp only at hSw); go_simp; (try with_reducible rfl))⟩) (by assumption) ?_; simp only [Act.put, List.setIfInBounds_toArray, List.set_cons_zero, List.set_cons_succ]; refine wpAnyH_done (by kernel_rfl) ?_ _; refine NoPanic.normal ?_)
            have e1 : (F ++ [x + 2 * y]).length = F.length + 1 := by simp
            rw [e1] at ho7
            clear e1
            go_wp2_with fail
            go_round
            case rel => exact ⟨I + 1, by go_num, by omega, (by rw [HSS.out]; exact ho7), gg7⟩
            case measure => simp [intOf]; omega
          · obtain rfl : I = t.length := by omega
            have i3 : ¬ (t.length : Int) < (t.length : Int) := by omega
            have mg5 := mg.grows hgr
            clear mg_0 mg_1 mg_2 mg_l mg_f
            have mg_0 := mg5.c0; have mg_1 := mg5.c1; have mg_2 := mg5.c2; have mg_l := mg5.lt; have mg_f := mg5.fz
            have rd5 := rd2.grows hgr
            have rr5 := rd3.grows RSI.good hgr
            have ros := ho.rd'
            have hg5 : Grows w w5 := by exact bel2 hgr HG
            have CUU := Lib.hid fun W h h' => CU.out A5 c5 W h h'
            have HSL := Lib.hid hsl.out
            clear rdt rd2 rd3 ro5 ho CU HTB HLB mg
            rw [hsl.out]
            generalize closO ⟨r, (t.length : Int), l⟩ (shS l t t.length) = S2 at *
            generalize shS l t t.length = F at *
            go_wp2_with fail
            cases S2 with
            | none =>
              have e0 : oC (none : Option (List (List Int) × Int)) = ([], 0) := rfl
              rw [e0] at CUU
              clear HLW
              refine (CUU.out _ (by exact (Rd.grows rd5 (by exact bel0))) (by exact (Rd.grows ros (by exact bel0)))).mono ?_; rintro e w6 ⟨A6, c6, rfl, rd6, g6⟩
              go_wp2_with fail
              go_ret
              exact ⟨rfl, by exact bel2 g6 hg5⟩
            | some s2 =>
              obtain ⟨L2, d2⟩ := s2
              have e0 : oC (some (L2, d2)) = (L2, d2) := rfl
              rw [e0] at CUU
              obtain ⟨hd2, hL2⟩ := HLW.out L2 d2 rfl
              obtain rfl : d2 = d := hd2
              obtain rfl : L2 = L.map mv2 := hL2
              simp only [List.length_map, HN.out] at CUU
              clear HLW e0
              refine (CUU.out _ (by exact (Rd.grows rd5 (by exact bel0))) (by exact (Rd.grows ros (by exact bel0)))).mono ?_; rintro e w6 ⟨A6, c6, rfl, rd6, g6⟩
              have rr6 := rr5.grows RSI.good g6
              have hg6 : Grows w w6 := by exact bel2 g6 hg5
              clear mg_0 mg_1 mg_2 mg_l mg_f mg5 rd5 rr5 ros CUU hg5 hgr
              go_wp2_with fail
              go_loopw [16, 17] (fun s16 s17 wr => ∃ (i : Nat) (vs : List Value), s17 = .int .i64 (i : Nat) ∧ i ≤ N ∧ RowsO wr w6.heap.size s16 vs ((L.take i).map mv2) ∧ Grows w6 wr) (fun _ i _ => N - (intOf i).toNat)
              case atStart => exact ⟨0, [], rfl, Nat.zero_le _, RowsO.new_ _ rfl (Nat.le_refl _), by exact bel0⟩
              case round =>
                obtain ⟨i, vs, rfl, hi, ho, hgr⟩ := hrel
                obtain ⟨A7, c7, rfl, ro7, _⟩ := ho.val
                obtain ⟨ws, rfl⟩ : ∃ x : World, x = wr := ⟨_, rfl⟩
                have s7 := Below.size hgr
                have rr7 := rr6.grows RSI.good hgr
                by_cases hlt : i < N
                · have i3 : (i : Int) < (N : Int) := by omega
                  have hiL : i < L.length := by rw [HN.out]; exact hlt
                  obtain ⟨hv1, hv6, hvb⟩ := HRW.out i hiL
                  obtain ⟨b8, o8, u8, rfl, hb8, hc8, A8, c8, rfl, hr8, _⟩ := rr7.at_ i hiL
                  have HT := Lib.hid (mv2_take L hiL)
                  have HLK := Lib.hid (show ((L.take i).map mv2).length = i by rw [List.length_map, List.length_take, HN.out]; omega)
                  generalize (L.take i).map mv2 = M at *
                  generalize L[i] = v at *
                  have HSV := Lib.hid (mv2_set hv1)
                  obtain ⟨q, hq⟩ : ∃ q, nth v 0 = q := ⟨_, rfl⟩
                  have hqb := hvb 0
                  rw [hq] at hqb
                  have hqb1 := hqb.1
                  have hqb2 := hqb.2
                  have HQ := Lib.hid hq
                  rw [hq] at HSV
                  have k2 : IntKind.i64.wrap (q + 2) = q + 2 := IntWalk.i64_in _ (by omega)
                  clear hvb hqb hq hiL rr7
                  go_upto_region 23 with (at_builtin; refine wpList_app rfl (.tmp 93) (.tmp 97) rfl _ ws.heap.size _ [] (by rfl) (Own.new_ ws rfl (Nat.le_refl _)) A8 v v.length c8 (by rfl) rfl (by exact (Rd.grows hr8 (by exact bel0))) (by simp; omega) (by simp) ?_; intro v4 w4 ho4 hg4 _; have g4 : Grows ws w4 := Below.trans (show Grows ws (ws.alloc (.cells #[] 3)) by exact bel0) (below_app (Own.new_ ws rfl (Nat.le_refl _)) (by simp) hg4); rw [List.nil_append] at ho4; clear hg4; obtain ⟨gy, cy, rfl, hgy1, hgy2⟩ := ho4.form (by omega); have hcy := ho4.cell 0 (by omega); have hfy := ho4.free 0; rw [HQ.out] at hcy)
                  obtain ⟨w5', hw5⟩ : ∃ x, x = w4.setCell ⟨gy, 0, none⟩ (.int .i64 (q + 2)) := ⟨_, rfl⟩
                  have oy := ho4.set 0 (q + 2)
                  rw [← hw5, HSV.out] at oy
                  have g5 : Grows ws w5' := by rw [hw5]; exact bel1 g4
                  have HW5 := Lib.hid hw5
                  have o5 := ho.grows g5
                  have s5 := Below.size g5
                  have s4 := Below.size g4
                  clear hw5 ho4
                  go_upto_region 24 with fail
                  rw [← HW5.out]
                  have HAP := Lib.hid (show ∀ g, (Value.slice (some ⟨gy, 0, none⟩) v.length cy).ownBlock = some g → (Value.slice A7 M.length c7).ownBlock ≠ some g ∧ ∀ (i : Nat) (u' : Value), vs[i]? = some u' → u'.ownBlock ≠ some g from fun g hg => by
                    have e : gy = g := Option.some.inj hg
                    refine ⟨fun e2 => ?_, fun j u' hu e2 => ?_⟩
                    · have := (World.ownsRow.lt ho.own g e2).2; omega
                    · have := (ho.lt hu e2).2; omega)
                  have oyv : Own w5' w6.heap.size (.slice (some ⟨gy, 0, none⟩) v.length cy) (mv2 v) := by
                    have h := oy.less (B' := w6.heap.size) (by omega)
                    exact h
                  clear hcy hfy hr8 hc8
                  go_wp2_with (at_builtin; refine wpList_appO1 rfl (.tmp 105) (.tmp 107) rfl _ (.slice (some ⟨gy, 0, none⟩) v.length cy) (mv2 v) w6.heap.size _ vs M (by rfl) o5 oyv HAP.out rfl (by rfl) (by have := HLK.out; omega) (by omega) ?_; intro v9 w9 ho9 hg9 hv9; obtain ⟨A9, c9, rfl, _, _⟩ := ho9.val)
                  have gg9 : Grows w6 w9 := Below.trans (show Grows w6 w5' by exact bel2 g5 hgr) ((Below.refl _ _).grown hg9 (by omega) fun k hk => (World.ownsRow.lt o5.own k hk).1)
                  have e1 : (M ++ [mv2 v]).length = M.length + 1 := by simp
                  rw [e1] at ho9
                  clear e1
                  go_round
                  case rel => exact ⟨i + 1, _, by go_num, by omega, (by rw [HT.out]; exact ho9), gg9⟩
                  case measure => simp [intOf]; omega
                · obtain rfl : i = N := by omega
                  have i3 : ¬ (i : Int) < (i : Int) := by omega
                  have HLM := Lib.hid (show (L.map mv2).length = i by rw [List.length_map, HN.out])
                  have e1 : L.take i = L := List.take_of_length_le (by rw [HN.out]; exact Nat.le_refl _)
                  rw [e1] at ho ro7 ⊢
                  clear e1
                  have HX := Lib.hid (show ∀ x ∈ L.map mv2, x.length ≤ 1024 from fun x hx => by
                    obtain ⟨y, hy, rfl⟩ := List.mem_map.1 hx
                    obtain ⟨j, hj, rfl⟩ := List.getElem_of_mem hy
                    have := (HRW.out j hj).2.1
                    rw [mv2_length]; omega)
                  rw [HLM.out]
                  generalize L.map mv2 = M at *
                  have CQ := Lib.hid fun W h h' => sameRows_c A6 A7 M i c6 c7 W HLM.out h h' (by omega) HX.out
                  clear rr6 rr7 HRW ho
                  go_wp2_with fail
                  refine (CQ.out _ (rd6.grows RSI.good (by exact bel1 hgr)) (ro7.grows RSI.good (by exact bel0))).mono ?_; rintro e w10 ⟨rfl, g10⟩
                  go_wp2_with fail
                  go_ret
                  exact ⟨rfl, by exact bel3 g10 hgr hg6⟩
end
end Go.Proofs.Ythajmffhgbenpaa


namespace Go.Proofs.Ythajmffhgbenpaa
set_option linter.unusedSimpArgs false
set_option linter.unusedVariables false
open Go.ChangeShapes Go.WideShapes Go.ChangeAt Go.RowKit Go.Joins
set_option linter.unusedVariables false

set_option maxRecDepth 100000 in
theorem fnShifted_lifted (os : Os) (started : os.Started) (H : Type) (enc : TypeId × Value → H) :
    ReturnsInHanded {} Try.checked os 4 .any (Rows.fnShiftedSpec.pre6 enc Try.prog Try.f4 Rows.fnShiftedRow.domain false) (Rows.fnShiftedSpec.post enc Try.prog Try.f4 false true false false) := by
  refine returnsInHanded_of_change (C := Try.checked) own started (by kernel_rfl) Try.func4
    (ChangeSpec.witness6 (enc := enc) (C := Try.checked) false ⟨#[], #[.slice none 0 0], []⟩ 8 (by kernel_rfl) (by kernel_rfl) (by kernel_rfl) (by kernel_rfl)) ?_
  intro W base args ds gs before hval0 hW hcnd _
  have hval : ∀ (j : Nat) t v, Try.f4.params[j]? = some t → args[j]? = some v → Value.okWide Try.prog W .any base t v := hval0
  have hW' := hW
  obtain ⟨p, q, hA0, hV, rfl, hfz, hnd⟩ := hW
  have hA : DataW.TrodAll enc Try.prog W 0 (fun _ => true) true Try.f4.params.toList args.toList ds p := hA0
  rw [Try.params4] at hA hval
  obtain ⟨v0, vs0, d0, ds0, p0, q0, hargs, rfl, rfl, h0, r0⟩ := trodAll_cons hA
  obtain ⟨rfl, rfl, rfl⟩ := trodAll_nil r0
  obtain rfl : args = #[v0] := by cases args; simp_all
  obtain ⟨rfl, rfl⟩ := trodVars_none hV
  have k0 := h0
  have lt0 : ∀ x ∈ p0, x.block < W.heap.size := by obtain ⟨m, hm⟩ := k0; exact DataW.trod_lt m _ _ _ hm
  obtain ⟨a00, len0, cap0, rfl⟩ := okWide_slice Try.underlying22 (hval 0 22 v0 rfl rfl)
  obtain ⟨A0, l0, c0, e0, ir0⟩ : ∃ A l c, Value.slice a00 len0 cap0 = .slice A (List.length l) c ∧ InCode W A l c := by obtain ⟨fuel, hf⟩ := h0; simp only [Value.cells] at hf; exact open_code hf
  rw [e0] at hval hW' k0 ⊢
  clear hA0 hval0
  refine (lawFsf_c A0 l0 c0 W ir0).mono fun e W' ⟨he, bel⟩ => ?_
  subst he
  exact ⟨_, rfl, _, _, _, [], _, [], hW', trodAll_mk1 (shut_bool Try.underlying4 _), (trodAll_cons_mk (Below.trod laidOut (by kernel_rfl) (of_decide_eq_true (by kernel_rfl)) k0 bel lt0) trodAll_mk0), rfl, bel.frame _, fun h => by cases h⟩

theorem fnShifted_closed : joinedFacts Try.pinned.checked.prog 4 Try.f4 Rows.fnShiftedSpec Rows.fnShiftedRow = true := by
  unfold joinedFacts
  rw [fLaid, fRowed, fStops, fEnter, fLift, fMake]
  change _ = true
  kernel_rfl
/-- The statement. -/
theorem fnShifted_holds : Rows.FnShiftedSaid :=
  OpenClaim.holds_of_wide 4 Try.f4 rfl rfl rfl rfl rfl rfl rfl ⟨rfl, rfl, rfl, rfl, rfl⟩ rfl rfl rfl rfl rfl (by kernel_rfl) Try.func4 fnShifted_closed
    (of_decide_eq_true (by kernel_rfl)) (by unfold Func.isWrapper; first | (rw [if_pos (by decide +kernel)]; kernel_rfl) | (rw [if_neg (by decide +kernel)]; exact ⟨rfl, rfl⟩))
    (fun os started H enc _ => fnShifted_lifted os started H enc)
end Go.Proofs.Ythajmffhgbenpaa
