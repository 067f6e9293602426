/- The row of FnMembers: proved for every input, no condition beyond those of the row. -/
import Derived.Test.YticmopedbgoflaaPkDr
import Derived.Test.YticmopedbgoflaaPkH
import Derived.Test.YticmopedbgoflaaQDrwM
import Derived.Test.YticmopedbgoflaaQFacts
import Derived.Test.YticmopedbgoflaaQLwK
import Derived.Test.YticmopedbgoflaaQMemT

namespace Go.Proofs.Yticmopedbgoflaa
set_option linter.unusedSimpArgs false
set_option linter.unusedVariables false
open Go.RowKit
set_option linter.unusedVariables false

/-- what the law needs of a lattice and a vector -/
structure MemF (r c : Int) (l v : List Int) : Prop where
  no : latB r c l = false → crdO ⟨r, c, l⟩ v = none
  mul : ∀ x, crdO ⟨r, c, l⟩ v = some x → ∀ p, mulO ⟨1, x.length, x⟩ ⟨r, c, l⟩ = some p → p.l = v
  law : latB r c l = true → ∀ s, stkO ⟨r, c, l⟩ ⟨1, v.length, v⟩ = some s → ∀ b, basO s = some b → (crdO ⟨r, c, l⟩ v).isSome = eqMat b.r b.c b.l r c l
theorem memF (r c : Int) (l v : List Int) : MemF r c l v := by
  refine ⟨fun h => crdO_no (a := ⟨r, c, l⟩) (.inl h), fun x hx p hp => ?_, fun h s hs b hb => ?_⟩
  · cases hl : latB r c l
    · rw [crdO_no (a := ⟨r, c, l⟩) (.inl hl)] at hx; cases hx
    · obtain ⟨hm, _⟩ := latB_parts hl
      obtain ⟨R, C, rfl, rfl, _, _, hlen, _⟩ := isMat_nat hm
      obtain ⟨_, hv, hxl, hlc⟩ := crdO_lc hx
      obtain ⟨_, _, hp1, hp2⟩ := mulO_cells (R := 1) (K := R) (C := C) (a := x) (b := l) (by rw [hxl] at hp; exact hp)
      refine nth_ext (by rw [hp1, Nat.one_mul]; exact hv.symm) fun j hj => ?_
      rw [hp1, Nat.one_mul] at hj
      have := hp2 0 j (by omega) hj
      rw [Nat.zero_mul, Nat.zero_add] at this
      rw [this, hlc j hj]
      unfold lc
      refine sumN_congr fun k _ => ?_
      rw [Nat.zero_mul, Nat.zero_add]; rfl
  · obtain ⟨hm, _⟩ := latB_parts h
    obtain ⟨R, C, rfl, rfl, _, _, hlen, _⟩ := isMat_nat hm
    exact mem_law h hs hb
section
set_option maxHeartbeats 8000000
set_option maxRecDepth 10000
theorem lawMem_c (A : Option Addr) (lc : List Int) (cap : Nat) (w : World) (hi : InCode w A lc cap) :
    Calls Try.prog 6 #[.slice A lc.length cap] w fun e w' => e = .returned (.bool true) ∧ Grows w w' := by
  obtain ⟨hr, hc1, hc2⟩ := hi
  simp only [maxLen] at hc2
  have CB := big_c A lc.length cap w (by omega)
  by_cases hn : lc.length ≤ 1048576
  rotate_left
  · rw [decide_eq_true (by omega)] at CB
    have CB' := Lib.hid CB
    clear CB
    go_enter Try.func6, Try.ntmps6
    go_wp2_with fail
    refine CB'.out.mono ?_; rintro e w' ⟨rfl, rfl⟩
    go_wp2_with fail
    go_ret
    exact ⟨rfl, by exact bel0⟩
  · rw [decide_eq_false (by omega)] at CB
    have CB' := Lib.hid CB
    have CD := Lib.hid (drawCrd_c A lc.length cap w hr hn)
    clear CB
    go_enter Try.func6, Try.ntmps6
    go_wp2_with fail
    refine CB'.out.mono ?_; rintro e w' ⟨rfl, h0⟩
    have h1 := h0.symm
    clear h0
    subst h1
    go_wp2_with fail
    refine CD.out.mono ?_; rintro e w2 ⟨r, c, V, cv, l, V2, cv2, v, rfl, hl, hl2, o2, o22, HG⟩
    have rd2 := o2.rd'
    have rd22 := o22.rd'
    obtain ⟨_, hcv, hcv2⟩ := o2.caps
    have h_w2 := Below.size HG
    have CI := Lib.hid fun W h h' => (iCrd_c r c V V2 l v l.length cv v.length cv2 W rfl hcv hcv2 h (by omega) rfl h' (by omega)).mono fun _ _ h => lRet_out h
    have CS := Lib.hid fun W h h' => (sCrd_c r c V V2 l v l.length cv v.length cv2 W rfl h (by omega) rfl h' (by omega)).mono fun _ _ h => lRet_out h
    have CL := Lib.hid fun W h => sIsLat_c r c V l l.length cv W rfl h (by omega)
    have CR := Lib.hid fun A n cap W => lrow_c A n cap W
    have CK := Lib.hid fun W h h' => (iStk_c r c 1 v.length V V2 l v l.length v.length cv cv2 W rfl rfl h h' (by omega) (by omega)).mono fun _ _ h => matRet_out h
    have CN := Lib.hid fun A B a b c d W ha hb hl hl2 => sameInts_c A B a b c d W ha hb hl hl2
    obtain ⟨hF1, hF2, hF3⟩ := memF r c l v
    have HX := Lib.hid fun x (h : crdO ⟨r, c, l⟩ v = some x) => show x.length ≤ 24 from by
      cases hlat : latB r c l
      · rw [hF1 hlat] at h; cases h
      · obtain ⟨hm, _⟩ := latB_parts hlat
        obtain ⟨R, C, rfl, rfl, hR, _, _, _⟩ := isMat_nat hm
        have := (crdO_lc h).2.2.1; omega
    have HS := Lib.hid fun s (h : stkO ⟨r, c, l⟩ ⟨1, v.length, v⟩ = some s) => (oM_length (o := some s) fun m h2 => by cases h2; exact stkO_ok h)
    generalize hX : crdO ⟨r, c, l⟩ v = X at *
    generalize latB r c l = lat at *
    generalize stkO ⟨r, c, l⟩ ⟨1, v.length, v⟩ = SO at *
    have hx24 : (oL X).length ≤ 24 := by
      cases X with
      | none => exact Nat.zero_le _
      | some x => exact HX.out x rfl
    have hs576 : (oM SO).l.length ≤ 576 := by
      cases SO with
      | none => exact Nat.zero_le _
      | some s => exact HS.out s rfl
    have hNo : lat = false → X.isSome = false ∧ (oL X).length = 0 := fun h => by rw [hF1 h]; exact ⟨rfl, rfl⟩
    have hMul : X.isSome = true → ∀ p, mulO ⟨1, (oL X).length, oL X⟩ ⟨r, c, l⟩ = some p → p.l = v := fun h p hp => by
      cases X with
      | none => cases h
      | some x => exact hF2 x rfl p hp
    have hLaw : lat = true → ∀ b, SO.isSome = true → basO (oM SO) = some b → X.isSome = eqMat b.r b.c b.l r c l := fun h b h2 h3 => by
      cases SO with
      | none => cases h2
      | some s => exact hF3 h s rfl b h3
    clear hX hF1 hF2 hF3 HX HS
    generalize X.isSome = is at *
    generalize oL X = x at *
    generalize SO.isSome = one at *
    generalize oM SO = S at *
    have CM := Lib.hid fun W Ax cx h1 h2 => (iMul_m 1 x.length r c Ax V x l x.length l.length cx cv W rfl rfl h1 h2 (by omega) (by omega)).mono fun _ _ h => matRet_out h
    have CB2 := Lib.hid fun W As cs h => (iBas_c S.r S.c As S.l S.l.length cs W rfl h (by omega)).mono fun _ _ h => matRet_out h
    have HPL := Lib.hid (oM_length (o := mulO ⟨1, x.length, x⟩ ⟨r, c, l⟩) fun m h => mulO_ok h)
    have HBL := Lib.hid (oM_length (o := basO ⟨S.r, S.c, S.l⟩) fun m h => basO_ok h)
    have hMul' : is = true → (mulO ⟨1, x.length, x⟩ ⟨r, c, l⟩).isSome = true → (oM (mulO ⟨1, x.length, x⟩ ⟨r, c, l⟩)).l = v := fun h h2 => by
      obtain ⟨p, hp⟩ := Option.isSome_iff_exists.1 h2
      rw [hp]; exact hMul h p hp
    have hLaw' : lat = true → one = true → (basO ⟨S.r, S.c, S.l⟩).isSome = true → is = eqMat (oM (basO ⟨S.r, S.c, S.l⟩)).r (oM (basO ⟨S.r, S.c, S.l⟩)).c (oM (basO ⟨S.r, S.c, S.l⟩)).l r c l := fun h h1 h2 => by
      obtain ⟨b, hb⟩ := Option.isSome_iff_exists.1 h2
      rw [hb]; exact hLaw h b h1 hb
    generalize mulO ⟨1, x.length, x⟩ ⟨r, c, l⟩ = PO at *
    generalize basO ⟨S.r, S.c, S.l⟩ = BO at *
    generalize PO.isSome = fits at *
    generalize oM PO = P at *
    generalize BO.isSome = two at *
    generalize oM BO = B at *
    have CE := Lib.hid fun W Ab cb h1 h2 => sameMatrix_c B.r B.c r c Ab V B.l l B.l.length l.length cb cv W rfl rfl h1 h2 (by have := HBL.out; omega) (by omega)
    have HNo := Lib.hid hNo
    have HMul := Lib.hid hMul'
    have HLaw := Lib.hid hLaw'
    clear hNo hMul hLaw hMul' hLaw' CD hr hc1 hc2 hn o2 o22 PO BO
    generalize eqMat B.r B.c B.l r c l = eq at *
    go_wp2_with fail
    refine (CI.out _ (by exact Rd.grows rd2 (by exact bel0)) (by exact Rd.grows rd22 (by exact bel0))).mono ?_; rintro e w3 ⟨v3, rfl, o3, g_w3⟩
    have s_w3 := Below.size g_w3; (try simp at s_w3)
    replace rd2 := rd2.grows (w' := w3) (by exact bel1 g_w3)
    replace rd22 := rd22.grows (w' := w3) (by exact bel1 g_w3)
    have ml : MBox w3 (w2.heap.size) r c (.slice V l.length cv) := MBox.grows (MBox.new_ w2 r c (.slice V l.length cv) 26 (by simp)) (w' := w3) (by exact bel1 g_w3)
    have ml_0 := ml.c0; have ml_1 := ml.c1; have ml_2 := ml.c2; have ml_l := ml.lt; have ml_f := ml.fz
    replace HG : Grows w w3 := by exact bel2 g_w3 HG
    have h_w3 := Below.size HG
    obtain ⟨A3, c3, rfl, rd3, _⟩ := o3.val
    go_wp2_with fail
    refine (CS.out _ (by exact Rd.grows rd2 (by exact bel0)) (by exact Rd.grows rd22 (by exact bel0))).mono ?_; rintro e w4 ⟨v4, rfl, o4, g_w4⟩
    have s_w4 := Below.size g_w4; (try simp at s_w4)
    replace rd2 := rd2.grows (w' := w4) (by exact bel1 g_w4)
    replace rd22 := rd22.grows (w' := w4) (by exact bel1 g_w4)
    clear ml_0 ml_1 ml_2 ml_l ml_f
    replace ml := ml.grows (w' := w4) (by exact bel1 g_w4)
    have ml_0 := ml.c0; have ml_1 := ml.c1; have ml_2 := ml.c2; have ml_l := ml.lt; have ml_f := ml.fz
    replace rd3 := rd3.grows (w' := w4) (by exact bel1 g_w4)
    replace HG : Grows w w4 := by exact bel2 g_w4 HG
    have h_w4 := Below.size HG
    obtain ⟨A4, c4, rfl, _, _⟩ := o4.val
    clear o3 o4 CI CS
    go_wp2_with fail
    refine (CL.out _ (by exact Rd.grows rd2 (by exact bel0))).mono ?_; rintro e w5 ⟨rfl, g_w5⟩
    have s_w5 := Below.size g_w5; (try simp at s_w5)
    replace rd2 := rd2.grows (w' := w5) (by exact bel1 g_w5)
    replace rd22 := rd22.grows (w' := w5) (by exact bel1 g_w5)
    clear ml_0 ml_1 ml_2 ml_l ml_f
    replace ml := ml.grows (w' := w5) (by exact bel1 g_w5)
    have ml_0 := ml.c0; have ml_1 := ml.c1; have ml_2 := ml.c2; have ml_l := ml.lt; have ml_f := ml.fz
    replace rd3 := rd3.grows (w' := w5) (by exact bel1 g_w5)
    replace HG : Grows w w5 := by exact bel2 g_w5 HG
    have h_w5 := Below.size HG
    cases lat
    · obtain ⟨rfl, hx0⟩ := HNo.out rfl
      have hx0' : (x.length : Int) = 0 := by omega
      clear hx0
      go_wp2_with fail
      go_ret
      exact ⟨rfl, by exact bel1 HG⟩
    · have HLaw2 := Lib.hid (HLaw.out rfl)
      clear HLaw HNo CL
      have hPl := HPL.out
      cases is
      case' false =>
        obtain ⟨wz, rfl⟩ : ∃ wz : World, wz = w5 := ⟨_, rfl⟩
        clear HMul CM hPl
      case' true =>
        go_upto_region 11 with fail
        go_cut [9, 10] (fun s9 s10 wx => ∃ gp Ap cp, s9 = .pointer (some ⟨gp, 0, none⟩) ∧ s10 = .bool fits ∧ Own wx w5.heap.size (.slice Ap P.l.length cp) P.l ∧ Grows w5 wx ∧ MBox wx gp P.r P.c (.slice Ap P.l.length cp))
        case first =>
          go_region_held3 (fun W => W.cell? ⟨w2.heap.size, 0, none⟩ = some (.int .i64 r) ∧ W.cell? ⟨w2.heap.size, 1, none⟩ = some (.int .i64 c) ∧ W.cell? ⟨w2.heap.size, 2, none⟩ = some (.slice V l.length cv)) ((refine MBox.cells (ml.grows ?_); first | exact bel2 g7 g6 | exact bel1 g6 | exact bel0))
            (first
             | (go_at_call 20; refine (CR.out _ _ _ _).mono ?_; rintro e w6 ⟨rfl, g6⟩; have z6 := Below.size g6; (try simp at z6); (try (have q := (MBox.mk_ w5 0 0 (.slice none 0 0) 26).grows (w' := w6) (Grows.trans (show Grows _ _ from (Below.refl _ _).drew) g6))))
             | (go_at_call 19; refine (CM.out _ _ _ (by exact (Rd.grows rd3 (by exact bel1 g6))) (by exact (Rd.grows rd2 (by exact bel1 g6)))).mono ?_; rintro e w7 ⟨v7, rfl, ho7, g7⟩; obtain ⟨A7, c7, rfl, hr7, _⟩ := ho7.val; have z7 := Below.size g7; (try simp at z7); (first | (replace q := q.grows g7) | (have q := MBox.grows (MBox.mk_ w6 0 0 (.slice none 0 0) 26) g7) | skip); (try (obtain ⟨q0, q1, q2⟩ := q.cells; have qf := q.fz; have ql := q.lt))))
          all_goals
            go_wp2_with fail
            go_meet
            exact ⟨_, _, _, rfl, rfl, by (have hb_ := fun k hk => World.ownsRow.lt ho7 k hk; have ho_ := Own.less ho7 (show w5.heap.size ≤ _ by first | omega | (simp; done) | (simp; omega)); (repeat' (first | with_reducible exact ho_ | with_reducible refine Own.alloc ?_ _ | with_reducible refine Own.drew ?_ | with_reducible refine Own.far ?_ ?_ _)); all_goals first | (intro k hk; have := hb_ k hk; (try simp at this); (try simp); omega) | omega | (simp; done) | (simp; omega)), by exact bel2 g7 g6, by first | exact MBox.put q _ _ _ | exact MBox.mk_ _ _ _ _ _ | exact MBox.put (MBox.mk_ _ _ _ _ _) _ _ _⟩
        case' rest =>
          obtain ⟨gp, Ap, cp, rfl, rfl, op, hgp, mp⟩ := hcut
          obtain ⟨w6, rfl⟩ : ∃ x : World, x = wc := ⟨_, rfl⟩
          have s_w6 := Below.size hgp; (try simp at s_w6)
          replace rd2 := rd2.grows (w' := w6) (by exact bel1 hgp)
          replace rd22 := rd22.grows (w' := w6) (by exact bel1 hgp)
          clear ml_0 ml_1 ml_2 ml_l ml_f
          replace ml := ml.grows (w' := w6) (by exact bel1 hgp)
          have ml_0 := ml.c0; have ml_1 := ml.c1; have ml_2 := ml.c2; have ml_l := ml.lt; have ml_f := ml.fz
          replace rd3 := rd3.grows (w' := w6) (by exact bel1 hgp)
          replace HG : Grows w w6 := by exact bel2 hgp HG
          have h_w6 := Below.size HG
          have rdp := op.rd'
          clear op CM
          cases fits
          case' false =>
            obtain ⟨wz, rfl⟩ : ∃ wz : World, wz = w6 := ⟨_, rfl⟩
            clear HMul hPl mp rdp
          case' true =>
            have hpv := HMul.out (by first | rfl | trivial) (by first | rfl | trivial)
            obtain ⟨mp_0, mp_1, mp_2⟩ := mp.cells
            have mp_l := mp.lt
            have CN2 := Lib.hid fun W h h' => CN.out Ap V2 P.l v cp cv2 W h h' (by omega) (by omega)
            rw [(eqL_iff P.l v).2 hpv] at CN2
            clear hpv
            go_wp2_with fail
            refine (CN2.out _ (by exact Rd.grows rdp (by exact bel0)) (by exact Rd.grows rd22 (by exact bel0))).mono ?_; rintro e w7 ⟨rfl, g_w7⟩
            have s_w7 := Below.size g_w7; (try simp at s_w7)
            replace rd2 := rd2.grows (w' := w7) (by exact bel1 g_w7)
            replace rd22 := rd22.grows (w' := w7) (by exact bel1 g_w7)
            clear ml_0 ml_1 ml_2 ml_l ml_f
            replace ml := ml.grows (w' := w7) (by exact bel1 g_w7)
            have ml_0 := ml.c0; have ml_1 := ml.c1; have ml_2 := ml.c2; have ml_l := ml.lt; have ml_f := ml.fz
            replace rd3 := rd3.grows (w' := w7) (by exact bel1 g_w7)
            replace HG : Grows w w7 := by exact bel2 g_w7 HG
            have h_w7 := Below.size HG
            obtain ⟨wz, rfl⟩ : ∃ wz : World, wz = w7 := ⟨_, rfl⟩
            clear HMul hPl mp rdp mp_0 mp_1 mp_2 mp_l CN2
      all_goals (
        clear CN
        have h_wz := Below.size HG
        clear ml_0 ml_1 ml_2 ml_l ml_f
        have ml_0 := ml.c0; have ml_1 := ml.c1; have ml_2 := ml.c2; have ml_l := ml.lt; have ml_f := ml.fz
        go_upto_region 14 with fail
        go_cut [11, 12] (fun s11 s12 wx => ∃ gs As cs, s11 = .pointer (some ⟨gs, 0, none⟩) ∧ s12 = .bool one ∧ Own wx wz.heap.size (.slice As S.l.length cs) S.l ∧ Grows wz wx ∧ MBox wx gs S.r S.c (.slice As S.l.length cs))
        case first =>
          go_region_held3 (fun W => W.cell? ⟨w2.heap.size, 0, none⟩ = some (.int .i64 r) ∧ W.cell? ⟨w2.heap.size, 1, none⟩ = some (.int .i64 c) ∧ W.cell? ⟨w2.heap.size, 2, none⟩ = some (.slice V l.length cv)) ((refine MBox.cells (ml.grows ?_); first | exact bel2 g9 g8 | exact bel1 g8 | exact bel0))
            (first
             | (go_at_call 20; refine (CR.out _ _ _ _).mono ?_; rintro e w8 ⟨rfl, g8⟩; have z8 := Below.size g8; (try simp at z8); (try (have q := (MBox.mk_ wz 0 0 (.slice none 0 0) 26).grows (w' := w8) (Grows.trans (show Grows _ _ from (Below.refl _ _).drew) g8))))
             | (go_at_call 40; refine (CK.out _ (by exact (Rd.grows rd2 (by exact bel1 g8))) (by exact (Rd.grows rd22 (by exact bel1 g8)))).mono ?_; rintro e w9 ⟨v9, rfl, ho9, g9⟩; obtain ⟨A9, c9, rfl, hr9, _⟩ := ho9.val; have z9 := Below.size g9; (try simp at z9); (first | (replace q := q.grows g9) | (have q := MBox.grows (MBox.mk_ w8 0 0 (.slice none 0 0) 26) g9) | skip); (try (obtain ⟨q0, q1, q2⟩ := q.cells; have qf := q.fz; have ql := q.lt))))
          all_goals
            go_wp2_with fail
            go_meet
            exact ⟨_, _, _, rfl, rfl, by (have hb_ := fun k hk => World.ownsRow.lt ho9 k hk; have ho_ := Own.less ho9 (show wz.heap.size ≤ _ by first | omega | (simp; done) | (simp; omega)); (repeat' (first | with_reducible exact ho_ | with_reducible refine Own.alloc ?_ _ | with_reducible refine Own.drew ?_ | with_reducible refine Own.far ?_ ?_ _)); all_goals first | (intro k hk; have := hb_ k hk; (try simp at this); (try simp); omega) | omega | (simp; done) | (simp; omega)), by exact bel2 g9 g8, by first | exact MBox.put q _ _ _ | exact MBox.mk_ _ _ _ _ _ | exact MBox.put (MBox.mk_ _ _ _ _ _) _ _ _⟩
        case rest =>
          obtain ⟨gs, As, cs, rfl, rfl, os, hgs, ms⟩ := hcut
          obtain ⟨w8, rfl⟩ : ∃ x : World, x = wc := ⟨_, rfl⟩
          have s_w8 := Below.size hgs; (try simp at s_w8)
          replace rd2 := rd2.grows (w' := w8) (by exact bel1 hgs)
          replace rd22 := rd22.grows (w' := w8) (by exact bel1 hgs)
          clear ml_0 ml_1 ml_2 ml_l ml_f
          replace ml := ml.grows (w' := w8) (by exact bel1 hgs)
          have ml_0 := ml.c0; have ml_1 := ml.c1; have ml_2 := ml.c2; have ml_l := ml.lt; have ml_f := ml.fz
          replace HG : Grows w w8 := by exact bel2 hgs HG
          have h_w8 := Below.size HG
          have rds := os.rd'
          clear os
          have ms_0 := ms.c0; have ms_1 := ms.c1; have ms_2 := ms.c2; have ms_l := ms.lt; have ms_f := ms.fz
          go_wp2_with fail
          refine (CB2.out _ _ _ (by exact Rd.grows rds (by exact bel0))).mono ?_; rintro e w9 ⟨v9, rfl, o9, g_w9⟩
          have s_w9 := Below.size g_w9; (try simp at s_w9)
          replace rd2 := rd2.grows (w' := w9) (by exact bel1 g_w9)
          replace rd22 := rd22.grows (w' := w9) (by exact bel1 g_w9)
          clear ml_0 ml_1 ml_2 ml_l ml_f
          replace ml := ml.grows (w' := w9) (by exact bel1 g_w9)
          have ml_0 := ml.c0; have ml_1 := ml.c1; have ml_2 := ml.c2; have ml_l := ml.lt; have ml_f := ml.fz
          replace rds := rds.grows (w' := w9) (by exact bel1 g_w9)
          clear ms_0 ms_1 ms_2 ms_l ms_f
          replace ms := ms.grows (w' := w9) (by exact bel1 g_w9)
          have ms_0 := ms.c0; have ms_1 := ms.c1; have ms_2 := ms.c2; have ms_l := ms.lt; have ms_f := ms.fz
          replace HG : Grows w w9 := by exact bel2 g_w9 HG
          have h_w9 := Below.size HG
          obtain ⟨A9, c9, rfl, rd9, _⟩ := o9.val
          clear o9
          clear ms_0 ms_1 ms_2 ms_l ms_f ms rds
          obtain ⟨w10, hw10⟩ : ∃ w10, w10 = w9.alloc (.cells #[.int .i64 B.r, .int .i64 B.c, .slice A9 B.l.length c9] 26) := ⟨_, rfl⟩
          have mb : MBox w10 w9.heap.size B.r B.c (.slice A9 B.l.length c9) := by rw [hw10]; exact MBox.mk_ _ _ _ _ _
          have g10 : Grows w9 w10 := by rw [hw10]; exact bel0
          have HW10 := Lib.hid hw10
          replace HG : Grows w w10 := by exact bel2 g10 HG
          replace rd2 := rd2.grows g10
          replace rd22 := rd22.grows g10
          replace rd9 := rd9.grows g10
          replace ml := ml.grows g10
          clear hw10 g10 ml_0 ml_1 ml_2 ml_l ml_f
          go_wp2_with fail
          rw [← HW10.out]
          go_loopw [15, 16] (fun s i wr => ∃ (sm : Bool) (I : Nat), s = .bool sm ∧ i = .int .i64 I ∧ I ≤ v.length ∧ Grows w10 wr) (fun _ i _ => v.length - (intOf i).toNat)
          case atStart => exact ⟨true, 0, rfl, rfl, Nat.zero_le _, by exact bel0⟩
          case round =>
            obtain ⟨sm, I, rfl, rfl, hI, hg⟩ := hrel
            have rdI := rd22.grows hg
            by_cases hlt : I < v.length
            · have hlt' : (I : Int) < (v.length : Int) := by omega
              obtain ⟨bs, fs, rfl, hbs, s0⟩ := rdI.at_ I hlt
              have CA := Lib.hid fun W => abs_c (nth v I) W
              generalize nth v I = y at *
              cases sm
              · go_wp2_with fail
                go_round
                case rel => exact ⟨false, I + 1, rfl, by go_num, by omega, by exact bel1 hg⟩
                case measure => first | (simp [intOf]; done) | (simp [intOf]; omega)
              · go_wp2_with fail
                refine (CA.out _).mono ?_; rintro e w11 ⟨z, rfl, g11⟩
                go_wp2_with fail
                go_round
                case rel => exact ⟨_, I + 1, rfl, by go_num, by omega, by exact bel2 g11 hg⟩
                case measure => first | (simp [intOf]; done) | (simp [intOf]; omega)
            · have hlt' : ¬ (I : Int) < (v.length : Int) := by omega
              have hg0 := Below.size hg
              cases one
              · go_wp2_with fail
                go_ret
                exact ⟨rfl, by exact bel2 hg HG⟩
              · cases two
                · go_wp2_with fail
                  go_ret
                  exact ⟨rfl, by exact bel2 hg HG⟩
                · obtain rfl := HLaw2.out rfl rfl
                  cases sm
                  · go_wp2_with fail
                    go_ret
                    exact ⟨rfl, by exact bel2 hg HG⟩
                  · have mlz := ml.grows hg
                    have mbz := mb.grows hg
                    obtain ⟨ml_0, ml_1, ml_2⟩ := mlz.cells
                    obtain ⟨mb_0, mb_1, mb_2⟩ := mbz.cells
                    have ml_l := mlz.lt
                    have mb_l := mbz.lt
                    go_wp2_with fail
                    refine (CE.out _ _ _ (Rd.grows rd9 (by exact bel1 hg)) (Rd.grows rd2 (by exact bel1 hg))).mono ?_; rintro e w12 ⟨rfl, g12⟩
                    go_wp2_with fail
                    go_ret
                    exact ⟨by simp, by exact bel3 g12 hg HG⟩)
end
end Go.Proofs.Yticmopedbgoflaa


namespace Go.Proofs.Yticmopedbgoflaa
set_option linter.unusedSimpArgs false
set_option linter.unusedVariables false
open Go.ChangeShapes Go.WideShapes Go.ChangeAt Go.RowKit Go.Joins
set_option linter.unusedVariables false

set_option maxRecDepth 100000 in
theorem fnMembers_lifted (os : Os) (started : os.Started) (H : Type) (enc : TypeId × Value → H) :
    ReturnsInHanded {} Try.checked os 6 .any (Rows.fnMembersSpec.pre6 enc Try.prog Try.f6 Rows.fnMembersRow.domain false) (Rows.fnMembersSpec.post enc Try.prog Try.f6 false true false false) := by
  refine returnsInHanded_of_change (C := Try.checked) own started (by kernel_rfl) Try.func6
    (ChangeSpec.witness6 (enc := enc) (C := Try.checked) false ⟨#[], #[.slice none 0 0], []⟩ 8 (by kernel_rfl) (by kernel_rfl) (by kernel_rfl) (by kernel_rfl)) ?_
  intro W base args ds gs before hval0 hW hcnd _
  have hval : ∀ (j : Nat) t v, Try.f6.params[j]? = some t → args[j]? = some v → Value.okWide Try.prog W .any base t v := hval0
  have hW' := hW
  obtain ⟨p, q, hA0, hV, rfl, hfz, hnd⟩ := hW
  have hA : DataW.TrodAll enc Try.prog W 0 (fun _ => true) true Try.f6.params.toList args.toList ds p := hA0
  rw [Try.params6] at hA hval
  obtain ⟨v0, vs0, d0, ds0, p0, q0, hargs, rfl, rfl, h0, r0⟩ := trodAll_cons hA
  obtain ⟨rfl, rfl, rfl⟩ := trodAll_nil r0
  obtain rfl : args = #[v0] := by cases args; simp_all
  obtain ⟨rfl, rfl⟩ := trodVars_none hV
  have k0 := h0
  have lt0 : ∀ x ∈ p0, x.block < W.heap.size := by obtain ⟨m, hm⟩ := k0; exact DataW.trod_lt m _ _ _ hm
  obtain ⟨a00, len0, cap0, rfl⟩ := okWide_slice Try.underlying22 (hval 0 22 v0 rfl rfl)
  obtain ⟨A0, l0, c0, e0, ir0⟩ : ∃ A l c, Value.slice a00 len0 cap0 = .slice A (List.length l) c ∧ InCode W A l c := by obtain ⟨fuel, hf⟩ := h0; simp only [Value.cells] at hf; exact open_code hf
  rw [e0] at hval hW' k0 ⊢
  clear hA0 hval0
  refine (lawMem_c A0 l0 c0 W ir0).mono fun e W' ⟨he, bel⟩ => ?_
  subst he
  exact ⟨_, rfl, _, _, _, [], _, [], hW', trodAll_mk1 (shut_bool Try.underlying4 _), (trodAll_cons_mk (Below.trod laidOut (by kernel_rfl) (of_decide_eq_true (by kernel_rfl)) k0 bel lt0) trodAll_mk0), rfl, bel.frame _, fun h => by cases h⟩

theorem fnMembers_closed : joinedFacts Try.pinned.checked.prog 6 Try.f6 Rows.fnMembersSpec Rows.fnMembersRow = true := by
  unfold joinedFacts
  rw [fLaid, fRowed, fStops, fEnter, fLift, fMake]
  change _ = true
  kernel_rfl
/-- The statement. -/
theorem fnMembers_holds : Rows.FnMembersSaid :=
  OpenClaim.holds_of_wide 6 Try.f6 rfl rfl rfl rfl rfl rfl rfl ⟨rfl, rfl, rfl, rfl, rfl⟩ rfl rfl rfl rfl rfl (by kernel_rfl) Try.func6 fnMembers_closed
    (of_decide_eq_true (by kernel_rfl)) (by unfold Func.isWrapper; first | (rw [if_pos (by decide +kernel)]; kernel_rfl) | (rw [if_neg (by decide +kernel)]; exact ⟨rfl, rfl⟩))
    (fun os started H enc _ => fnMembers_lifted os started H enc)
end Go.Proofs.Yticmopedbgoflaa
