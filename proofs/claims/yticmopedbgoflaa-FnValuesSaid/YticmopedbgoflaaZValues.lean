/- The row of FnValues: proved for every input, no condition beyond those of the row. -/
import Derived.Test.YticmopedbgoflaaPkDr
import Derived.Test.YticmopedbgoflaaQDrwU
import Derived.Test.YticmopedbgoflaaQFacts
import Derived.Test.YticmopedbgoflaaQLwR
import Derived.Test.YticmopedbgoflaaQMix
import Derived.Test.YticmopedbgoflaaQValT

namespace Go.Proofs.Yticmopedbgoflaa
set_option linter.unusedSimpArgs false
set_option linter.unusedVariables false
open Go.RowKit
set_option linter.unusedVariables false

/-- the first cell of a row of zeros set to 1 -/
theorem own_unit {w14 w15 : World} {ge k : Nat} (oe : Own w15 w14.heap.size (.slice (some ⟨ge, 0, none⟩) k k) (List.replicate k 0)) (hg : Grows w14 w15) :
    ∃ w16, w16 = w15.setCell ⟨ge, 0, none⟩ (.int .i64 1) ∧ Own w16 w14.heap.size (.slice (some ⟨ge, 0, none⟩) k k) (unitL k) ∧ Grows w14 w16 := by
  have hge := oe.lt.1
  exact ⟨_, rfl, oe.put List.length_replicate 0 1, hg.setCell hge _⟩
section
set_option maxHeartbeats 8000000
set_option maxRecDepth 100000
/-- the value of a vector, with its facts -/
theorem val_pack (k : Nat) (xc : Int) (A B : Option Addr) (xl e : List Int) (n c cb : Nat) (he : e.length = n) (hx : xl.length ≤ 576) (hn : n ≤ 1099511627776) (P : Bool → Int → Prop) (hP : P (vOk k xc xl e) (vVal k xc xl e)) :
    ∃ six cc, P six cc ∧ ∀ W, Rd W A xl → Rd W B e → Calls Try.prog 15 #[.agg #[.int .i64 k, .int .i64 xc, .slice A xl.length c], .slice B n cb] W fun e w' => e = .returned (.tuple #[.int .i64 cc, .bool six]) ∧ Grows W w' :=
  ⟨_, _, hP, fun W h h' => iValueAt_c k xc A B xl e xl.length n c cb W rfl he h h' (by omega) hn⟩
theorem lawVal_c (A : Option Addr) (lc : List Int) (cap : Nat) (w : World) (hi : InCode w A lc cap) :
    Calls Try.prog 3 #[.slice A lc.length cap] w fun e w' => e = .returned (.bool true) ∧ Grows w w' := by
  obtain ⟨i0, hi0, hz0, hz1, hz2⟩ := info_parts info_int
  obtain ⟨hr, hc1, hc2⟩ := hi
  simp only [maxLen] at hc2
  have CB := big_c A lc.length cap w (by omega)
  by_cases hn : lc.length ≤ 1048576
  rotate_left
  · rw [decide_eq_true (by omega)] at CB
    have CB' := Lib.hid CB
    clear CB
    go_enter Try.func3, Try.ntmps3
    go_wp2_with fail
    refine CB'.out.mono ?_; rintro e w' ⟨rfl, rfl⟩
    go_wp2_with fail
    go_ret
    exact ⟨rfl, by exact bel0⟩
  · rw [decide_eq_false (by omega)] at CB
    have CB' := Lib.hid CB
    have CD := Lib.hid (matDrawValueAt_c A lc.length cap w hr hn)
    have CX := Lib.hid fun N W h hN => mix_c A lc.length cap N W h hn hN
    have CG := Lib.hid fun W h => matDrawGramOf_c A lc.length cap W h hn
    have HR := Lib.hid hr
    have CR := Lib.hid fun A n cap W => lrow_c A n cap W
    clear CB
    go_enter Try.func3, Try.ntmps3
    go_wp2_with fail
    refine CB'.out.mono ?_; rintro e w' ⟨rfl, h0⟩
    have h1 := h0.symm
    clear h0
    subst h1
    go_wp2_with fail
    refine CD.out.mono ?_; rintro e w2 ⟨r, c, V, cv, l, V2, cv2, v, rfl, hrb, hl, hv, o2, o22, HG⟩
    have rd2 := o2.rd'
    have rd22 := o22.rd'
    obtain ⟨hr1, hr2⟩ := hrb
    have hv8 : v.length ≤ 8 := by omega
    have h_w2 := Below.size HG
    have CI := Lib.hid fun W h h' => iValueAt_c r c V V2 l v l.length v.length cv cv2 W rfl rfl h h' (by omega) (by omega)
    have CS := Lib.hid fun W h h' => sValueAt_c r c V V2 l v l.length v.length cv cv2 W rfl rfl h h' (by omega) (by omega)
    have HZ : RowKit.Hid (vOk r c l v = false → vVal r c l v = 0) := Lib.hid fun h => by unfold vVal; rw [h]; rfl
    generalize vOk r c l v = is at *
    generalize vVal r c l v = nv at *
    clear CD hr hc1 hc2 o2 o22 hv
    go_wp2_with fail
    refine (CI.out _ (by exact Rd.grows rd2 (by exact bel0)) (by exact Rd.grows rd22 (by exact bel0))).mono ?_; rintro e w3 ⟨rfl, g_w3⟩
    have s_w3 := Below.size g_w3; (try simp at s_w3)
    replace rd2 := rd2.grows (w' := w3) (by exact bel1 g_w3)
    replace rd22 := rd22.grows (w' := w3) (by exact bel1 g_w3)
    have mg : MBox w3 (w2.heap.size) r c (.slice V l.length cv) := MBox.grows (MBox.new_ w2 r c (.slice V l.length cv) 26 (by simp)) (w' := w3) (by exact bel1 g_w3)
    have mg_0 := mg.c0; have mg_1 := mg.c1; have mg_2 := mg.c2; have mg_l := mg.lt; have mg_f := mg.fz
    replace HG : Grows w w3 := by exact bel2 g_w3 HG
    have h_w3 := Below.size HG
    go_wp2_with fail
    refine (CS.out _ (by exact Rd.grows rd2 (by exact bel0)) (by exact Rd.grows rd22 (by exact bel0))).mono ?_; rintro e w4 ⟨rfl, g_w4⟩
    have s_w4 := Below.size g_w4; (try simp at s_w4)
    replace rd2 := rd2.grows (w' := w4) (by exact bel1 g_w4)
    replace rd22 := rd22.grows (w' := w4) (by exact bel1 g_w4)
    clear mg_0 mg_1 mg_2 mg_l mg_f
    replace mg := mg.grows (w' := w4) (by exact bel1 g_w4)
    have mg_0 := mg.c0; have mg_1 := mg.c1; have mg_2 := mg.c2; have mg_l := mg.lt; have mg_f := mg.fz
    replace HG : Grows w w4 := by exact bel2 g_w4 HG
    have h_w4 := Below.size HG
    clear CI CS
    have HRC := Lib.hid (HR.out.keep HG)
    go_upto_region 8 with fail
    go_cut [9] (fun s9 wx => ∃ (gu : Nat) (m : MX) (Vu : Option Addr) (cu : Nat), s9 = .pointer (some ⟨gu, 0, none⟩) ∧ RowKit.Hid (m.l.length ≤ 576) ∧ Own wx w4.heap.size (.slice Vu m.l.length cu) m.l ∧ MBox wx gu m.r m.c (.slice Vu m.l.length cu) ∧ Grows w4 wx)
    case first =>
      have HRW : CodeR w4 w4.heap.size A lc.length := HR.out.up HG
      by_cases h6 : (6 : Int) < r
      · have CX6 := Lib.hid (CX.out 6 w4 HRW (by omega))
        go_wp2_with fail
        refine CX6.out.mono ?_; rintro e w5 ⟨m, Vu, cu, rfl, hmx, ou, g5⟩
        have HM5 := Lib.hid (hmx.len (by omega))
        have z5 := Below.size g5
        go_wp2_with fail
        go_meet
        exact ⟨_, m, Vu, cu, rfl, HM5, by (have hb_ := fun k hk => World.ownsRow.lt ou k hk; have ho_ := Own.less ou (show w4.heap.size ≤ _ by first | omega | (simp; done) | (simp; omega)); (repeat' (first | with_reducible exact ho_ | with_reducible refine Own.alloc ?_ _ | with_reducible refine Own.drew ?_ | with_reducible refine Own.far ?_ ?_ _)); all_goals first | (intro k hk; have := hb_ k hk; (try simp at this); (try simp); omega) | omega | (simp; done) | (simp; omega)), by first | exact MBox.mk_ _ _ _ _ _ | exact MBox.put (MBox.mk_ _ _ _ _ _) _ _ _, by exact bel1 g5⟩
      · by_cases h0 : (0 : Int) < r
        · obtain ⟨N, rfl⟩ : ∃ N : Nat, r = (N : Int) := ⟨r.toNat, by omega⟩
          have CX6 := Lib.hid (CX.out N w4 HRW (by omega))
          go_wp2_with fail
          refine CX6.out.mono ?_; rintro e w5 ⟨m, Vu, cu, rfl, hmx, ou, g5⟩
          have HM5 := Lib.hid (hmx.len (by omega))
          have z5 := Below.size g5
          go_wp2_with fail
          go_meet
          exact ⟨_, m, Vu, cu, rfl, HM5, by (have hb_ := fun k hk => World.ownsRow.lt ou k hk; have ho_ := Own.less ou (show w4.heap.size ≤ _ by first | omega | (simp; done) | (simp; omega)); (repeat' (first | with_reducible exact ho_ | with_reducible refine Own.alloc ?_ _ | with_reducible refine Own.drew ?_ | with_reducible refine Own.far ?_ ?_ _)); all_goals first | (intro k hk; have := hb_ k hk; (try simp at this); (try simp); omega) | omega | (simp; done) | (simp; omega)), by first | exact MBox.mk_ _ _ _ _ _ | exact MBox.put (MBox.mk_ _ _ _ _ _) _ _ _, by exact bel1 g5⟩
        · have CX6 := Lib.hid (CX.out 0 w4 HRW (by omega))
          go_wp2_with fail
          refine CX6.out.mono ?_; rintro e w5 ⟨m, Vu, cu, rfl, hmx, ou, g5⟩
          have HM5 := Lib.hid (hmx.len (by omega))
          have z5 := Below.size g5
          go_wp2_with fail
          go_meet
          exact ⟨_, m, Vu, cu, rfl, HM5, by (have hb_ := fun k hk => World.ownsRow.lt ou k hk; have ho_ := Own.less ou (show w4.heap.size ≤ _ by first | omega | (simp; done) | (simp; omega)); (repeat' (first | with_reducible exact ho_ | with_reducible refine Own.alloc ?_ _ | with_reducible refine Own.drew ?_ | with_reducible refine Own.far ?_ ?_ _)); all_goals first | (intro k hk; have := hb_ k hk; (try simp at this); (try simp); omega) | omega | (simp; done) | (simp; omega)), by first | exact MBox.mk_ _ _ _ _ _ | exact MBox.put (MBox.mk_ _ _ _ _ _) _ _ _, by exact bel1 g5⟩
    case rest =>
      obtain ⟨gu, m, Vu, cu, rfl, HM5, ou, mu, hg5⟩ := hcut
      obtain ⟨w5, rfl⟩ : ∃ x : World, x = wc := ⟨_, rfl⟩
      have s_w5 := Below.size hg5; (try simp at s_w5)
      replace rd2 := rd2.grows (w' := w5) (by exact bel1 hg5)
      replace rd22 := rd22.grows (w' := w5) (by exact bel1 hg5)
      clear mg_0 mg_1 mg_2 mg_l mg_f
      replace mg := mg.grows (w' := w5) (by exact bel1 hg5)
      have mg_0 := mg.c0; have mg_1 := mg.c1; have mg_2 := mg.c2; have mg_l := mg.lt; have mg_f := mg.fz
      replace HG : Grows w w5 := by exact bel2 hg5 HG
      have h_w5 := Below.size HG
      have rdu := ou.rd'
      obtain ⟨_, hcu, hcu2⟩ := ou.caps
      have mu_0 := mu.c0; have mu_1 := mu.c1; have mu_2 := mu.c2; have mu_l := mu.lt; have mu_f := mu.fz
      have hm5 := HM5.out
      -- the facts of the first part
      have CB1 := Lib.hid fun W h1 h2 => (iCB_c r c m.r m.c V Vu l m.l l.length m.l.length cv cu W rfl rfl h1 h2 (by omega) (by omega)).mono fun _ _ h => matRet_out h
      have CM1 := Lib.hid fun W h1 h2 => (iMul_m 1 v.length m.r m.c V2 Vu v m.l v.length m.l.length cv2 cu W rfl rfl h1 h2 (by omega) (by omega)).mono fun _ _ h => matRet_out h
      have HL1 := Lib.hid (oM_length (o := cbO ⟨r, c, l⟩ ⟨m.r, m.c, m.l⟩) fun m h => cbO_ok h)
      have HL2 := Lib.hid (oM_length (o := mulO ⟨1, v.length, v⟩ ⟨m.r, m.c, m.l⟩) fun m h => mulO_ok h)
      have HV : RowKit.Hid (((cbO ⟨r, c, l⟩ ⟨m.r, m.c, m.l⟩).isSome && (mulO ⟨1, v.length, v⟩ ⟨m.r, m.c, m.l⟩).isSome && vOk (oM (cbO ⟨r, c, l⟩ ⟨m.r, m.c, m.l⟩)).r (oM (cbO ⟨r, c, l⟩ ⟨m.r, m.c, m.l⟩)).c (oM (cbO ⟨r, c, l⟩ ⟨m.r, m.c, m.l⟩)).l v && vOk r c l (oM (mulO ⟨1, v.length, v⟩ ⟨m.r, m.c, m.l⟩)).l) = true → vVal (oM (cbO ⟨r, c, l⟩ ⟨m.r, m.c, m.l⟩)).r (oM (cbO ⟨r, c, l⟩ ⟨m.r, m.c, m.l⟩)).c (oM (cbO ⟨r, c, l⟩ ⟨m.r, m.c, m.l⟩)).l v = vVal r c l (oM (mulO ⟨1, v.length, v⟩ ⟨m.r, m.c, m.l⟩)).l) := Lib.hid fun h => by
        simp only [Bool.and_eq_true] at h
        obtain ⟨⟨⟨h1, h2⟩, h3⟩, h4⟩ := h
        obtain ⟨x, hx⟩ := Option.isSome_iff_exists.1 h1
        obtain ⟨p, hp⟩ := Option.isSome_iff_exists.1 h2
        rw [hx] at h3 ⊢
        rw [hp] at h4 ⊢
        exact val_change hx hp h3 h4
      generalize cbO ⟨r, c, l⟩ ⟨m.r, m.c, m.l⟩ = HO at *
      generalize mulO ⟨1, v.length, v⟩ ⟨m.r, m.c, m.l⟩ = PO at *
      generalize HO.isSome = one at *
      generalize oM HO = H at *
      generalize PO.isSome = two at *
      generalize oM PO = P at *
      have CV1 := Lib.hid fun W Ah ch h h' => iValueAt_c H.r H.c Ah V2 H.l v H.l.length v.length ch cv2 W rfl rfl h h' (by have := HL1.out; omega) (by omega)
      have CV2 := Lib.hid fun W Ap cp h h' => iValueAt_c r c V Ap l P.l l.length P.l.length cv cp W rfl rfl h h' (by omega) (by have := HL2.out; omega)
      generalize vOk H.r H.c H.l v = three at *
      generalize vVal H.r H.c H.l v = a at *
      generalize vOk r c l P.l = four at *
      generalize vVal r c l P.l = b at *
      clear HO PO ou HM5
      go_wp2_with fail
      refine (CB1.out _ (by exact Rd.grows rd2 (by exact bel0)) (by exact Rd.grows rdu (by exact bel0))).mono ?_; rintro e w6 ⟨v6, rfl, o6, g_w6⟩
      have s_w6 := Below.size g_w6; (try simp at s_w6)
      replace rd2 := rd2.grows (w' := w6) (by exact bel1 g_w6)
      replace rd22 := rd22.grows (w' := w6) (by exact bel1 g_w6)
      clear mg_0 mg_1 mg_2 mg_l mg_f
      replace mg := mg.grows (w' := w6) (by exact bel1 g_w6)
      have mg_0 := mg.c0; have mg_1 := mg.c1; have mg_2 := mg.c2; have mg_l := mg.lt; have mg_f := mg.fz
      replace rdu := rdu.grows (w' := w6) (by exact bel1 g_w6)
      clear mu_0 mu_1 mu_2 mu_l mu_f
      replace mu := mu.grows (w' := w6) (by exact bel1 g_w6)
      have mu_0 := mu.c0; have mu_1 := mu.c1; have mu_2 := mu.c2; have mu_l := mu.lt; have mu_f := mu.fz
      replace HG : Grows w w6 := by exact bel2 g_w6 HG
      have h_w6 := Below.size HG
      obtain ⟨A6, c6, rfl, rd6, _⟩ := o6.val
      clear o6 CB1
      obtain ⟨w7, hw7⟩ : ∃ w7, w7 = w6.alloc (.cells #[.int .i64 H.r, .int .i64 H.c, .slice A6 H.l.length c6] 26) := ⟨_, rfl⟩
      have g7 : Grows (w6.alloc (.cells #[.int .i64 H.r, .int .i64 H.c, .slice A6 H.l.length c6] 26)) w7 := by rw [hw7]; exact bel0
      have HW7 := Lib.hid hw7
      clear hw7
      have s_w7 := Below.size g7; (try simp at s_w7)
      replace rd2 := rd2.grows (w' := w7) (by exact bel1 g7)
      replace rd22 := rd22.grows (w' := w7) (by exact bel1 g7)
      clear mg_0 mg_1 mg_2 mg_l mg_f
      replace mg := mg.grows (w' := w7) (by exact bel1 g7)
      have mg_0 := mg.c0; have mg_1 := mg.c1; have mg_2 := mg.c2; have mg_l := mg.lt; have mg_f := mg.fz
      replace rdu := rdu.grows (w' := w7) (by exact bel1 g7)
      clear mu_0 mu_1 mu_2 mu_l mu_f
      replace mu := mu.grows (w' := w7) (by exact bel1 g7)
      have mu_0 := mu.c0; have mu_1 := mu.c1; have mu_2 := mu.c2; have mu_l := mu.lt; have mu_f := mu.fz
      replace rd6 := rd6.grows (w' := w7) (by exact bel1 g7)
      have mh : MBox w7 (w6.heap.size) H.r H.c (.slice A6 H.l.length c6) := MBox.grows (MBox.new_ w6 H.r H.c (.slice A6 H.l.length c6) 26 (by simp)) (w' := w7) (by exact bel1 g7)
      have mh_0 := mh.c0; have mh_1 := mh.c1; have mh_2 := mh.c2; have mh_l := mh.lt; have mh_f := mh.fz
      replace HG : Grows w w7 := by exact bel2 g7 HG
      have h_w7 := Below.size HG
      go_upto_region 10 with fail
      rw [← HW7.out]
      go_cut [12, 13] (fun s12 s13 wx => ∃ gp Ap cp, s12 = .pointer (some ⟨gp, 0, none⟩) ∧ s13 = .bool two ∧ Own wx w7.heap.size (.slice Ap P.l.length cp) P.l ∧ Grows w7 wx ∧ MBox wx gp P.r P.c (.slice Ap P.l.length cp))
      case first =>
        go_region_held3 (fun W => W.cell? ⟨gu, 0, none⟩ = some (.int .i64 m.r) ∧ W.cell? ⟨gu, 1, none⟩ = some (.int .i64 m.c) ∧ W.cell? ⟨gu, 2, none⟩ = some (.slice Vu m.l.length cu)) ((refine MBox.cells (mu.grows ?_); first | exact bel2 g9 g8 | exact bel1 g8 | exact bel0))
          (first
           | (go_at_call 20; refine (CR.out _ _ _ _).mono ?_; rintro e w8 ⟨rfl, g8⟩; have z8 := Below.size g8; (try simp at z8); (try (have q := (MBox.mk_ w7 0 0 (.slice none 0 0) 26).grows (w' := w8) (Grows.trans (show Grows _ _ from (Below.refl _ _).drew) g8))))
           | (go_at_call 19; refine (CM1.out _ (by exact (Rd.grows rd22 (by exact bel1 g8))) (by exact (Rd.grows rdu (by exact bel1 g8)))).mono ?_; rintro e w9 ⟨v9, rfl, ho9, g9⟩; obtain ⟨A9, c9, rfl, hr9, _⟩ := ho9.val; have z9 := Below.size g9; (try simp at z9); (first | (replace q := q.grows g9) | (have q := MBox.grows (MBox.mk_ w8 0 0 (.slice none 0 0) 26) g9) | skip); (try (obtain ⟨q0, q1, q2⟩ := q.cells; have qf := q.fz; have ql := q.lt))))
        all_goals
          go_wp2_with fail
          go_meet
          exact ⟨_, _, _, rfl, rfl, by (have hb_ := fun k hk => World.ownsRow.lt ho9 k hk; have ho_ := Own.less ho9 (show w7.heap.size ≤ _ by first | omega | (simp; done) | (simp; omega)); (repeat' (first | with_reducible exact ho_ | with_reducible refine Own.alloc ?_ _ | with_reducible refine Own.drew ?_ | with_reducible refine Own.far ?_ ?_ _)); all_goals first | (intro k hk; have := hb_ k hk; (try simp at this); (try simp); omega) | omega | (simp; done) | (simp; omega)), by exact bel2 g9 g8, by first | exact MBox.put q _ _ _ | exact MBox.mk_ _ _ _ _ _ | exact MBox.put (MBox.mk_ _ _ _ _ _) _ _ _⟩
      case rest =>
        obtain ⟨gp, Ap, cp, rfl, rfl, op, hg8, mp⟩ := hcut
        obtain ⟨w8, rfl⟩ : ∃ x : World, x = wc := ⟨_, rfl⟩
        have s_w8 := Below.size hg8; (try simp at s_w8)
        replace rd2 := rd2.grows (w' := w8) (by exact bel1 hg8)
        replace rd22 := rd22.grows (w' := w8) (by exact bel1 hg8)
        clear mg_0 mg_1 mg_2 mg_l mg_f
        replace mg := mg.grows (w' := w8) (by exact bel1 hg8)
        have mg_0 := mg.c0; have mg_1 := mg.c1; have mg_2 := mg.c2; have mg_l := mg.lt; have mg_f := mg.fz
        replace rdu := rdu.grows (w' := w8) (by exact bel1 hg8)
        clear mu_0 mu_1 mu_2 mu_l mu_f
        replace mu := mu.grows (w' := w8) (by exact bel1 hg8)
        have mu_0 := mu.c0; have mu_1 := mu.c1; have mu_2 := mu.c2; have mu_l := mu.lt; have mu_f := mu.fz
        replace rd6 := rd6.grows (w' := w8) (by exact bel1 hg8)
        clear mh_0 mh_1 mh_2 mh_l mh_f
        replace mh := mh.grows (w' := w8) (by exact bel1 hg8)
        have mh_0 := mh.c0; have mh_1 := mh.c1; have mh_2 := mh.c2; have mh_l := mh.lt; have mh_f := mh.fz
        replace HG : Grows w w8 := by exact bel2 hg8 HG
        have h_w8 := Below.size HG
        have rdp := op.rd'
        clear op CM1
        have mp_0 := mp.c0; have mp_1 := mp.c1; have mp_2 := mp.c2; have mp_l := mp.lt; have mp_f := mp.fz
        go_wp2_with fail
        refine (CV1.out _ _ _ (by exact Rd.grows rd6 (by exact bel0)) (by exact Rd.grows rd22 (by exact bel0))).mono ?_; rintro e w9 ⟨rfl, g_w9⟩
        have s_w9 := Below.size g_w9; (try simp at s_w9)
        replace rd2 := rd2.grows (w' := w9) (by exact bel1 g_w9)
        replace rd22 := rd22.grows (w' := w9) (by exact bel1 g_w9)
        clear mg_0 mg_1 mg_2 mg_l mg_f
        replace mg := mg.grows (w' := w9) (by exact bel1 g_w9)
        have mg_0 := mg.c0; have mg_1 := mg.c1; have mg_2 := mg.c2; have mg_l := mg.lt; have mg_f := mg.fz
        replace rdu := rdu.grows (w' := w9) (by exact bel1 g_w9)
        clear mu_0 mu_1 mu_2 mu_l mu_f
        replace mu := mu.grows (w' := w9) (by exact bel1 g_w9)
        have mu_0 := mu.c0; have mu_1 := mu.c1; have mu_2 := mu.c2; have mu_l := mu.lt; have mu_f := mu.fz
        replace rd6 := rd6.grows (w' := w9) (by exact bel1 g_w9)
        clear mh_0 mh_1 mh_2 mh_l mh_f
        replace mh := mh.grows (w' := w9) (by exact bel1 g_w9)
        have mh_0 := mh.c0; have mh_1 := mh.c1; have mh_2 := mh.c2; have mh_l := mh.lt; have mh_f := mh.fz
        replace rdp := rdp.grows (w' := w9) (by exact bel1 g_w9)
        clear mp_0 mp_1 mp_2 mp_l mp_f
        replace mp := mp.grows (w' := w9) (by exact bel1 g_w9)
        have mp_0 := mp.c0; have mp_1 := mp.c1; have mp_2 := mp.c2; have mp_l := mp.lt; have mp_f := mp.fz
        replace HG : Grows w w9 := by exact bel2 g_w9 HG
        have h_w9 := Below.size HG
        go_wp2_with fail
        refine (CV2.out _ _ _ (by exact Rd.grows rd2 (by exact bel0)) (by exact Rd.grows rdp (by exact bel0))).mono ?_; rintro e w10 ⟨rfl, g_w10⟩
        have s_w10 := Below.size g_w10; (try simp at s_w10)
        replace rd2 := rd2.grows (w' := w10) (by exact bel1 g_w10)
        replace rd22 := rd22.grows (w' := w10) (by exact bel1 g_w10)
        clear mg_0 mg_1 mg_2 mg_l mg_f
        replace mg := mg.grows (w' := w10) (by exact bel1 g_w10)
        have mg_0 := mg.c0; have mg_1 := mg.c1; have mg_2 := mg.c2; have mg_l := mg.lt; have mg_f := mg.fz
        replace rdu := rdu.grows (w' := w10) (by exact bel1 g_w10)
        clear mu_0 mu_1 mu_2 mu_l mu_f
        replace mu := mu.grows (w' := w10) (by exact bel1 g_w10)
        have mu_0 := mu.c0; have mu_1 := mu.c1; have mu_2 := mu.c2; have mu_l := mu.lt; have mu_f := mu.fz
        replace rd6 := rd6.grows (w' := w10) (by exact bel1 g_w10)
        clear mh_0 mh_1 mh_2 mh_l mh_f
        replace mh := mh.grows (w' := w10) (by exact bel1 g_w10)
        have mh_0 := mh.c0; have mh_1 := mh.c1; have mh_2 := mh.c2; have mh_l := mh.lt; have mh_f := mh.fz
        replace rdp := rdp.grows (w' := w10) (by exact bel1 g_w10)
        clear mp_0 mp_1 mp_2 mp_l mp_f
        replace mp := mp.grows (w' := w10) (by exact bel1 g_w10)
        have mp_0 := mp.c0; have mp_1 := mp.c1; have mp_2 := mp.c2; have mp_l := mp.lt; have mp_f := mp.fz
        replace HG : Grows w w10 := by exact bel2 g_w10 HG
        have h_w10 := Below.size HG
        clear CV1 CV2
        go_upto_region 13 with fail
        go_cut [94] (fun s94 wx => s94 = .bool false ∧ Grows w10 wx)
        case first =>
          have HVV := HV.out
          clear HV HRC HR HZ CG CX mg_0 mg_1 mg_2 mg_l mg_f mu_0 mu_1 mu_2 mu_l mu_f mh_0 mh_1 mh_2 mh_l mh_f mp_0 mp_1 mp_2 mp_l mp_f mg mu mh mp rd2 rd22 rdu rd6 rdp
          cases one
          · clear HVV; go_wp2_with fail; go_meet; exact ⟨rfl, by exact bel0⟩
          · cases two
            · clear HVV; go_wp2_with fail; go_meet; exact ⟨rfl, by exact bel0⟩
            · cases three
              · clear HVV; go_wp2_with fail; go_meet; exact ⟨rfl, by exact bel0⟩
              · cases four
                · clear HVV; go_wp2_with fail; go_meet; exact ⟨rfl, by exact bel0⟩
                · obtain rfl := HVV rfl; clear HVV; go_wp2_with fail; go_meet; exact ⟨by simp, by exact bel0⟩
        case rest =>
          obtain ⟨rfl, hg11⟩ := hcut
          obtain ⟨w11, rfl⟩ : ∃ x : World, x = wc := ⟨_, rfl⟩
          replace HG : Grows w w11 := by exact bel2 hg11 HG
          have h_w11 := Below.size HG
          have CG1 := Lib.hid (CG.out w11 (HR.out.up HG))
          clear HV HRC hg11 mg_0 mg_1 mg_2 mg_l mg_f mu_0 mu_1 mu_2 mu_l mu_f mh_0 mh_1 mh_2 mh_l mh_f mp_0 mp_1 mp_2 mp_l mp_f mg mu mh mp rd2 rd22 rdu rd6 rdp
          go_wp2_with fail
          refine (CG1.out).mono ?_; rintro e w12 ⟨r2, c2, V3, cv3, l2, rfl, _, hl2, o12, g_w12⟩
          have s_w12 := Below.size g_w12; (try simp at s_w12)
          replace HG : Grows w w12 := by exact bel2 g_w12 HG
          have h_w12 := Below.size HG
          have rd12 := o12.rd'
          obtain ⟨k, xc, xl, five, hk24, hgm, hxl, hkp, hkb, hkz⟩ := gmF2 r2 c2 l2
          have CGm := Lib.hid fun W h => (iGm_m r2 c2 V3 l2 l2.length cv3 W rfl h (by omega)).mono fun _ _ h => matRet_out h
          rw [hgm.1, hgm.2] at CGm
          have HXL := Lib.hid hxl
          have HKP := Lib.hid hkp
          have HKB := Lib.hid hkb
          have HKZ := Lib.hid hkz
          clear hkp hkb hkz hgm hxl CG1 o12
          go_wp2_with fail
          refine (CGm.out _ (by exact Rd.grows rd12 (by exact bel0))).mono ?_; rintro e w13 ⟨v13, rfl, o13, g_w13⟩
          have s_w13 := Below.size g_w13; (try simp at s_w13)
          replace rd12 := rd12.grows (w' := w13) (by exact bel1 g_w13)
          have mm : MBox w13 (w12.heap.size) r2 c2 (.slice V3 l2.length cv3) := MBox.grows (MBox.new_ w12 r2 c2 (.slice V3 l2.length cv3) 26 (by simp)) (w' := w13) (by exact bel1 g_w13)
          have mm_0 := mm.c0; have mm_1 := mm.c1; have mm_2 := mm.c2; have mm_l := mm.lt; have mm_f := mm.fz
          replace HG : Grows w w13 := by exact bel2 g_w13 HG
          have h_w13 := Below.size HG
          obtain ⟨A13, c13, rfl, rd13, _⟩ := o13.val
          clear o13 CGm
          obtain ⟨w14, hw14⟩ : ∃ w14, w14 = w13.alloc (.cells #[.int .i64 k, .int .i64 xc, .slice A13 xl.length c13] 26) := ⟨_, rfl⟩
          have g14 : Grows (w13.alloc (.cells #[.int .i64 k, .int .i64 xc, .slice A13 xl.length c13] 26)) w14 := by rw [hw14]; exact bel0
          have HW14 := Lib.hid hw14
          clear hw14
          have s_w14 := Below.size g14; (try simp at s_w14)
          replace rd12 := rd12.grows (w' := w14) (by exact bel1 g14)
          clear mm_0 mm_1 mm_2 mm_l mm_f
          replace mm := mm.grows (w' := w14) (by exact bel1 g14)
          have mm_0 := mm.c0; have mm_1 := mm.c1; have mm_2 := mm.c2; have mm_l := mm.lt; have mm_f := mm.fz
          replace rd13 := rd13.grows (w' := w14) (by exact bel1 g14)
          have mx : MBox w14 (w13.heap.size) k xc (.slice A13 xl.length c13) := MBox.grows (MBox.new_ w13 k xc (.slice A13 xl.length c13) 26 (by simp)) (w' := w14) (by exact bel1 g14)
          have mx_0 := mx.c0; have mx_1 := mx.c1; have mx_2 := mx.c2; have mx_l := mx.lt; have mx_f := mx.fz
          replace HG : Grows w w14 := by exact bel2 g14 HG
          have h_w14 := Below.size HG
          have hk24' : (k : Int) ≤ 24 := by omega
          go_upto_region 17 with fail
          rw [← HW14.out]
          go_cut [21] (fun s21 wx => ∃ ge, s21 = .slice (some ⟨ge, 0, none⟩) k k ∧ Own wx w14.heap.size (.slice (some ⟨ge, 0, none⟩) k k) (List.replicate k 0) ∧ Grows w14 wx)
          case first =>
            by_cases hk0 : (0 : Int) < (k : Int)
            · go_wp2_with (at_make; refine wpList_make_full _ rfl (.tmp 104) (.tmp 104) 24 rfl w14.heap.size 3 i0 (.int .i64 0) 1 Try.underlying24 hi0 hz0 hz1 .i64 .i64 _ _ k rfl rfl rfl rfl (by rw [hz2]; omega) (by unfold maxLen; omega) (Nat.le_refl _) ?_; intro w15 hown15 hg15)
              have hown : Own w15 w14.heap.size (.slice (some ⟨w14.heap.size, 0, none⟩) k k) (List.replicate k 0) := by
                unfold Own
                rw [List.length_replicate, List.map_replicate]
                have := hown15
                rw [show (Value.int IntKind.i64 0).cells = #[Value.int IntKind.i64 0] from rfl, Nat.mul_one, toList_madeCells_one] at this
                exact this
              go_meet
              exact ⟨_, rfl, hown, (Below.refl _ _).grown hg15 (Nat.le_refl _) (by simp)⟩
            · obtain rfl : k = 0 := by omega
              go_wp2_with (at_make; refine wpList_make_full _ rfl (.tmp 104) (.tmp 104) 24 rfl w14.heap.size 3 i0 (.int .i64 0) 1 Try.underlying24 hi0 hz0 hz1 .i64 .i64 _ _ 0 rfl rfl rfl rfl (by rw [hz2]; omega) (by unfold maxLen; omega) (Nat.le_refl _) ?_; intro w15 hown15 hg15)
              have hown : Own w15 w14.heap.size (.slice (some ⟨w14.heap.size, 0, none⟩) 0 0) (List.replicate 0 0) := by
                unfold Own
                rw [List.length_replicate, List.map_replicate]
                have := hown15
                rw [show (Value.int IntKind.i64 0).cells = #[Value.int IntKind.i64 0] from rfl, Nat.mul_one, toList_madeCells_one] at this
                exact this
              go_meet
              exact ⟨_, rfl, hown, (Below.refl _ _).grown hg15 (Nat.le_refl _) (by simp)⟩
          case rest =>
            obtain ⟨ge, rfl, oe, hg15⟩ := hcut
            obtain ⟨w15, rfl⟩ : ∃ x : World, x = wc := ⟨_, rfl⟩
            have hge := oe.lt
            have s15 := Below.size hg15
            have HZZ := HZ.out
            have HXLL := HXL.out
            by_cases hk0 : k = 0
            · have hkz := HKZ.out hk0
              subst hk0
              obtain ⟨six, cc, hcc, CVe0⟩ := val_pack 0 xc A13 (some ⟨ge, 0, none⟩) xl [] 0 c13 0 rfl (by omega) (by omega) (fun _ c => c = 0) hkz
              have CVe := Lib.hid CVe0
              subst hcc
              clear CVe0 hkz
              have rde : Rd w15 (some ⟨ge, 0, none⟩) [] := oe.rd'
              replace mx := mx.grows hg15
              replace rd13 := rd13.grows hg15
              clear mx_0 mx_1 mx_2 mx_l mx_f mm_0 mm_1 mm_2 mm_l mm_f
              obtain ⟨mx_0, mx_1, mx_2⟩ := mx.cells
              have mx_l := mx.lt
              clear HKP HKB HKZ HZ
              go_wp2_with fail
              refine (CVe.out _ (Rd.grows rd13 (by exact bel0)) (Rd.grows rde (by exact bel0))).mono ?_; rintro e w16 ⟨rfl, g16⟩
              cases is
              · obtain rfl := HZZ rfl
                clear HZZ
                cases five
                · go_wp2_with fail; go_ret; exact ⟨by simp, by exact bel3 g16 hg15 HG⟩
                · cases six
                  · go_wp2_with fail; go_ret; exact ⟨by simp, by exact bel3 g16 hg15 HG⟩
                  · go_wp2_with fail; go_ret; exact ⟨by simp, by exact bel3 g16 hg15 HG⟩
              · clear HZZ
                cases five
                · go_wp2_with fail; go_ret; exact ⟨by simp, by exact bel3 g16 hg15 HG⟩
                · cases six
                  · go_wp2_with fail; go_ret; exact ⟨by simp, by exact bel3 g16 hg15 HG⟩
                  · go_wp2_with fail; go_ret; exact ⟨by simp, by exact bel3 g16 hg15 HG⟩
            · by_cases hk6 : k ≤ 6
              · obtain ⟨C, rfl, hCl, hC24, hnum, rfl, hval⟩ := HKP.out (by omega)
                obtain ⟨six, cc, hvv, CVe0⟩ := val_pack k xc A13 (some ⟨ge, 0, none⟩) xl (unitL k) k c13 k (unitL_length k) (by omega) (by omega) (fun o c => o = true → c = sqSum l2 C) hval
                have CVe := Lib.hid CVe0
                clear CVe0
                have hcell := oe.cell 0 (by simp; omega)
                have hfree := oe.free 0
                have i1 : (0 : Int) < (k : Int) := by omega
                have i2 : (k : Int) ≤ 6 := by omega
                obtain ⟨w16, hw16, o16, hg16⟩ := own_unit oe hg15
                have HW16 := Lib.hid hw16
                have rde : Rd w16 (some ⟨ge, 0, none⟩) (unitL k) := o16.rd_
                replace mx := mx.grows hg16
                replace mm := mm.grows hg16
                replace rd13 := rd13.grows hg16
                replace rd12 := rd12.grows hg16
                have HC := Lib.hid hCl
                have HN := Lib.hid hnum
                have HVV := Lib.hid hvv
                clear hw16 oe mx_0 mx_1 mx_2 mx_l mx_f mm_0 mm_1 mm_2 mm_l mm_f o16 HKP HKB HKZ HZ hnum hval hvv hCl
                obtain ⟨mm_0, mm_1, mm_2⟩ := mm.cells
                have mm_l := mm.lt
                go_wp2_with fail
                rw [← HW16.out]
                go_loopw [22, 23] (fun s j wr => ∃ J : Nat, j = .int .i64 J ∧ J ≤ C ∧ s = .int .i64 (sqSum l2 J) ∧ Grows w16 wr) (fun _ j _ => C - (intOf j).toNat)
                case atStart => exact ⟨0, rfl, Nat.zero_le _, rfl, by exact bel0⟩
                case round =>
                  clear mm_0 mm_1 mm_2 mm_l
                  obtain ⟨J, rfl, hJ, rfl, hg⟩ := hrel
                  have mm' := mm.grows hg
                  obtain ⟨mm_0, mm_1, mm_2⟩ := mm'.cells
                  have mm_l := mm'.lt
                  by_cases hlt : J < C
                  · have hlt' : (J : Int) < (C : Int) := by omega
                    have hJl : J < l2.length := by have := HC.out; omega
                    obtain ⟨bs, fs, rfl, hbs, s0⟩ := (rd12.grows hg).at_ J hJl
                    have hJl' : (J : Int) < (l2.length : Int) := by omega
                    have q0 := sqSum_bd HN.out (n := J) (by omega)
                    have q1 := sqSum_bd HN.out (n := J + 1) (by omega)
                    rw [sqSum_succ] at q1
                    have q2 : 0 ≤ nth l2 J * nth l2 J := by rcases Int.le_total 0 (nth l2 J) with h | h; exact Int.mul_nonneg h h; exact Int.mul_nonneg_of_nonpos_of_nonpos h h
                    have HSS := Lib.hid (sqSum_succ l2 J)
                    have e1 : IntKind.i64.wrap (nth l2 J * nth l2 J) = nth l2 J * nth l2 J := IntWalk.i64_in _ (by omega)
                    have e2 : IntKind.i64.wrap (sqSum l2 J + nth l2 J * nth l2 J) = sqSum l2 J + nth l2 J * nth l2 J := IntWalk.i64_in _ (by omega)
                    go_wp2_with fail
                    go_quiet (fail)
                    go_wp2_with fail
                    go_round
                    case rel => exact ⟨J + 1, by go_num, by omega, by rw [HSS.out], below_drewN hg _⟩
                    case measure => first | (simp [intOf]; done) | (simp [intOf]; omega)
                  · have hlt' : ¬ (J : Int) < (C : Int) := by omega
                    obtain rfl : J = C := by omega
                    have mx' := mx.grows hg
                    obtain ⟨mx_0, mx_1, mx_2⟩ := mx'.cells
                    have mx_l := mx'.lt
                    have HVV1 := HVV.out
                    have rde' := rde.grows hg
                    have rd13' := rd13.grows hg
                    have gz := Below.size hg
                    go_wp2_with fail
                    refine (CVe.out _ (Rd.grows rd13' (by exact bel0)) (Rd.grows rde' (by exact bel0))).mono ?_; rintro e w17 ⟨rfl, g17⟩
                    have hgw : Grows w14 wr := by exact bel2 hg hg16
                    cases six
                    · clear HVV1
                      cases is
                      · obtain rfl := HZZ rfl
                        clear HZZ
                        go_wp2_with fail; go_ret; exact ⟨by simp, by exact bel3 g17 hgw HG⟩
                      · clear HZZ
                        go_wp2_with fail; go_ret; exact ⟨by simp, by exact bel3 g17 hgw HG⟩
                    · obtain rfl := HVV1 rfl
                      clear HVV1
                      cases is
                      · obtain rfl := HZZ rfl
                        clear HZZ
                        go_wp2_with fail; go_ret; exact ⟨by simp, by exact bel3 g17 hgw HG⟩
                      · clear HZZ
                        go_wp2_with fail; go_ret; exact ⟨by simp, by exact bel3 g17 hgw HG⟩
              · have hk6' : ¬ (k : Int) ≤ 6 := by omega
                have i1 : (0 : Int) < (k : Int) := by omega
                obtain ⟨six, cc, rfl, CVe0⟩ := val_pack k xc A13 (some ⟨ge, 0, none⟩) xl (List.replicate k 0) k c13 k (by simp) (by omega) (by omega) (fun o _ => o = false) (HKB.out (by omega) (List.replicate k 0))
                have CVe' := Lib.hid CVe0
                clear CVe0
                have rde : Rd w15 (some ⟨ge, 0, none⟩) (List.replicate k 0) := oe.rd_
                replace mx := mx.grows hg15
                replace rd13 := rd13.grows hg15
                clear mx_0 mx_1 mx_2 mx_l mx_f mm_0 mm_1 mm_2 mm_l mm_f
                obtain ⟨mx_0, mx_1, mx_2⟩ := mx.cells
                have mx_l := mx.lt
                clear HKP HKB HKZ HZ
                go_wp2_with fail
                refine (CVe'.out _ (Rd.grows rd13 (by exact bel0)) (Rd.grows rde (by exact bel0))).mono ?_; rintro e w16 ⟨rfl, g16⟩
                cases is
                · obtain rfl := HZZ rfl
                  clear HZZ
                  cases five
                  · go_wp2_with fail; go_ret; exact ⟨by simp, by exact bel3 g16 hg15 HG⟩
                  · go_wp2_with fail; go_ret; exact ⟨by simp, by exact bel3 g16 hg15 HG⟩
                · clear HZZ
                  cases five
                  · go_wp2_with fail; go_ret; exact ⟨by simp, by exact bel3 g16 hg15 HG⟩
                  · go_wp2_with fail; go_ret; exact ⟨by simp, by exact bel3 g16 hg15 HG⟩
end
end Go.Proofs.Yticmopedbgoflaa


namespace Go.Proofs.Yticmopedbgoflaa
set_option linter.unusedSimpArgs false
set_option linter.unusedVariables false
open Go.ChangeShapes Go.WideShapes Go.ChangeAt Go.RowKit Go.Joins
set_option linter.unusedVariables false

set_option maxRecDepth 100000 in
theorem fnValues_lifted (os : Os) (started : os.Started) (H : Type) (enc : TypeId × Value → H) :
    ReturnsInHanded {} Try.checked os 3 .any (Rows.fnValuesSpec.pre6 enc Try.prog Try.f3 Rows.fnValuesRow.domain false) (Rows.fnValuesSpec.post enc Try.prog Try.f3 false true false false) := by
  refine returnsInHanded_of_change (C := Try.checked) own started (by kernel_rfl) Try.func3
    (ChangeSpec.witness6 (enc := enc) (C := Try.checked) false ⟨#[], #[.slice none 0 0], []⟩ 8 (by kernel_rfl) (by kernel_rfl) (by kernel_rfl) (by kernel_rfl)) ?_
  intro W base args ds gs before hval0 hW hcnd _
  have hval : ∀ (j : Nat) t v, Try.f3.params[j]? = some t → args[j]? = some v → Value.okWide Try.prog W .any base t v := hval0
  have hW' := hW
  obtain ⟨p, q, hA0, hV, rfl, hfz, hnd⟩ := hW
  have hA : DataW.TrodAll enc Try.prog W 0 (fun _ => true) true Try.f3.params.toList args.toList ds p := hA0
  rw [Try.params3] at hA hval
  obtain ⟨v0, vs0, d0, ds0, p0, q0, hargs, rfl, rfl, h0, r0⟩ := trodAll_cons hA
  obtain ⟨rfl, rfl, rfl⟩ := trodAll_nil r0
  obtain rfl : args = #[v0] := by cases args; simp_all
  obtain ⟨rfl, rfl⟩ := trodVars_none hV
  have k0 := h0
  have lt0 : ∀ x ∈ p0, x.block < W.heap.size := by obtain ⟨m, hm⟩ := k0; exact DataW.trod_lt m _ _ _ hm
  obtain ⟨a00, len0, cap0, rfl⟩ := okWide_slice Try.underlying22 (hval 0 22 v0 rfl rfl)
  obtain ⟨A0, l0, c0, e0, ir0⟩ : ∃ A l c, Value.slice a00 len0 cap0 = .slice A (List.length l) c ∧ InCode W A l c := by obtain ⟨fuel, hf⟩ := h0; simp only [Value.cells] at hf; exact open_code hf
  rw [e0] at hval hW' k0 ⊢
  clear hA0 hval0
  refine (lawVal_c A0 l0 c0 W ir0).mono fun e W' ⟨he, bel⟩ => ?_
  subst he
  exact ⟨_, rfl, _, _, _, [], _, [], hW', trodAll_mk1 (shut_bool Try.underlying4 _), (trodAll_cons_mk (Below.trod laidOut (by kernel_rfl) (of_decide_eq_true (by kernel_rfl)) k0 bel lt0) trodAll_mk0), rfl, bel.frame _, fun h => by cases h⟩

theorem fnValues_closed : joinedFacts Try.pinned.checked.prog 3 Try.f3 Rows.fnValuesSpec Rows.fnValuesRow = true := by
  unfold joinedFacts
  rw [fLaid, fRowed, fStops, fEnter, fLift, fMake]
  change _ = true
  kernel_rfl
/-- The statement. -/
theorem fnValues_holds : Rows.FnValuesSaid :=
  OpenClaim.holds_of_wide 3 Try.f3 rfl rfl rfl rfl rfl rfl rfl ⟨rfl, rfl, rfl, rfl, rfl⟩ rfl rfl rfl rfl rfl (by kernel_rfl) Try.func3 fnValues_closed
    (of_decide_eq_true (by kernel_rfl)) (by unfold Func.isWrapper; first | (rw [if_pos (by decide +kernel)]; kernel_rfl) | (rw [if_neg (by decide +kernel)]; exact ⟨rfl, rfl⟩))
    (fun os started H enc _ => fnValues_lifted os started H enc)
end Go.Proofs.Yticmopedbgoflaa
