/- Contracts and lemmas, put together. -/
import Derived.Test.YtpgoefdeodoacaaPkK
import Derived.Test.YtpgoefdeodoacaaQRgI
/- Contracts: a basis is reduced, both. -/
namespace Go.Proofs.Ytpgoefdeodoacaa
set_option linter.unusedSimpArgs false
set_option linter.unusedVariables false
open Go.RowKit

def rbO (b : MX) : Option (MX × MX) := (gmO b).bind fun g => (rdgO g).bind fun x => (mulO x.2 b).map fun p => (p, x.2)
theorem rbO_1 {b : MX} (h : gmO b = none) : rbO b = none := by unfold rbO; rw [h]; rfl
theorem rbO_2 {b g : MX} (h : gmO b = some g) (h2 : rdgO g = none) : rbO b = none := by unfold rbO; rw [h]; show (rdgO g).bind _ = none; rw [h2]; rfl
theorem rbO_3 {b g : MX} {x : MX × MX} (h : gmO b = some g) (h2 : rdgO g = some x) : rbO b = (mulO x.2 b).map fun p => (p, x.2) := by unfold rbO; rw [h]; show (rdgO g).bind _ = _; rw [h2]; rfl
theorem rbO_len1 {g : MX} : (oM2 (rbO g)).1.l.length ≤ 576 := by
  cases h : rbO g with
  | none => exact Nat.zero_le _
  | some x =>
    unfold rbO at h
    obtain ⟨a, _, h1⟩ := Option.bind_eq_some_iff.1 h
    obtain ⟨y, _, h2⟩ := Option.bind_eq_some_iff.1 h1
    obtain ⟨p, h3, rfl⟩ := Option.map_eq_some_iff.1 h2
    have := oM_length (o := some p) fun m hm => by cases hm; exact mulO_ok h3
    exact this
theorem rbO_len2 {g : MX} : (oM2 (rbO g)).2.l.length ≤ 576 := by
  cases h : rbO g with
  | none => exact Nat.zero_le _
  | some x =>
    unfold rbO at h
    obtain ⟨a, _, h1⟩ := Option.bind_eq_some_iff.1 h
    obtain ⟨y, h4, h2⟩ := Option.bind_eq_some_iff.1 h1
    obtain ⟨p, h3, rfl⟩ := Option.map_eq_some_iff.1 h2
    have := rdgO_len2 (g := a)
    rw [h4] at this
    exact this
theorem iRgX_c (r c : Int) (A : Option Addr) (l : List Int) (n cap : Nat) (w : World) (hn : l.length = n) (hcap : n ≤ cap) (hcap2 : cap ≤ 9223372036854775807) (ha : Rd w A l) (hl : n ≤ 1099511627776) :
    Calls Try.prog 33 #[.agg #[.int .i64 r, .int .i64 c, .slice A n cap]] w (Mat2Ret (rdgO ⟨r, c, l⟩) w) := iRg_c r c A l n cap w hn hcap hcap2 ha hl
theorem sRgX_c (r c : Int) (A : Option Addr) (l : List Int) (n cap : Nat) (w : World) (hn : l.length = n) (_ : n ≤ cap) (_ : cap ≤ 9223372036854775807) (ha : Rd w A l) (hl : n ≤ 1099511627776) :
    Calls Try.prog 32 #[.agg #[.int .i64 r, .int .i64 c, .slice A n cap]] w (Mat2Ret (rdgO ⟨r, c, l⟩) w) := sRg_c r c A l n cap w hn ha hl
section
set_option maxHeartbeats 40000000
set_option maxRecDepth 100000
theorem iRb_c (r c : Int) (A : Option Addr) (l : List Int) (n cap : Nat) (w : World) (hn : l.length = n) (ha : Rd w A l) (hl : n ≤ 1099511627776) :
    Calls Try.prog 40 #[.agg #[.int .i64 r, .int .i64 c, .slice A n cap]] w (Mat2Ret (rbO ⟨r, c, l⟩) w) := by
  have CG := Lib.hid fun W h => (iGm_m r c A l n cap W hn h hl).mono fun _ _ h => matRet_out h
  have hgl : (oM (gmO ⟨r, c, l⟩)).l.length ≤ 576 := gmO_length _
  obtain ⟨w1, hw1, mg, m2, m3, hs1, HG⟩ := three_mats w r c (.slice A n cap)
  have HW1 := Lib.hid hw1
  have HS1 := Lib.hid hs1
  have ha1 : Rd w1 A l := ha.grows HG
  have HN := Lib.hid hn
  obtain ⟨RES, hRES⟩ : ∃ x, x = rbO ⟨r, c, l⟩ := ⟨_, rfl⟩
  rw [← hRES]
  have HR := Lib.hid hRES
  clear hw1 hs1 hn hRES
  cases hG : gmO ⟨r, c, l⟩ with
  | none =>
    obtain rfl : RES = none := HR.out.trans (rbO_1 hG)
    rw [hG] at CG
    clear hG hgl
    go_enter Try.func40, Try.ntmps40
    go_wp2_with fail
    rw [← HW1.out]
    have mg_0 := mg.c0; have mg_1 := mg.c1; have mg_2 := mg.c2; have mg_l := mg.lt; have mg_f := mg.fz
    have m2_0 := m2.c0; have m2_1 := m2.c1; have m2_2 := m2.c2; have m2_l := m2.lt; have m2_f := m2.fz
    have m3_0 := m3.c0; have m3_1 := m3.c1; have m3_2 := m3.c2; have m3_l := m3.lt; have m3_f := m3.fz
    refine (CG.out _ (by exact Rd.grows ha1 (by exact bel0))).mono ?_; rintro e w2 ⟨v2, rfl, o2, g_w2⟩
    have s_w2 := Below.size g_w2; (try simp at s_w2)
    clear mg_0 mg_1 mg_2 mg_l mg_f
    replace mg := mg.grows (w' := w2) (by exact bel1 g_w2)
    have mg_0 := mg.c0; have mg_1 := mg.c1; have mg_2 := mg.c2; have mg_l := mg.lt; have mg_f := mg.fz
    clear m2_0 m2_1 m2_2 m2_l m2_f
    replace m2 := m2.grows (w' := w2) (by exact bel1 g_w2)
    have m2_0 := m2.c0; have m2_1 := m2.c1; have m2_2 := m2.c2; have m2_l := m2.lt; have m2_f := m2.fz
    clear m3_0 m3_1 m3_2 m3_l m3_f
    replace m3 := m3.grows (w' := w2) (by exact bel1 g_w2)
    have m3_0 := m3.c0; have m3_1 := m3.c1; have m3_2 := m3.c2; have m3_l := m3.lt; have m3_f := m3.fz
    replace ha1 := ha1.grows (w' := w2) (by exact bel1 g_w2)
    replace HG : Grows w w2 := by exact bel2 g_w2 HG
    have h_w2 := Below.size HG
    obtain ⟨A2, c2, rfl, _, _⟩ := o2.val
    (have z2 := m2; have z3 := m3; obtain ⟨zr0, zr1, zr2⟩ := z2.cells; have zrf := z2.fz; have zrl := z2.lt; obtain ⟨yr0, yr1, yr2⟩ := z3.cells; have yrf := z3.fz; have yrl := z3.lt; have zrm := Nat.lt_of_succ_lt zrl; go_wp2_with fail; refine bodyPost_ret (v := .tuple #[.agg #[.int .i64 0, .int .i64 0, .slice none 0 0], .agg #[.int .i64 0, .int .i64 0, .slice none 0 0], .bool false]) ?_ rfl ?_; (simp [results, Try.results40, go_sem, zr0, zr1, zr2, zrf, zrl, yr0, yr1, yr2, yrf, yrl, zrm]); exact ⟨_, _, rfl, Own.nil _ _, Own.nil _ _, by simp [Value.ownBlock], by exact bel1 HG⟩)
  | some g =>
    obtain ⟨gr, gc, gl⟩ := g
    rw [hG] at CG hgl
    have hgl' : gl.length ≤ 576 := hgl
    have HG1 := Lib.hid hG
    clear hG hgl
    have CR := Lib.hid fun A2 c2 W (e2 : gl.length ≤ c2) (e3 : c2 ≤ 9223372036854775807) h => (iRgX_c gr gc A2 gl gl.length c2 W rfl e2 e3 h (by omega)).mono fun _ _ h => mat2_out h
    have e1 : oM (some (⟨gr, gc, gl⟩ : MX)) = ⟨gr, gc, gl⟩ := rfl
    rw [e1] at CG
    clear e1
    simp only at CG
    cases hX : rdgO ⟨gr, gc, gl⟩ with
    | none =>
      obtain rfl : RES = none := HR.out.trans (rbO_2 HG1.out hX)
      rw [hX] at CR
      clear hX
      go_enter Try.func40, Try.ntmps40
      go_wp2_with fail
      rw [← HW1.out]
      have mg_0 := mg.c0; have mg_1 := mg.c1; have mg_2 := mg.c2; have mg_l := mg.lt; have mg_f := mg.fz
      have m2_0 := m2.c0; have m2_1 := m2.c1; have m2_2 := m2.c2; have m2_l := m2.lt; have m2_f := m2.fz
      have m3_0 := m3.c0; have m3_1 := m3.c1; have m3_2 := m3.c2; have m3_l := m3.lt; have m3_f := m3.fz
      refine (CG.out _ (by exact Rd.grows ha1 (by exact bel0))).mono ?_; rintro e w2 ⟨v2, rfl, o2, g_w2⟩
      have s_w2 := Below.size g_w2; (try simp at s_w2)
      clear mg_0 mg_1 mg_2 mg_l mg_f
      replace mg := mg.grows (w' := w2) (by exact bel1 g_w2)
      have mg_0 := mg.c0; have mg_1 := mg.c1; have mg_2 := mg.c2; have mg_l := mg.lt; have mg_f := mg.fz
      clear m2_0 m2_1 m2_2 m2_l m2_f
      replace m2 := m2.grows (w' := w2) (by exact bel1 g_w2)
      have m2_0 := m2.c0; have m2_1 := m2.c1; have m2_2 := m2.c2; have m2_l := m2.lt; have m2_f := m2.fz
      clear m3_0 m3_1 m3_2 m3_l m3_f
      replace m3 := m3.grows (w' := w2) (by exact bel1 g_w2)
      have m3_0 := m3.c0; have m3_1 := m3.c1; have m3_2 := m3.c2; have m3_l := m3.lt; have m3_f := m3.fz
      replace ha1 := ha1.grows (w' := w2) (by exact bel1 g_w2)
      replace HG : Grows w w2 := by exact bel2 g_w2 HG
      have h_w2 := Below.size HG
      obtain ⟨A2, c2, rfl, hd2, _⟩ := o2.val
      have hd2' : Rd w2 A2 gl := hd2
      obtain ⟨e2, e3⟩ := (show Own w2 w1.heap.size (.slice A2 gl.length c2) gl from o2).caps.2
      clear hd2
      go_wp2_with fail
      refine (CR.out A2 c2 _ e2 e3 (by exact Rd.grows hd2' (by exact bel0))).mono ?_; rintro e w3 ⟨v3, v4, rfl, o3, o4, ne, g_w3⟩
      have s_w3 := Below.size g_w3; (try simp at s_w3)
      clear mg_0 mg_1 mg_2 mg_l mg_f
      replace mg := mg.grows (w' := w3) (by exact bel1 g_w3)
      have mg_0 := mg.c0; have mg_1 := mg.c1; have mg_2 := mg.c2; have mg_l := mg.lt; have mg_f := mg.fz
      clear m2_0 m2_1 m2_2 m2_l m2_f
      replace m2 := m2.grows (w' := w3) (by exact bel1 g_w3)
      have m2_0 := m2.c0; have m2_1 := m2.c1; have m2_2 := m2.c2; have m2_l := m2.lt; have m2_f := m2.fz
      clear m3_0 m3_1 m3_2 m3_l m3_f
      replace m3 := m3.grows (w' := w3) (by exact bel1 g_w3)
      have m3_0 := m3.c0; have m3_1 := m3.c1; have m3_2 := m3.c2; have m3_l := m3.lt; have m3_f := m3.fz
      replace ha1 := ha1.grows (w' := w3) (by exact bel1 g_w3)
      replace hd2' := hd2'.grows (w' := w3) (by exact bel1 g_w3)
      have m5 : MBox w3 (w2.heap.size) gr gc (.slice A2 gl.length c2) := MBox.grows (MBox.new_ w2 gr gc (.slice A2 gl.length c2) 28 (by simp)) (w' := w3) (by exact bel1 g_w3)
      have m5_0 := m5.c0; have m5_1 := m5.c1; have m5_2 := m5.c2; have m5_l := m5.lt; have m5_f := m5.fz
      replace HG : Grows w w3 := by exact bel2 g_w3 HG
      have h_w3 := Below.size HG
      obtain ⟨A3, c3, rfl, _, _⟩ := o3.val
      obtain ⟨A4, c4, rfl, _, _⟩ := o4.val
      (have z2 := m2; have z3 := m3; obtain ⟨zr0, zr1, zr2⟩ := z2.cells; have zrf := z2.fz; have zrl := z2.lt; obtain ⟨yr0, yr1, yr2⟩ := z3.cells; have yrf := z3.fz; have yrl := z3.lt; have zrm := Nat.lt_of_succ_lt zrl; go_wp2_with fail; refine bodyPost_ret (v := .tuple #[.agg #[.int .i64 0, .int .i64 0, .slice none 0 0], .agg #[.int .i64 0, .int .i64 0, .slice none 0 0], .bool false]) ?_ rfl ?_; (simp [results, Try.results40, go_sem, zr0, zr1, zr2, zrf, zrl, yr0, yr1, yr2, yrf, yrl, zrm]); exact ⟨_, _, rfl, Own.nil _ _, Own.nil _ _, by simp [Value.ownBlock], by exact bel1 HG⟩)
    | some x =>
      obtain ⟨⟨hr, hc, hl3⟩, ⟨ur, uc, ul⟩⟩ := x
      rw [hX] at CR
      have hul : ul.length ≤ 576 := by
        have := rdgO_len2 (g := (⟨gr, gc, gl⟩ : MX))
        rw [hX] at this
        exact this
      have e1 : oM2 (some ((⟨hr, hc, hl3⟩ : MX), (⟨ur, uc, ul⟩ : MX))) = (⟨hr, hc, hl3⟩, ⟨ur, uc, ul⟩) := rfl
      rw [e1] at CR
      clear e1
      simp only at CR
      have CM := Lib.hid fun A4 c4 W h h' => (iMul_m ur uc r c A4 A ul l ul.length n c4 cap W rfl HN.out h h' (by omega) hl).mono fun _ _ h => matRet_out h
      have HX := Lib.hid (HR.out.trans (rbO_3 HG1.out hX))
      simp only at HX
      have hpl : (oM (mulO ⟨ur, uc, ul⟩ ⟨r, c, l⟩)).l.length ≤ 576 := oM_length fun _ h => mulO_ok h
      generalize mulO ⟨ur, uc, ul⟩ ⟨r, c, l⟩ = P at *
      clear hX
      go_enter Try.func40, Try.ntmps40
      go_wp2_with fail
      rw [← HW1.out]
      have mg_0 := mg.c0; have mg_1 := mg.c1; have mg_2 := mg.c2; have mg_l := mg.lt; have mg_f := mg.fz
      have m2_0 := m2.c0; have m2_1 := m2.c1; have m2_2 := m2.c2; have m2_l := m2.lt; have m2_f := m2.fz
      have m3_0 := m3.c0; have m3_1 := m3.c1; have m3_2 := m3.c2; have m3_l := m3.lt; have m3_f := m3.fz
      refine (CG.out _ (by exact Rd.grows ha1 (by exact bel0))).mono ?_; rintro e w2 ⟨v2, rfl, o2, g_w2⟩
      have s_w2 := Below.size g_w2; (try simp at s_w2)
      clear mg_0 mg_1 mg_2 mg_l mg_f
      replace mg := mg.grows (w' := w2) (by exact bel1 g_w2)
      have mg_0 := mg.c0; have mg_1 := mg.c1; have mg_2 := mg.c2; have mg_l := mg.lt; have mg_f := mg.fz
      clear m2_0 m2_1 m2_2 m2_l m2_f
      replace m2 := m2.grows (w' := w2) (by exact bel1 g_w2)
      have m2_0 := m2.c0; have m2_1 := m2.c1; have m2_2 := m2.c2; have m2_l := m2.lt; have m2_f := m2.fz
      clear m3_0 m3_1 m3_2 m3_l m3_f
      replace m3 := m3.grows (w' := w2) (by exact bel1 g_w2)
      have m3_0 := m3.c0; have m3_1 := m3.c1; have m3_2 := m3.c2; have m3_l := m3.lt; have m3_f := m3.fz
      replace ha1 := ha1.grows (w' := w2) (by exact bel1 g_w2)
      replace HG : Grows w w2 := by exact bel2 g_w2 HG
      have h_w2 := Below.size HG
      obtain ⟨A2, c2, rfl, hd2, _⟩ := o2.val
      have hd2' : Rd w2 A2 gl := hd2
      obtain ⟨e2, e3⟩ := (show Own w2 w1.heap.size (.slice A2 gl.length c2) gl from o2).caps.2
      clear hd2
      go_wp2_with fail
      refine (CR.out A2 c2 _ e2 e3 (by exact Rd.grows hd2' (by exact bel0))).mono ?_; rintro e w3 ⟨v3, v4, rfl, o3, o4, ne, g_w3⟩
      have s_w3 := Below.size g_w3; (try simp at s_w3)
      clear mg_0 mg_1 mg_2 mg_l mg_f
      replace mg := mg.grows (w' := w3) (by exact bel1 g_w3)
      have mg_0 := mg.c0; have mg_1 := mg.c1; have mg_2 := mg.c2; have mg_l := mg.lt; have mg_f := mg.fz
      clear m2_0 m2_1 m2_2 m2_l m2_f
      replace m2 := m2.grows (w' := w3) (by exact bel1 g_w3)
      have m2_0 := m2.c0; have m2_1 := m2.c1; have m2_2 := m2.c2; have m2_l := m2.lt; have m2_f := m2.fz
      clear m3_0 m3_1 m3_2 m3_l m3_f
      replace m3 := m3.grows (w' := w3) (by exact bel1 g_w3)
      have m3_0 := m3.c0; have m3_1 := m3.c1; have m3_2 := m3.c2; have m3_l := m3.lt; have m3_f := m3.fz
      replace ha1 := ha1.grows (w' := w3) (by exact bel1 g_w3)
      replace hd2' := hd2'.grows (w' := w3) (by exact bel1 g_w3)
      have m5 : MBox w3 (w2.heap.size) gr gc (.slice A2 gl.length c2) := MBox.grows (MBox.new_ w2 gr gc (.slice A2 gl.length c2) 28 (by simp)) (w' := w3) (by exact bel1 g_w3)
      have m5_0 := m5.c0; have m5_1 := m5.c1; have m5_2 := m5.c2; have m5_l := m5.lt; have m5_f := m5.fz
      replace HG : Grows w w3 := by exact bel2 g_w3 HG
      have h_w3 := Below.size HG
      obtain ⟨A3, c3, rfl, _, _⟩ := o3.val
      obtain ⟨A4, c4, rfl, hd4, _⟩ := o4.val
      have hd4' : Rd w3 A4 ul := hd4
      have hs12 : w1.heap.size ≤ w2.heap.size := by omega
      clear hd4
      go_wp2_with fail
      obtain ⟨w3b, hw3b⟩ : ∃ x, x = (w3.alloc (.cells #[.int .i64 hr, .int .i64 hc, .slice A3 hl3.length c3] 28)).alloc (.cells #[.int .i64 ur, .int .i64 uc, .slice A4 ul.length c4] 28) := ⟨_, rfl⟩
      have g3b : Grows w3 w3b := by rw [hw3b]; exact bel0
      have mU : MBox w3b (w3.heap.size + 1) ur uc (.slice A4 ul.length c4) := by rw [hw3b]; exact MBox.new_ _ _ _ _ _ (by simp)
      have hs3b : w3.heap.size + 2 = w3b.heap.size := by rw [hw3b]; simp
      rw [← hw3b]
      have HSB := Lib.hid hs3b
      clear hw3b hs3b
      refine (CM.out A4 c4 _ (hd4'.grows g3b) (ha1.grows g3b)).mono ?_; rintro e w4 ⟨v5, rfl, o5, g4⟩
      obtain ⟨A5, c5, rfl, _, _⟩ := o5.val
      have g34 : Grows w3 w4 := by exact bel2 g4 g3b
      cases P with
      | none =>
        obtain rfl : RES = none := HX.out
        (have z2 := m2.grows g34; have z3 := m3.grows g34; obtain ⟨zr0, zr1, zr2⟩ := z2.cells; have zrf := z2.fz; have zrl := z2.lt; obtain ⟨yr0, yr1, yr2⟩ := z3.cells; have yrf := z3.fz; have yrl := z3.lt; have zrm := Nat.lt_of_succ_lt zrl; go_wp2_with fail; refine bodyPost_ret (v := .tuple #[.agg #[.int .i64 0, .int .i64 0, .slice none 0 0], .agg #[.int .i64 0, .int .i64 0, .slice none 0 0], .bool false]) ?_ rfl ?_; (simp [results, Try.results40, go_sem, zr0, zr1, zr2, zrf, zrl, yr0, yr1, yr2, yrf, yrl, zrm]); exact ⟨_, _, rfl, Own.nil _ _, Own.nil _ _, by simp [Value.ownBlock], by exact bel2 g34 HG⟩)
      | some p =>
        obtain ⟨pr, pc, pl⟩ := p
        have e1 : oM (some (⟨pr, pc, pl⟩ : MX)) = ⟨pr, pc, pl⟩ := rfl
        rw [e1] at o5 hpl
        rw [e1]
        simp only at o5 hpl ⊢
        obtain rfl : RES = some ((⟨pr, pc, pl⟩ : MX), (⟨ur, uc, ul⟩ : MX)) := HX.out
        obtain ⟨w5, hw5⟩ : ∃ x, x = w4.alloc (.cells #[.int .i64 pr, .int .i64 pc, .slice A5 pl.length c5] 28) := ⟨_, rfl⟩
        have g45 : Grows w4 w5 := by rw [hw5]; exact bel0
        have mP : MBox w5 w4.heap.size pr pc (.slice A5 pl.length c5) := by rw [hw5]; exact MBox.mk_ _ _ _ _ _
        have mU5 := (mU.grows g4).grows g45
        have HW5 := Lib.hid hw5
        have z2 := (m2.grows g34).grows g45; have z3 := (m3.grows g34).grows g45
        obtain ⟨zr0, zr1, zr2⟩ := z2.cells; have zrf := z2.fz; have zrl := z2.lt
        obtain ⟨yr0, yr1, yr2⟩ := z3.cells; have yrf := z3.fz; have yrl := z3.lt
        have hsz3 := Below.size HG
        have hsz4 := Below.size g34
        have h3l := m3.lt
        have u0 := (mU.grows g4).c0
        have u1 := (mU.grows g4).c1
        have u2 := (mU.grows g4).c2
        have uL := (mU.grows g4).lt
        have hoA : Own w5 w1.heap.size (.slice A5 pl.length c5) (oM2 (some ((⟨pr, pc, pl⟩ : MX), (⟨ur, uc, ul⟩ : MX)))).1.l := (o5.grows g45).less (by have := HSB.out; omega)
        have hoU : Own w5 w1.heap.size (.slice A4 ul.length c4) (oM2 (some ((⟨pr, pc, pl⟩ : MX), (⟨ur, uc, ul⟩ : MX)))).2.l := ((((show Own w3 _ (.slice A4 ul.length c4) ul from o4)).grows g34).grows g45).less (by simp; have := HS1.out; omega)
        have hne : ∀ g, (Value.slice A5 pl.length c5).ownBlock = some g → (Value.slice A4 ul.length c4).ownBlock ≠ some g := fun g h h2 => by
          have h1 := (World.ownsRow.lt o5 g h).1
          have h3 := (World.ownsRow.lt o4 g h2).2
          have := HSB.out
          omega
        have HOA := Lib.hid hoA
        have HOU := Lib.hid hoU
        have HNE := Lib.hid hne
        clear hw5 hoA hoU hne o4 o5 o3 ne
        go_wp2_with fail
        rw [← HW5.out]
        clear u0 u1 u2 uL
        (refine wp_region_heldL (fun W => W.cell? ⟨w4.heap.size, 0, none⟩ = some (.int .i64 pr) ∧ W.cell? ⟨w4.heap.size, 1, none⟩ = some (.int .i64 pc) ∧ W.cell? ⟨w4.heap.size, 2, none⟩ = some (.slice A5 pl.length c5) ∧ W.cell? ⟨w3.heap.size + 1, 0, none⟩ = some (.int .i64 ur) ∧ W.cell? ⟨w3.heap.size + 1, 1, none⟩ = some (.int .i64 uc) ∧ W.cell? ⟨w3.heap.size + 1, 2, none⟩ = some (.slice A4 ul.length c4)) (by kernel_rfl) (by ((try dsimp only); (exact two_boxes2 (v := .slice A5 pl.length c5) (v' := .slice A4 ul.length c4) (by ((repeat' (first | with_reducible exact mP | with_reducible refine MBox.alloc ?_ _ | with_reducible refine MBox.drew_ ?_ | with_reducible refine MBox.far ?_ ?_ _)); all_goals (first | omega | (simp; done) | (simp; omega)))) (by ((repeat' (first | with_reducible exact mU5 | with_reducible refine MBox.alloc ?_ _ | with_reducible refine MBox.drew_ ?_ | with_reducible refine MBox.far ?_ ?_ _)); all_goals (first | omega | (simp; done) | (simp; omega))))))) (fun hHeld => ?_); refine heldL_take (i := 0) (v := _) (by rfl) (by kernel_rfl) (by kernel_rfl) (by kernel_rfl) (fun _ _ _ h => h) (Or.inl ⟨by rfl, fun wS hSw => by ((try dsimp only at hSw); go_simp; (try with_reducible rfl))⟩) (by assumption) ?_; simp only [Act.put, List.setIfInBounds_toArray, List.set_cons_zero, List.set_cons_succ]; refine heldL_take (i := 1) (v := _) (by rfl) (by kernel_rfl) (by kernel_rfl) (by kernel_rfl) (fun _ _ _ h => h) (Or.inl ⟨by rfl, fun wS hSw => by ((try dsimp only at hSw); go_simp; (try with_reducible rfl))⟩) (by assumption) ?_; simp only [Act.put, List.setIfInBounds_toArray, List.set_cons_zero, List.set_cons_succ]; refine heldL_step (i := 2) (by kernel_rfl) (by rfl) (fun K hK => ?_); go_simp; refine hK.out _ _ (by ((try dsimp only); (exact two_boxes2 (v := .slice A5 pl.length c5) (v' := .slice A4 ul.length c4) (by ((repeat' (first | with_reducible exact mP | with_reducible refine MBox.alloc ?_ _ | with_reducible refine MBox.drew_ ?_ | with_reducible refine MBox.far ?_ ?_ _)); all_goals (first | omega | (simp; done) | (simp; omega)))) (by ((repeat' (first | with_reducible exact mU5 | with_reducible refine MBox.alloc ?_ _ | with_reducible refine MBox.drew_ ?_ | with_reducible refine MBox.far ?_ ?_ _)); all_goals (first | omega | (simp; done) | (simp; omega))))))) (fun hHeld => ?_); clear hK K; (try simp only [Act.put, List.setIfInBounds_toArray, List.set_cons_zero, List.set_cons_succ]); refine heldL_step (i := 3) (by kernel_rfl) (by rfl) (fun K hK => ?_); go_simp; refine hK.out _ _ (by ((try dsimp only); (exact two_boxes2 (v := .slice A5 pl.length c5) (v' := .slice A4 ul.length c4) (by ((repeat' (first | with_reducible exact mP | with_reducible refine MBox.alloc ?_ _ | with_reducible refine MBox.drew_ ?_ | with_reducible refine MBox.far ?_ ?_ _)); all_goals (first | omega | (simp; done) | (simp; omega)))) (by ((repeat' (first | with_reducible exact mU5 | with_reducible refine MBox.alloc ?_ _ | with_reducible refine MBox.drew_ ?_ | with_reducible refine MBox.far ?_ ?_ _)); all_goals (first | omega | (simp; done) | (simp; omega))))))) (fun hHeld => ?_); clear hK K; (try simp only [Act.put, List.setIfInBounds_toArray, List.set_cons_zero, List.set_cons_succ]); refine heldL_take (i := 4) (v := _) (by rfl) (by kernel_rfl) (by kernel_rfl) (by kernel_rfl) (fun _ _ _ h => h) (Or.inl ⟨by rfl, fun wS hSw => by ((try dsimp only at hSw); go_simp; (try with_reducible rfl))⟩) (by assumption) ?_; simp only [Act.put, List.setIfInBounds_toArray, List.set_cons_zero, List.set_cons_succ]; refine wpAnyH_done (by kernel_rfl) ?_ _; refine NoPanic.normal ?_)
        go_wp2_with fail
        refine bodyPost_ret (v := .tuple #[.agg #[.int .i64 pr, .int .i64 pc, .slice A5 pl.length c5], .agg #[.int .i64 ur, .int .i64 uc, .slice A4 ul.length c4], .bool true]) ?_ rfl ?_
        · simp [results, Try.results40, go_sem, zr0, zr1, zr2, zrf, zrl, yr0, yr1, yr2, yrf, yrl]
        · have hoA := HOA.out
          have hoU := HOU.out
          have hS1 := HS1.out
          exact ⟨_, _, rfl, by exact ownl hoA, by exact ownl hoU, HNE.out, by exact bel3 g45 g34 HG⟩
theorem sRb_c (r c : Int) (A : Option Addr) (l : List Int) (n cap : Nat) (w : World) (hn : l.length = n) (ha : Rd w A l) (hl : n ≤ 1099511627776) :
    Calls Try.prog 39 #[.agg #[.int .i64 r, .int .i64 c, .slice A n cap]] w (Mat2Ret (rbO ⟨r, c, l⟩) w) := by
  have CG := Lib.hid fun W h => (sGm_m r c A l n cap W hn h hl).mono fun _ _ h => matRet_out h
  have hgl : (oM (gmO ⟨r, c, l⟩)).l.length ≤ 576 := gmO_length _
  obtain ⟨w1, hw1, mg, m2, m3, hs1, HG⟩ := three_mats w r c (.slice A n cap)
  have HW1 := Lib.hid hw1
  have HS1 := Lib.hid hs1
  have ha1 : Rd w1 A l := ha.grows HG
  have HN := Lib.hid hn
  obtain ⟨RES, hRES⟩ : ∃ x, x = rbO ⟨r, c, l⟩ := ⟨_, rfl⟩
  rw [← hRES]
  have HR := Lib.hid hRES
  clear hw1 hs1 hn hRES
  cases hG : gmO ⟨r, c, l⟩ with
  | none =>
    obtain rfl : RES = none := HR.out.trans (rbO_1 hG)
    rw [hG] at CG
    clear hG hgl
    go_enter Try.func39, Try.ntmps39
    go_wp2_with fail
    rw [← HW1.out]
    have mg_0 := mg.c0; have mg_1 := mg.c1; have mg_2 := mg.c2; have mg_l := mg.lt; have mg_f := mg.fz
    have m2_0 := m2.c0; have m2_1 := m2.c1; have m2_2 := m2.c2; have m2_l := m2.lt; have m2_f := m2.fz
    have m3_0 := m3.c0; have m3_1 := m3.c1; have m3_2 := m3.c2; have m3_l := m3.lt; have m3_f := m3.fz
    refine (CG.out _ (by exact Rd.grows ha1 (by exact bel0))).mono ?_; rintro e w2 ⟨v2, rfl, o2, g_w2⟩
    have s_w2 := Below.size g_w2; (try simp at s_w2)
    clear mg_0 mg_1 mg_2 mg_l mg_f
    replace mg := mg.grows (w' := w2) (by exact bel1 g_w2)
    have mg_0 := mg.c0; have mg_1 := mg.c1; have mg_2 := mg.c2; have mg_l := mg.lt; have mg_f := mg.fz
    clear m2_0 m2_1 m2_2 m2_l m2_f
    replace m2 := m2.grows (w' := w2) (by exact bel1 g_w2)
    have m2_0 := m2.c0; have m2_1 := m2.c1; have m2_2 := m2.c2; have m2_l := m2.lt; have m2_f := m2.fz
    clear m3_0 m3_1 m3_2 m3_l m3_f
    replace m3 := m3.grows (w' := w2) (by exact bel1 g_w2)
    have m3_0 := m3.c0; have m3_1 := m3.c1; have m3_2 := m3.c2; have m3_l := m3.lt; have m3_f := m3.fz
    replace ha1 := ha1.grows (w' := w2) (by exact bel1 g_w2)
    replace HG : Grows w w2 := by exact bel2 g_w2 HG
    have h_w2 := Below.size HG
    obtain ⟨A2, c2, rfl, _, _⟩ := o2.val
    (have z2 := m2; have z3 := m3; obtain ⟨zr0, zr1, zr2⟩ := z2.cells; have zrf := z2.fz; have zrl := z2.lt; obtain ⟨yr0, yr1, yr2⟩ := z3.cells; have yrf := z3.fz; have yrl := z3.lt; have zrm := Nat.lt_of_succ_lt zrl; go_wp2_with fail; refine bodyPost_ret (v := .tuple #[.agg #[.int .i64 0, .int .i64 0, .slice none 0 0], .agg #[.int .i64 0, .int .i64 0, .slice none 0 0], .bool false]) ?_ rfl ?_; (simp [results, Try.results39, go_sem, zr0, zr1, zr2, zrf, zrl, yr0, yr1, yr2, yrf, yrl, zrm]); exact ⟨_, _, rfl, Own.nil _ _, Own.nil _ _, by simp [Value.ownBlock], by exact bel1 HG⟩)
  | some g =>
    obtain ⟨gr, gc, gl⟩ := g
    rw [hG] at CG hgl
    have hgl' : gl.length ≤ 576 := hgl
    have HG1 := Lib.hid hG
    clear hG hgl
    have CR := Lib.hid fun A2 c2 W (e2 : gl.length ≤ c2) (e3 : c2 ≤ 9223372036854775807) h => (sRgX_c gr gc A2 gl gl.length c2 W rfl e2 e3 h (by omega)).mono fun _ _ h => mat2_out h
    have e1 : oM (some (⟨gr, gc, gl⟩ : MX)) = ⟨gr, gc, gl⟩ := rfl
    rw [e1] at CG
    clear e1
    simp only at CG
    cases hX : rdgO ⟨gr, gc, gl⟩ with
    | none =>
      obtain rfl : RES = none := HR.out.trans (rbO_2 HG1.out hX)
      rw [hX] at CR
      clear hX
      go_enter Try.func39, Try.ntmps39
      go_wp2_with fail
      rw [← HW1.out]
      have mg_0 := mg.c0; have mg_1 := mg.c1; have mg_2 := mg.c2; have mg_l := mg.lt; have mg_f := mg.fz
      have m2_0 := m2.c0; have m2_1 := m2.c1; have m2_2 := m2.c2; have m2_l := m2.lt; have m2_f := m2.fz
      have m3_0 := m3.c0; have m3_1 := m3.c1; have m3_2 := m3.c2; have m3_l := m3.lt; have m3_f := m3.fz
      refine (CG.out _ (by exact Rd.grows ha1 (by exact bel0))).mono ?_; rintro e w2 ⟨v2, rfl, o2, g_w2⟩
      have s_w2 := Below.size g_w2; (try simp at s_w2)
      clear mg_0 mg_1 mg_2 mg_l mg_f
      replace mg := mg.grows (w' := w2) (by exact bel1 g_w2)
      have mg_0 := mg.c0; have mg_1 := mg.c1; have mg_2 := mg.c2; have mg_l := mg.lt; have mg_f := mg.fz
      clear m2_0 m2_1 m2_2 m2_l m2_f
      replace m2 := m2.grows (w' := w2) (by exact bel1 g_w2)
      have m2_0 := m2.c0; have m2_1 := m2.c1; have m2_2 := m2.c2; have m2_l := m2.lt; have m2_f := m2.fz
      clear m3_0 m3_1 m3_2 m3_l m3_f
      replace m3 := m3.grows (w' := w2) (by exact bel1 g_w2)
      have m3_0 := m3.c0; have m3_1 := m3.c1; have m3_2 := m3.c2; have m3_l := m3.lt; have m3_f := m3.fz
      replace ha1 := ha1.grows (w' := w2) (by exact bel1 g_w2)
      replace HG : Grows w w2 := by exact bel2 g_w2 HG
      have h_w2 := Below.size HG
      obtain ⟨A2, c2, rfl, hd2, _⟩ := o2.val
      have hd2' : Rd w2 A2 gl := hd2
      obtain ⟨e2, e3⟩ := (show Own w2 w1.heap.size (.slice A2 gl.length c2) gl from o2).caps.2
      clear hd2
      go_wp2_with fail
      refine (CR.out A2 c2 _ e2 e3 (by exact Rd.grows hd2' (by exact bel0))).mono ?_; rintro e w3 ⟨v3, v4, rfl, o3, o4, ne, g_w3⟩
      have s_w3 := Below.size g_w3; (try simp at s_w3)
      clear mg_0 mg_1 mg_2 mg_l mg_f
      replace mg := mg.grows (w' := w3) (by exact bel1 g_w3)
      have mg_0 := mg.c0; have mg_1 := mg.c1; have mg_2 := mg.c2; have mg_l := mg.lt; have mg_f := mg.fz
      clear m2_0 m2_1 m2_2 m2_l m2_f
      replace m2 := m2.grows (w' := w3) (by exact bel1 g_w3)
      have m2_0 := m2.c0; have m2_1 := m2.c1; have m2_2 := m2.c2; have m2_l := m2.lt; have m2_f := m2.fz
      clear m3_0 m3_1 m3_2 m3_l m3_f
      replace m3 := m3.grows (w' := w3) (by exact bel1 g_w3)
      have m3_0 := m3.c0; have m3_1 := m3.c1; have m3_2 := m3.c2; have m3_l := m3.lt; have m3_f := m3.fz
      replace ha1 := ha1.grows (w' := w3) (by exact bel1 g_w3)
      replace hd2' := hd2'.grows (w' := w3) (by exact bel1 g_w3)
      have m5 : MBox w3 (w2.heap.size) gr gc (.slice A2 gl.length c2) := MBox.grows (MBox.new_ w2 gr gc (.slice A2 gl.length c2) 28 (by simp)) (w' := w3) (by exact bel1 g_w3)
      have m5_0 := m5.c0; have m5_1 := m5.c1; have m5_2 := m5.c2; have m5_l := m5.lt; have m5_f := m5.fz
      replace HG : Grows w w3 := by exact bel2 g_w3 HG
      have h_w3 := Below.size HG
      obtain ⟨A3, c3, rfl, _, _⟩ := o3.val
      obtain ⟨A4, c4, rfl, _, _⟩ := o4.val
      (have z2 := m2; have z3 := m3; obtain ⟨zr0, zr1, zr2⟩ := z2.cells; have zrf := z2.fz; have zrl := z2.lt; obtain ⟨yr0, yr1, yr2⟩ := z3.cells; have yrf := z3.fz; have yrl := z3.lt; have zrm := Nat.lt_of_succ_lt zrl; go_wp2_with fail; refine bodyPost_ret (v := .tuple #[.agg #[.int .i64 0, .int .i64 0, .slice none 0 0], .agg #[.int .i64 0, .int .i64 0, .slice none 0 0], .bool false]) ?_ rfl ?_; (simp [results, Try.results39, go_sem, zr0, zr1, zr2, zrf, zrl, yr0, yr1, yr2, yrf, yrl, zrm]); exact ⟨_, _, rfl, Own.nil _ _, Own.nil _ _, by simp [Value.ownBlock], by exact bel1 HG⟩)
    | some x =>
      obtain ⟨⟨hr, hc, hl3⟩, ⟨ur, uc, ul⟩⟩ := x
      rw [hX] at CR
      have hul : ul.length ≤ 576 := by
        have := rdgO_len2 (g := (⟨gr, gc, gl⟩ : MX))
        rw [hX] at this
        exact this
      have e1 : oM2 (some ((⟨hr, hc, hl3⟩ : MX), (⟨ur, uc, ul⟩ : MX))) = (⟨hr, hc, hl3⟩, ⟨ur, uc, ul⟩) := rfl
      rw [e1] at CR
      clear e1
      simp only at CR
      have CM := Lib.hid fun A4 c4 W h h' => (sMul_m ur uc r c A4 A ul l ul.length n c4 cap W rfl HN.out h h' (by omega) hl).mono fun _ _ h => matRet_out h
      have HX := Lib.hid (HR.out.trans (rbO_3 HG1.out hX))
      simp only at HX
      have hpl : (oM (mulO ⟨ur, uc, ul⟩ ⟨r, c, l⟩)).l.length ≤ 576 := oM_length fun _ h => mulO_ok h
      generalize mulO ⟨ur, uc, ul⟩ ⟨r, c, l⟩ = P at *
      clear hX
      go_enter Try.func39, Try.ntmps39
      go_wp2_with fail
      rw [← HW1.out]
      have mg_0 := mg.c0; have mg_1 := mg.c1; have mg_2 := mg.c2; have mg_l := mg.lt; have mg_f := mg.fz
      have m2_0 := m2.c0; have m2_1 := m2.c1; have m2_2 := m2.c2; have m2_l := m2.lt; have m2_f := m2.fz
      have m3_0 := m3.c0; have m3_1 := m3.c1; have m3_2 := m3.c2; have m3_l := m3.lt; have m3_f := m3.fz
      refine (CG.out _ (by exact Rd.grows ha1 (by exact bel0))).mono ?_; rintro e w2 ⟨v2, rfl, o2, g_w2⟩
      have s_w2 := Below.size g_w2; (try simp at s_w2)
      clear mg_0 mg_1 mg_2 mg_l mg_f
      replace mg := mg.grows (w' := w2) (by exact bel1 g_w2)
      have mg_0 := mg.c0; have mg_1 := mg.c1; have mg_2 := mg.c2; have mg_l := mg.lt; have mg_f := mg.fz
      clear m2_0 m2_1 m2_2 m2_l m2_f
      replace m2 := m2.grows (w' := w2) (by exact bel1 g_w2)
      have m2_0 := m2.c0; have m2_1 := m2.c1; have m2_2 := m2.c2; have m2_l := m2.lt; have m2_f := m2.fz
      clear m3_0 m3_1 m3_2 m3_l m3_f
      replace m3 := m3.grows (w' := w2) (by exact bel1 g_w2)
      have m3_0 := m3.c0; have m3_1 := m3.c1; have m3_2 := m3.c2; have m3_l := m3.lt; have m3_f := m3.fz
      replace ha1 := ha1.grows (w' := w2) (by exact bel1 g_w2)
      replace HG : Grows w w2 := by exact bel2 g_w2 HG
      have h_w2 := Below.size HG
      obtain ⟨A2, c2, rfl, hd2, _⟩ := o2.val
      have hd2' : Rd w2 A2 gl := hd2
      obtain ⟨e2, e3⟩ := (show Own w2 w1.heap.size (.slice A2 gl.length c2) gl from o2).caps.2
      clear hd2
      go_wp2_with fail
      refine (CR.out A2 c2 _ e2 e3 (by exact Rd.grows hd2' (by exact bel0))).mono ?_; rintro e w3 ⟨v3, v4, rfl, o3, o4, ne, g_w3⟩
      have s_w3 := Below.size g_w3; (try simp at s_w3)
      clear mg_0 mg_1 mg_2 mg_l mg_f
      replace mg := mg.grows (w' := w3) (by exact bel1 g_w3)
      have mg_0 := mg.c0; have mg_1 := mg.c1; have mg_2 := mg.c2; have mg_l := mg.lt; have mg_f := mg.fz
      clear m2_0 m2_1 m2_2 m2_l m2_f
      replace m2 := m2.grows (w' := w3) (by exact bel1 g_w3)
      have m2_0 := m2.c0; have m2_1 := m2.c1; have m2_2 := m2.c2; have m2_l := m2.lt; have m2_f := m2.fz
      clear m3_0 m3_1 m3_2 m3_l m3_f
      replace m3 := m3.grows (w' := w3) (by exact bel1 g_w3)
      have m3_0 := m3.c0; have m3_1 := m3.c1; have m3_2 := m3.c2; have m3_l := m3.lt; have m3_f := m3.fz
      replace ha1 := ha1.grows (w' := w3) (by exact bel1 g_w3)
      replace hd2' := hd2'.grows (w' := w3) (by exact bel1 g_w3)
      have m5 : MBox w3 (w2.heap.size) gr gc (.slice A2 gl.length c2) := MBox.grows (MBox.new_ w2 gr gc (.slice A2 gl.length c2) 28 (by simp)) (w' := w3) (by exact bel1 g_w3)
      have m5_0 := m5.c0; have m5_1 := m5.c1; have m5_2 := m5.c2; have m5_l := m5.lt; have m5_f := m5.fz
      replace HG : Grows w w3 := by exact bel2 g_w3 HG
      have h_w3 := Below.size HG
      obtain ⟨A3, c3, rfl, _, _⟩ := o3.val
      obtain ⟨A4, c4, rfl, hd4, _⟩ := o4.val
      have hd4' : Rd w3 A4 ul := hd4
      have hs12 : w1.heap.size ≤ w2.heap.size := by omega
      clear hd4
      go_wp2_with fail
      obtain ⟨w3b, hw3b⟩ : ∃ x, x = (w3.alloc (.cells #[.int .i64 hr, .int .i64 hc, .slice A3 hl3.length c3] 28)).alloc (.cells #[.int .i64 ur, .int .i64 uc, .slice A4 ul.length c4] 28) := ⟨_, rfl⟩
      have g3b : Grows w3 w3b := by rw [hw3b]; exact bel0
      have mU : MBox w3b (w3.heap.size + 1) ur uc (.slice A4 ul.length c4) := by rw [hw3b]; exact MBox.new_ _ _ _ _ _ (by simp)
      have hs3b : w3.heap.size + 2 = w3b.heap.size := by rw [hw3b]; simp
      rw [← hw3b]
      have HSB := Lib.hid hs3b
      clear hw3b hs3b
      refine (CM.out A4 c4 _ (hd4'.grows g3b) (ha1.grows g3b)).mono ?_; rintro e w4 ⟨v5, rfl, o5, g4⟩
      obtain ⟨A5, c5, rfl, _, _⟩ := o5.val
      have g34 : Grows w3 w4 := by exact bel2 g4 g3b
      cases P with
      | none =>
        obtain rfl : RES = none := HX.out
        (have z2 := m2.grows g34; have z3 := m3.grows g34; obtain ⟨zr0, zr1, zr2⟩ := z2.cells; have zrf := z2.fz; have zrl := z2.lt; obtain ⟨yr0, yr1, yr2⟩ := z3.cells; have yrf := z3.fz; have yrl := z3.lt; have zrm := Nat.lt_of_succ_lt zrl; go_wp2_with fail; refine bodyPost_ret (v := .tuple #[.agg #[.int .i64 0, .int .i64 0, .slice none 0 0], .agg #[.int .i64 0, .int .i64 0, .slice none 0 0], .bool false]) ?_ rfl ?_; (simp [results, Try.results39, go_sem, zr0, zr1, zr2, zrf, zrl, yr0, yr1, yr2, yrf, yrl, zrm]); exact ⟨_, _, rfl, Own.nil _ _, Own.nil _ _, by simp [Value.ownBlock], by exact bel2 g34 HG⟩)
      | some p =>
        obtain ⟨pr, pc, pl⟩ := p
        have e1 : oM (some (⟨pr, pc, pl⟩ : MX)) = ⟨pr, pc, pl⟩ := rfl
        rw [e1] at o5 hpl
        rw [e1]
        simp only at o5 hpl ⊢
        obtain rfl : RES = some ((⟨pr, pc, pl⟩ : MX), (⟨ur, uc, ul⟩ : MX)) := HX.out
        obtain ⟨w5, hw5⟩ : ∃ x, x = w4.alloc (.cells #[.int .i64 pr, .int .i64 pc, .slice A5 pl.length c5] 28) := ⟨_, rfl⟩
        have g45 : Grows w4 w5 := by rw [hw5]; exact bel0
        have mP : MBox w5 w4.heap.size pr pc (.slice A5 pl.length c5) := by rw [hw5]; exact MBox.mk_ _ _ _ _ _
        have mU5 := (mU.grows g4).grows g45
        have HW5 := Lib.hid hw5
        have z2 := (m2.grows g34).grows g45; have z3 := (m3.grows g34).grows g45
        obtain ⟨zr0, zr1, zr2⟩ := z2.cells; have zrf := z2.fz; have zrl := z2.lt
        obtain ⟨yr0, yr1, yr2⟩ := z3.cells; have yrf := z3.fz; have yrl := z3.lt
        have hsz3 := Below.size HG
        have hsz4 := Below.size g34
        have h3l := m3.lt
        have u0 := (mU.grows g4).c0
        have u1 := (mU.grows g4).c1
        have u2 := (mU.grows g4).c2
        have uL := (mU.grows g4).lt
        have hoA : Own w5 w1.heap.size (.slice A5 pl.length c5) (oM2 (some ((⟨pr, pc, pl⟩ : MX), (⟨ur, uc, ul⟩ : MX)))).1.l := (o5.grows g45).less (by have := HSB.out; omega)
        have hoU : Own w5 w1.heap.size (.slice A4 ul.length c4) (oM2 (some ((⟨pr, pc, pl⟩ : MX), (⟨ur, uc, ul⟩ : MX)))).2.l := ((((show Own w3 _ (.slice A4 ul.length c4) ul from o4)).grows g34).grows g45).less (by simp; have := HS1.out; omega)
        have hne : ∀ g, (Value.slice A5 pl.length c5).ownBlock = some g → (Value.slice A4 ul.length c4).ownBlock ≠ some g := fun g h h2 => by
          have h1 := (World.ownsRow.lt o5 g h).1
          have h3 := (World.ownsRow.lt o4 g h2).2
          have := HSB.out
          omega
        have HOA := Lib.hid hoA
        have HOU := Lib.hid hoU
        have HNE := Lib.hid hne
        clear hw5 hoA hoU hne o4 o5 o3 ne
        go_wp2_with fail
        rw [← HW5.out]
        clear u0 u1 u2 uL
        (refine wp_region_heldL (fun W => W.cell? ⟨w4.heap.size, 0, none⟩ = some (.int .i64 pr) ∧ W.cell? ⟨w4.heap.size, 1, none⟩ = some (.int .i64 pc) ∧ W.cell? ⟨w4.heap.size, 2, none⟩ = some (.slice A5 pl.length c5) ∧ W.cell? ⟨w3.heap.size + 1, 0, none⟩ = some (.int .i64 ur) ∧ W.cell? ⟨w3.heap.size + 1, 1, none⟩ = some (.int .i64 uc) ∧ W.cell? ⟨w3.heap.size + 1, 2, none⟩ = some (.slice A4 ul.length c4)) (by kernel_rfl) (by ((try dsimp only); (exact two_boxes2 (v := .slice A5 pl.length c5) (v' := .slice A4 ul.length c4) (by ((repeat' (first | with_reducible exact mP | with_reducible refine MBox.alloc ?_ _ | with_reducible refine MBox.drew_ ?_ | with_reducible refine MBox.far ?_ ?_ _)); all_goals (first | omega | (simp; done) | (simp; omega)))) (by ((repeat' (first | with_reducible exact mU5 | with_reducible refine MBox.alloc ?_ _ | with_reducible refine MBox.drew_ ?_ | with_reducible refine MBox.far ?_ ?_ _)); all_goals (first | omega | (simp; done) | (simp; omega))))))) (fun hHeld => ?_); refine heldL_take (i := 0) (v := _) (by rfl) (by kernel_rfl) (by kernel_rfl) (by kernel_rfl) (fun _ _ _ h => h) (Or.inl ⟨by rfl, fun wS hSw => by ((try dsimp only at hSw); go_simp; (try with_reducible rfl))⟩) (by assumption) ?_; simp only [Act.put, List.setIfInBounds_toArray, List.set_cons_zero, List.set_cons_succ]; refine heldL_take (i := 1) (v := _) (by rfl) (by kernel_rfl) (by kernel_rfl) (by kernel_rfl) (fun _ _ _ h => h) (Or.inl ⟨by rfl, fun wS hSw => by ((try dsimp only at hSw); go_simp; (try with_reducible rfl))⟩) (by assumption) ?_; simp only [Act.put, List.setIfInBounds_toArray, List.set_cons_zero, List.set_cons_succ]; refine heldL_step (i := 2) (by kernel_rfl) (by rfl) (fun K hK => ?_); go_simp; refine hK.out _ _ (by ((try dsimp only); (exact two_boxes2 (v := .slice A5 pl.length c5) (v' := .slice A4 ul.length c4) (by ((repeat' (first | with_reducible exact mP | with_reducible refine MBox.alloc ?_ _ | with_reducible refine MBox.drew_ ?_ | with_reducible refine MBox.far ?_ ?_ _)); all_goals (first | omega | (simp; done) | (simp; omega)))) (by ((repeat' (first | with_reducible exact mU5 | with_reducible refine MBox.alloc ?_ _ | with_reducible refine MBox.drew_ ?_ | with_reducible refine MBox.far ?_ ?_ _)); all_goals (first | omega | (simp; done) | (simp; omega))))))) (fun hHeld => ?_); clear hK K; (try simp only [Act.put, List.setIfInBounds_toArray, List.set_cons_zero, List.set_cons_succ]); refine heldL_step (i := 3) (by kernel_rfl) (by rfl) (fun K hK => ?_); go_simp; refine hK.out _ _ (by ((try dsimp only); (exact two_boxes2 (v := .slice A5 pl.length c5) (v' := .slice A4 ul.length c4) (by ((repeat' (first | with_reducible exact mP | with_reducible refine MBox.alloc ?_ _ | with_reducible refine MBox.drew_ ?_ | with_reducible refine MBox.far ?_ ?_ _)); all_goals (first | omega | (simp; done) | (simp; omega)))) (by ((repeat' (first | with_reducible exact mU5 | with_reducible refine MBox.alloc ?_ _ | with_reducible refine MBox.drew_ ?_ | with_reducible refine MBox.far ?_ ?_ _)); all_goals (first | omega | (simp; done) | (simp; omega))))))) (fun hHeld => ?_); clear hK K; (try simp only [Act.put, List.setIfInBounds_toArray, List.set_cons_zero, List.set_cons_succ]); refine heldL_take (i := 4) (v := _) (by rfl) (by kernel_rfl) (by kernel_rfl) (by kernel_rfl) (fun _ _ _ h => h) (Or.inl ⟨by rfl, fun wS hSw => by ((try dsimp only at hSw); go_simp; (try with_reducible rfl))⟩) (by assumption) ?_; simp only [Act.put, List.setIfInBounds_toArray, List.set_cons_zero, List.set_cons_succ]; refine wpAnyH_done (by kernel_rfl) ?_ _; refine NoPanic.normal ?_)
        go_wp2_with fail
        refine bodyPost_ret (v := .tuple #[.agg #[.int .i64 pr, .int .i64 pc, .slice A5 pl.length c5], .agg #[.int .i64 ur, .int .i64 uc, .slice A4 ul.length c4], .bool true]) ?_ rfl ?_
        · simp [results, Try.results39, go_sem, zr0, zr1, zr2, zrf, zrl, yr0, yr1, yr2, yrf, yrl]
        · have hoA := HOA.out
          have hoU := HOU.out
          have hS1 := HS1.out
          exact ⟨_, _, rfl, by exact ownl hoA, by exact ownl hoU, HNE.out, by exact bel3 g45 g34 HG⟩
end
end Go.Proofs.Ytpgoefdeodoacaa
