/- The row of FnLattices: proved for every input, no condition beyond those of the row. -/
import Derived.Test.YticmopedbgoflaaPkDr
import Derived.Test.YticmopedbgoflaaQDrwS
import Derived.Test.YticmopedbgoflaaQFacts
import Derived.Test.YticmopedbgoflaaQLatL
import Derived.Test.YticmopedbgoflaaQLwK

namespace Go.Proofs.Yticmopedbgoflaa
set_option linter.unusedSimpArgs false
set_option linter.unusedVariables false
open Go.RowKit
set_option linter.unusedVariables false

/-- what the law needs of two matrices -/
theorem smlF {a b : MX} : (smlB a b).2 = true → ∃ x y, basO a = some x ∧ basO b = some y ∧ (smlB a b).1 = ((crmO x y).isSome && (crmO y x).isSome) := by
  intro h
  unfold smlB at *
  split at h
  · rename_i x y hx hy
    split at h
    · rename_i hc
      rw [if_pos hc]
      exact ⟨x, y, hx, hy, sml_law hx hy hc⟩
    · cases h
  · cases h
theorem smlN {a b : MX} (h : (smlB a b).2 = false) : (smlB a b).1 = false := by
  unfold smlB at *
  generalize basO a = X at *
  generalize basO b = Y at *
  cases X with
  | none => rfl
  | some x =>
    cases Y with
    | none => rfl
    | some y =>
      simp only at h ⊢
      split at h
      · cases h
      · rename_i hc; rw [if_neg hc]
section
set_option maxHeartbeats 4000000
set_option maxRecDepth 10000
theorem lawLat_c (A : Option Addr) (lc : List Int) (cap : Nat) (w : World) (hi : InCode w A lc cap) :
    Calls Try.prog 4 #[.slice A lc.length cap] w fun e w' => e = .returned (.bool true) ∧ Grows w w' := by
  obtain ⟨hr, hc1, hc2⟩ := hi
  simp only [maxLen] at hc2
  have CB := big_c A lc.length cap w (by omega)
  by_cases hn : lc.length ≤ 1048576
  rotate_left
  · rw [decide_eq_true (by omega)] at CB
    have CB' := Lib.hid CB
    clear CB
    go_enter Try.func4, Try.ntmps4
    go_wp2_with fail
    refine CB'.out.mono ?_; rintro e w' ⟨rfl, rfl⟩
    go_wp2_with fail
    go_ret
    exact ⟨rfl, by exact bel0⟩
  · rw [decide_eq_false (by omega)] at CB
    have CB' := Lib.hid CB
    have CD := Lib.hid (drawSml_c A lc.length cap w hr hn)
    clear CB
    go_enter Try.func4, Try.ntmps4
    go_wp2_with fail
    refine CB'.out.mono ?_; rintro e w' ⟨rfl, h0⟩
    have h1 := h0.symm
    clear h0
    subst h1
    go_wp2_with fail
    refine CD.out.mono ?_; rintro e w2 ⟨r, c, V, cv, l, r2, c2, V2, cv2, l2, rfl, hl, hl2, o2, o22, HG⟩
    have rd2 := o2.rd'
    have rd22 := o22.rd'
    have h_w2 := Below.size HG
    have CI := Lib.hid fun W h h' => iSml_c r c r2 c2 V V2 l l2 l.length l2.length cv cv2 W rfl rfl h h' (by omega) (by omega)
    have CS := Lib.hid fun W h h' => sSml_c r c r2 c2 V V2 l l2 l.length l2.length cv cv2 W rfl rfl h h' (by omega) (by omega)
    have CX := Lib.hid fun W h => (iBas_c r c V l l.length cv W rfl h (by omega)).mono fun _ _ h => matRet_out h
    have CY := Lib.hid fun W h => (iBas_c r2 c2 V2 l2 l2.length cv2 W rfl h (by omega)).mono fun _ _ h => matRet_out h
    have HF := Lib.hid (@smlF ⟨r, c, l⟩ ⟨r2, c2, l2⟩)
    have HN := Lib.hid (@smlN ⟨r, c, l⟩ ⟨r2, c2, l2⟩)
    have XB := Lib.hid fun (x : MX) (h : basO ⟨r, c, l⟩ = some x) => (oM_length (o := some x) fun m h2 => by cases h2; exact basO_ok h)
    have YB := Lib.hid fun (x : MX) (h : basO ⟨r2, c2, l2⟩ = some x) => (oM_length (o := some x) fun m h2 => by cases h2; exact basO_ok h)
    generalize basO ⟨r, c, l⟩ = X at *
    generalize basO ⟨r2, c2, l2⟩ = Y at *
    generalize smlB ⟨r, c, l⟩ ⟨r2, c2, l2⟩ = SM at *
    obtain ⟨sm, known⟩ := SM
    simp only at HF HN CI CS
    clear CD hr hc1 hc2 hn o2 o22
    go_wp2_with fail
    refine (CI.out _ (by exact Rd.grows rd2 (by exact bel0)) (by exact Rd.grows rd22 (by exact bel0))).mono ?_; rintro e w3 ⟨rfl, g_w3⟩
    have s_w3 := Below.size g_w3; (try simp at s_w3)
    replace rd2 := rd2.grows (w' := w3) (by exact bel1 g_w3)
    replace rd22 := rd22.grows (w' := w3) (by exact bel1 g_w3)
    have ma : MBox w3 (w2.heap.size) r c (.slice V l.length cv) := MBox.grows (MBox.new_ w2 r c (.slice V l.length cv) 26 (by simp)) (w' := w3) (by exact bel1 g_w3)
    have ma_0 := ma.c0; have ma_1 := ma.c1; have ma_2 := ma.c2; have ma_l := ma.lt; have ma_f := ma.fz
    have mb : MBox w3 (w2.heap.size + 1) r2 c2 (.slice V2 l2.length cv2) := MBox.grows (MBox.new_ (w2.alloc (.cells #[.int .i64 r, .int .i64 c, .slice V l.length cv] 26)) r2 c2 (.slice V2 l2.length cv2) 26 (by simp)) (w' := w3) (by exact bel1 g_w3)
    have mb_0 := mb.c0; have mb_1 := mb.c1; have mb_2 := mb.c2; have mb_l := mb.lt; have mb_f := mb.fz
    replace HG : Grows w w3 := by exact bel2 g_w3 HG
    have h_w3 := Below.size HG
    go_wp2_with fail
    refine (CS.out _ (by exact Rd.grows rd2 (by exact bel0)) (by exact Rd.grows rd22 (by exact bel0))).mono ?_; rintro e w4 ⟨rfl, g_w4⟩
    have s_w4 := Below.size g_w4; (try simp at s_w4)
    replace rd2 := rd2.grows (w' := w4) (by exact bel1 g_w4)
    replace rd22 := rd22.grows (w' := w4) (by exact bel1 g_w4)
    clear ma_0 ma_1 ma_2 ma_l ma_f
    replace ma := ma.grows (w' := w4) (by exact bel1 g_w4)
    have ma_0 := ma.c0; have ma_1 := ma.c1; have ma_2 := ma.c2; have ma_l := ma.lt; have ma_f := ma.fz
    clear mb_0 mb_1 mb_2 mb_l mb_f
    replace mb := mb.grows (w' := w4) (by exact bel1 g_w4)
    have mb_0 := mb.c0; have mb_1 := mb.c1; have mb_2 := mb.c2; have mb_l := mb.lt; have mb_f := mb.fz
    replace HG : Grows w w4 := by exact bel2 g_w4 HG
    have h_w4 := Below.size HG
    go_wp2_with fail
    refine (CX.out _ (by exact Rd.grows rd2 (by exact bel0))).mono ?_; rintro e w5 ⟨v5, rfl, o5, g_w5⟩
    have s_w5 := Below.size g_w5; (try simp at s_w5)
    replace rd2 := rd2.grows (w' := w5) (by exact bel1 g_w5)
    replace rd22 := rd22.grows (w' := w5) (by exact bel1 g_w5)
    clear ma_0 ma_1 ma_2 ma_l ma_f
    replace ma := ma.grows (w' := w5) (by exact bel1 g_w5)
    have ma_0 := ma.c0; have ma_1 := ma.c1; have ma_2 := ma.c2; have ma_l := ma.lt; have ma_f := ma.fz
    clear mb_0 mb_1 mb_2 mb_l mb_f
    replace mb := mb.grows (w' := w5) (by exact bel1 g_w5)
    have mb_0 := mb.c0; have mb_1 := mb.c1; have mb_2 := mb.c2; have mb_l := mb.lt; have mb_f := mb.fz
    replace HG : Grows w w5 := by exact bel2 g_w5 HG
    have h_w5 := Below.size HG
    obtain ⟨A5, c5, rfl, rd5, _⟩ := o5.val
    obtain ⟨_, hc5, hc52⟩ := o5.caps
    go_wp2_with fail
    refine (CY.out _ (by exact Rd.grows rd22 (by exact bel0))).mono ?_; rintro e w6 ⟨v6, rfl, o6, g_w6⟩
    have s_w6 := Below.size g_w6; (try simp at s_w6)
    replace rd2 := rd2.grows (w' := w6) (by exact bel1 g_w6)
    replace rd22 := rd22.grows (w' := w6) (by exact bel1 g_w6)
    clear ma_0 ma_1 ma_2 ma_l ma_f
    replace ma := ma.grows (w' := w6) (by exact bel1 g_w6)
    have ma_0 := ma.c0; have ma_1 := ma.c1; have ma_2 := ma.c2; have ma_l := ma.lt; have ma_f := ma.fz
    clear mb_0 mb_1 mb_2 mb_l mb_f
    replace mb := mb.grows (w' := w6) (by exact bel1 g_w6)
    have mb_0 := mb.c0; have mb_1 := mb.c1; have mb_2 := mb.c2; have mb_l := mb.lt; have mb_f := mb.fz
    replace rd5 := rd5.grows (w' := w6) (by exact bel1 g_w6)
    have mx : MBox w6 (w5.heap.size) (oM X).r (oM X).c (.slice A5 (oM X).l.length c5) := MBox.grows (MBox.new_ w5 (oM X).r (oM X).c (.slice A5 (oM X).l.length c5) 26 (by simp)) (w' := w6) (by exact bel1 g_w6)
    have mx_0 := mx.c0; have mx_1 := mx.c1; have mx_2 := mx.c2; have mx_l := mx.lt; have mx_f := mx.fz
    replace HG : Grows w w6 := by exact bel2 g_w6 HG
    have h_w6 := Below.size HG
    obtain ⟨A6, c6, rfl, rd6, _⟩ := o6.val
    obtain ⟨_, hc6, hc62⟩ := o6.caps
    clear o5 o6 CI CS CX CY
    cases known
    · obtain rfl := HN.out rfl
      go_wp2_with fail
      go_ret
      exact ⟨rfl, by exact bel1 HG⟩
    · obtain ⟨x, y, rfl, rfl, hs⟩ := HF.out rfl
      have hx := XB.out x rfl
      have hy := YB.out y rfl
      simp only [oM_some] at hx hy
      have CC := Lib.hid fun W h h' => (iCrm_c x.r x.c y.r y.c A5 A6 x.l y.l x.l.length y.l.length c5 c6 W rfl rfl hc5 hc52 hc6 hc62 h h' (by omega) (by omega)).mono fun _ _ h => matRet_out h
      have CE := Lib.hid fun W h h' => (iCrm_c y.r y.c x.r x.c A6 A5 y.l x.l y.l.length x.l.length c6 c5 W rfl rfl hc6 hc62 hc5 hc52 h h' (by omega) (by omega)).mono fun _ _ h => matRet_out h
      have CT := Lib.hid fun W h => tame_c x.r x.c A5 x.l c5 W h (by omega)
      have CU := Lib.hid fun W h => tame_c y.r y.c A6 y.l c6 W h (by omega)
      have HS := Lib.hid hs
      clear hs HF HN XB YB
      generalize crmO x y = P at *
      generalize crmO y x = Q at *
      generalize tameB x.l = tx at *
      generalize tameB y.l = ty at *
      simp only [Option.isSome_some]
      simp only [oM_some] at mx mx_0 mx_1 mx_2 rd5 rd6 ⊢
      go_wp2_with fail
      refine (CC.out _ (by exact Rd.grows rd5 (by exact bel0)) (by exact Rd.grows rd6 (by exact bel0))).mono ?_; rintro e w7 ⟨v7, rfl, o7, g_w7⟩
      have s_w7 := Below.size g_w7; (try simp at s_w7)
      replace rd2 := rd2.grows (w' := w7) (by exact bel1 g_w7)
      replace rd22 := rd22.grows (w' := w7) (by exact bel1 g_w7)
      clear ma_0 ma_1 ma_2 ma_l ma_f
      replace ma := ma.grows (w' := w7) (by exact bel1 g_w7)
      have ma_0 := ma.c0; have ma_1 := ma.c1; have ma_2 := ma.c2; have ma_l := ma.lt; have ma_f := ma.fz
      clear mb_0 mb_1 mb_2 mb_l mb_f
      replace mb := mb.grows (w' := w7) (by exact bel1 g_w7)
      have mb_0 := mb.c0; have mb_1 := mb.c1; have mb_2 := mb.c2; have mb_l := mb.lt; have mb_f := mb.fz
      replace rd5 := rd5.grows (w' := w7) (by exact bel1 g_w7)
      clear mx_0 mx_1 mx_2 mx_l mx_f
      replace mx := mx.grows (w' := w7) (by exact bel1 g_w7)
      have mx_0 := mx.c0; have mx_1 := mx.c1; have mx_2 := mx.c2; have mx_l := mx.lt; have mx_f := mx.fz
      replace rd6 := rd6.grows (w' := w7) (by exact bel1 g_w7)
      have my : MBox w7 (w6.heap.size) y.r y.c (.slice A6 y.l.length c6) := MBox.grows (MBox.new_ w6 y.r y.c (.slice A6 y.l.length c6) 26 (by simp)) (w' := w7) (by exact bel1 g_w7)
      have my_0 := my.c0; have my_1 := my.c1; have my_2 := my.c2; have my_l := my.lt; have my_f := my.fz
      replace HG : Grows w w7 := by exact bel2 g_w7 HG
      have h_w7 := Below.size HG
      obtain ⟨A7, c7, rfl, _, _⟩ := o7.val
      go_wp2_with fail
      refine (CE.out _ (by exact Rd.grows rd6 (by exact bel0)) (by exact Rd.grows rd5 (by exact bel0))).mono ?_; rintro e w8 ⟨v8, rfl, o8, g_w8⟩
      have s_w8 := Below.size g_w8; (try simp at s_w8)
      replace rd2 := rd2.grows (w' := w8) (by exact bel1 g_w8)
      replace rd22 := rd22.grows (w' := w8) (by exact bel1 g_w8)
      clear ma_0 ma_1 ma_2 ma_l ma_f
      replace ma := ma.grows (w' := w8) (by exact bel1 g_w8)
      have ma_0 := ma.c0; have ma_1 := ma.c1; have ma_2 := ma.c2; have ma_l := ma.lt; have ma_f := ma.fz
      clear mb_0 mb_1 mb_2 mb_l mb_f
      replace mb := mb.grows (w' := w8) (by exact bel1 g_w8)
      have mb_0 := mb.c0; have mb_1 := mb.c1; have mb_2 := mb.c2; have mb_l := mb.lt; have mb_f := mb.fz
      replace rd5 := rd5.grows (w' := w8) (by exact bel1 g_w8)
      clear mx_0 mx_1 mx_2 mx_l mx_f
      replace mx := mx.grows (w' := w8) (by exact bel1 g_w8)
      have mx_0 := mx.c0; have mx_1 := mx.c1; have mx_2 := mx.c2; have mx_l := mx.lt; have mx_f := mx.fz
      replace rd6 := rd6.grows (w' := w8) (by exact bel1 g_w8)
      clear my_0 my_1 my_2 my_l my_f
      replace my := my.grows (w' := w8) (by exact bel1 g_w8)
      have my_0 := my.c0; have my_1 := my.c1; have my_2 := my.c2; have my_l := my.lt; have my_f := my.fz
      have mp : MBox w8 (w7.heap.size) (oM P).r (oM P).c (.slice A7 (oM P).l.length c7) := MBox.grows (MBox.new_ w7 (oM P).r (oM P).c (.slice A7 (oM P).l.length c7) 26 (by simp)) (w' := w8) (by exact bel1 g_w8)
      have mp_0 := mp.c0; have mp_1 := mp.c1; have mp_2 := mp.c2; have mp_l := mp.lt; have mp_f := mp.fz
      replace HG : Grows w w8 := by exact bel2 g_w8 HG
      have h_w8 := Below.size HG
      obtain ⟨A8, c8, rfl, _, _⟩ := o8.val
      go_wp2_with fail
      refine (CT.out _ (by exact Rd.grows rd5 (by exact bel0))).mono ?_; rintro e w9 ⟨rfl, g_w9⟩
      have s_w9 := Below.size g_w9; (try simp at s_w9)
      replace rd2 := rd2.grows (w' := w9) (by exact bel1 g_w9)
      replace rd22 := rd22.grows (w' := w9) (by exact bel1 g_w9)
      clear ma_0 ma_1 ma_2 ma_l ma_f
      replace ma := ma.grows (w' := w9) (by exact bel1 g_w9)
      have ma_0 := ma.c0; have ma_1 := ma.c1; have ma_2 := ma.c2; have ma_l := ma.lt; have ma_f := ma.fz
      clear mb_0 mb_1 mb_2 mb_l mb_f
      replace mb := mb.grows (w' := w9) (by exact bel1 g_w9)
      have mb_0 := mb.c0; have mb_1 := mb.c1; have mb_2 := mb.c2; have mb_l := mb.lt; have mb_f := mb.fz
      replace rd5 := rd5.grows (w' := w9) (by exact bel1 g_w9)
      clear mx_0 mx_1 mx_2 mx_l mx_f
      replace mx := mx.grows (w' := w9) (by exact bel1 g_w9)
      have mx_0 := mx.c0; have mx_1 := mx.c1; have mx_2 := mx.c2; have mx_l := mx.lt; have mx_f := mx.fz
      replace rd6 := rd6.grows (w' := w9) (by exact bel1 g_w9)
      clear my_0 my_1 my_2 my_l my_f
      replace my := my.grows (w' := w9) (by exact bel1 g_w9)
      have my_0 := my.c0; have my_1 := my.c1; have my_2 := my.c2; have my_l := my.lt; have my_f := my.fz
      clear mp_0 mp_1 mp_2 mp_l mp_f
      replace mp := mp.grows (w' := w9) (by exact bel1 g_w9)
      have mp_0 := mp.c0; have mp_1 := mp.c1; have mp_2 := mp.c2; have mp_l := mp.lt; have mp_f := mp.fz
      have mq : MBox w9 (w8.heap.size) (oM Q).r (oM Q).c (.slice A8 (oM Q).l.length c8) := MBox.grows (MBox.new_ w8 (oM Q).r (oM Q).c (.slice A8 (oM Q).l.length c8) 26 (by simp)) (w' := w9) (by exact bel1 g_w9)
      have mq_0 := mq.c0; have mq_1 := mq.c1; have mq_2 := mq.c2; have mq_l := mq.lt; have mq_f := mq.fz
      replace HG : Grows w w9 := by exact bel2 g_w9 HG
      have h_w9 := Below.size HG
      clear CC CE
      generalize P.isSome = p1 at *
      generalize Q.isSome = q1 at *
      have hsm := HS.out
      subst hsm
      clear HS
      cases tx
      · go_wp2_with fail
        go_ret
        exact ⟨rfl, by exact bel1 HG⟩
      · go_wp2_with fail
        refine (CU.out _ (by exact Rd.grows rd6 (by exact bel0))).mono ?_; rintro e w10 ⟨rfl, g_w10⟩
        have s_w10 := Below.size g_w10; (try simp at s_w10)
        replace rd2 := rd2.grows (w' := w10) (by exact bel1 g_w10)
        replace rd22 := rd22.grows (w' := w10) (by exact bel1 g_w10)
        clear ma_0 ma_1 ma_2 ma_l ma_f
        replace ma := ma.grows (w' := w10) (by exact bel1 g_w10)
        have ma_0 := ma.c0; have ma_1 := ma.c1; have ma_2 := ma.c2; have ma_l := ma.lt; have ma_f := ma.fz
        clear mb_0 mb_1 mb_2 mb_l mb_f
        replace mb := mb.grows (w' := w10) (by exact bel1 g_w10)
        have mb_0 := mb.c0; have mb_1 := mb.c1; have mb_2 := mb.c2; have mb_l := mb.lt; have mb_f := mb.fz
        replace rd5 := rd5.grows (w' := w10) (by exact bel1 g_w10)
        clear mx_0 mx_1 mx_2 mx_l mx_f
        replace mx := mx.grows (w' := w10) (by exact bel1 g_w10)
        have mx_0 := mx.c0; have mx_1 := mx.c1; have mx_2 := mx.c2; have mx_l := mx.lt; have mx_f := mx.fz
        replace rd6 := rd6.grows (w' := w10) (by exact bel1 g_w10)
        clear my_0 my_1 my_2 my_l my_f
        replace my := my.grows (w' := w10) (by exact bel1 g_w10)
        have my_0 := my.c0; have my_1 := my.c1; have my_2 := my.c2; have my_l := my.lt; have my_f := my.fz
        clear mp_0 mp_1 mp_2 mp_l mp_f
        replace mp := mp.grows (w' := w10) (by exact bel1 g_w10)
        have mp_0 := mp.c0; have mp_1 := mp.c1; have mp_2 := mp.c2; have mp_l := mp.lt; have mp_f := mp.fz
        clear mq_0 mq_1 mq_2 mq_l mq_f
        replace mq := mq.grows (w' := w10) (by exact bel1 g_w10)
        have mq_0 := mq.c0; have mq_1 := mq.c1; have mq_2 := mq.c2; have mq_l := mq.lt; have mq_f := mq.fz
        replace HG : Grows w w10 := by exact bel2 g_w10 HG
        have h_w10 := Below.size HG
        cases ty
        · go_wp2_with fail
          go_ret
          exact ⟨rfl, by exact bel1 HG⟩
        · cases p1 <;> cases q1 <;> (go_wp2_with fail; go_ret; exact ⟨rfl, by exact bel1 HG⟩)
end
end Go.Proofs.Yticmopedbgoflaa


namespace Go.Proofs.Yticmopedbgoflaa
set_option linter.unusedSimpArgs false
set_option linter.unusedVariables false
open Go.ChangeShapes Go.WideShapes Go.ChangeAt Go.RowKit Go.Joins
set_option linter.unusedVariables false

set_option maxRecDepth 100000 in
theorem fnLattices_lifted (os : Os) (started : os.Started) (H : Type) (enc : TypeId × Value → H) :
    ReturnsInHanded {} Try.checked os 4 .any (Rows.fnLatticesSpec.pre6 enc Try.prog Try.f4 Rows.fnLatticesRow.domain false) (Rows.fnLatticesSpec.post enc Try.prog Try.f4 false true false false) := by
  refine returnsInHanded_of_change (C := Try.checked) own started (by kernel_rfl) Try.func4
    (ChangeSpec.witness6 (enc := enc) (C := Try.checked) false ⟨#[], #[.slice none 0 0], []⟩ 8 (by kernel_rfl) (by kernel_rfl) (by kernel_rfl) (by kernel_rfl)) ?_
  intro W base args ds gs before hval0 hW hcnd _
  have hval : ∀ (j : Nat) t v, Try.f4.params[j]? = some t → args[j]? = some v → Value.okWide Try.prog W .any base t v := hval0
  have hW' := hW
  obtain ⟨p, q, hA0, hV, rfl, hfz, hnd⟩ := hW
  have hA : DataW.TrodAll enc Try.prog W 0 (fun _ => true) true Try.f4.params.toList args.toList ds p := hA0
  rw [Try.params4] at hA hval
  obtain ⟨v0, vs0, d0, ds0, p0, q0, hargs, rfl, rfl, h0, r0⟩ := trodAll_cons hA
  obtain ⟨rfl, rfl, rfl⟩ := trodAll_nil r0
  obtain rfl : args = #[v0] := by cases args; simp_all
  obtain ⟨rfl, rfl⟩ := trodVars_none hV
  have k0 := h0
  have lt0 : ∀ x ∈ p0, x.block < W.heap.size := by obtain ⟨m, hm⟩ := k0; exact DataW.trod_lt m _ _ _ hm
  obtain ⟨a00, len0, cap0, rfl⟩ := okWide_slice Try.underlying22 (hval 0 22 v0 rfl rfl)
  obtain ⟨A0, l0, c0, e0, ir0⟩ : ∃ A l c, Value.slice a00 len0 cap0 = .slice A (List.length l) c ∧ InCode W A l c := by obtain ⟨fuel, hf⟩ := h0; simp only [Value.cells] at hf; exact open_code hf
  rw [e0] at hval hW' k0 ⊢
  clear hA0 hval0
  refine (lawLat_c A0 l0 c0 W ir0).mono fun e W' ⟨he, bel⟩ => ?_
  subst he
  exact ⟨_, rfl, _, _, _, [], _, [], hW', trodAll_mk1 (shut_bool Try.underlying4 _), (trodAll_cons_mk (Below.trod laidOut (by kernel_rfl) (of_decide_eq_true (by kernel_rfl)) k0 bel lt0) trodAll_mk0), rfl, bel.frame _, fun h => by cases h⟩

theorem fnLattices_closed : joinedFacts Try.pinned.checked.prog 4 Try.f4 Rows.fnLatticesSpec Rows.fnLatticesRow = true := by
  unfold joinedFacts
  rw [fLaid, fRowed, fStops, fEnter, fLift, fMake]
  change _ = true
  kernel_rfl
/-- The statement. -/
theorem fnLattices_holds : Rows.FnLatticesSaid :=
  OpenClaim.holds_of_wide 4 Try.f4 rfl rfl rfl rfl rfl rfl rfl ⟨rfl, rfl, rfl, rfl, rfl⟩ rfl rfl rfl rfl rfl (by kernel_rfl) Try.func4 fnLattices_closed
    (of_decide_eq_true (by kernel_rfl)) (by unfold Func.isWrapper; first | (rw [if_pos (by decide +kernel)]; kernel_rfl) | (rw [if_neg (by decide +kernel)]; exact ⟨rfl, rfl⟩))
    (fun os started H enc _ => fnLattices_lifted os started H enc)
end Go.Proofs.Yticmopedbgoflaa
