/- Contracts and lemmas, put together. -/
import Derived.Test.YthajmffhgbenpaaPkB
import Derived.Test.YthajmffhgbenpaaPkCb
import Derived.Test.YthajmffhgbenpaaPkE
/- Contract: the closest vectors, the program's. -/
namespace Go.Proofs.Ythajmffhgbenpaa
set_option linter.unusedSimpArgs false
set_option linter.unusedVariables false
open Go.RowKit

section
set_option maxHeartbeats 40000000
set_option maxRecDepth 100000
theorem iClo_c (r c : Int) (A T : Option Addr) (b t : List Int) (n cap k ct : Nat) (w : World) (hn : b.length = n) (ha : Rd w A b) (hl : n ≤ 1099511627776) (hk : t.length = k) (ht : Rd w T t) (hl2 : k ≤ 1099511627776) :
    Calls Try.prog 14 #[.agg #[.int .i64 r, .int .i64 c, .slice A n cap], .slice T k ct] w (CloRet (closO ⟨r, c, b⟩ t) w) := by
  have CP := fun W h h' => (iPrj_c r c A T b t n cap k ct W hn h hl hk h' hl2).mono fun _ _ h => lqRet_out h
  have CR := Lib.hid fun W h h' => iRto_c r c A T b t n cap k ct W hn h hl hk h' hl2
  have CG := fun W h => (iGm_m r c A b n cap W hn h hl).mono fun _ _ h => matRet_out h
  have CD := Lib.hid fun X x m cx W h hx h' hm (hm2 : m ≤ 1099511627776) => iDistanceOf_c r c A X T b x t n m k cap cx ct W hn hm hk h hx h' hl hm2 hl2
  have hgl : (oM (gmO ⟨r, c, b⟩)).l.length ≤ 576 := gmO_length _
  have hpl : (oLQ (prjO ⟨r, c, b⟩ t)).length ≤ 576 := prjO_length
  obtain ⟨w1, hw1⟩ : ∃ w1, w1 = w.alloc (.cells #[.int .i64 r, .int .i64 c, .slice A n cap] 26) := ⟨_, rfl⟩
  have ma : MBox w1 w.heap.size r c (.slice A n cap) := by rw [hw1]; exact MBox.mk_ _ _ _ _ _
  have HG : Grows w w1 := by rw [hw1]; exact bel0
  have HS1 : w1.heap.size = w.heap.size + 1 := by rw [hw1]; simp
  have HW1 := Lib.hid hw1
  have ha1 := ha.grows HG
  have ht1 := ht.grows HG
  obtain ⟨RES, hRES⟩ : ∃ x, x = closO ⟨r, c, b⟩ t := ⟨_, rfl⟩
  rw [← hRES]
  have HR := Lib.hid hRES
  obtain ⟨PO, hPO⟩ : ∃ x, x = prjO ⟨r, c, b⟩ t := ⟨_, rfl⟩
  rw [← hPO] at CP hpl
  have HPO := Lib.hid hPO
  have CP' := Lib.hid CP
  have CG' := Lib.hid CG
  clear hw1 CP CG hRES hPO hn hk
  go_enter Try.func14, Try.ntmps14
  go_wp2_with fail
  rw [← HW1.out]
  have ma_0 := ma.c0; have ma_1 := ma.c1; have ma_2 := ma.c2; have ma_l := ma.lt; have ma_f := ma.fz
  refine (CP'.out _ (by exact Rd.grows ha1 (by exact bel0)) (by exact Rd.grows ht1 (by exact bel0))).mono ?_; rintro e w2 ⟨v2, rfl, o2, g_w2⟩
  have s_w2 := Below.size g_w2; (try simp at s_w2)
  clear ma_0 ma_1 ma_2 ma_l ma_f
  replace ma := ma.grows (w' := w2) (by exact bel1 g_w2)
  have ma_0 := ma.c0; have ma_1 := ma.c1; have ma_2 := ma.c2; have ma_l := ma.lt; have ma_f := ma.fz
  replace ha1 := ha1.grows (w' := w2) (by exact bel1 g_w2)
  replace ht1 := ht1.grows (w' := w2) (by exact bel1 g_w2)
  replace HG : Grows w w2 := by exact bel2 g_w2 HG
  have h_w2 := Below.size HG
  have hf := (RowsO.new_ w1 rfl (Nat.le_refl _)).grows (w' := w2) (by exact bel1 g_w2)
  obtain ⟨A2, c2, rfl, hr2, _⟩ := o2.val
  clear o2
  cases PO with
  | none =>
    obtain rfl : RES = none := HR.out.trans (closO_none HPO.out)
    go_wp2_with fail
    refine bodyPost_ret (v := .tuple #[.slice (some ⟨w1.heap.size, 0, none⟩) 0 0, .int .i64 0, .bool false]) ?_ rfl ?_
    · simp [results, Try.results14, go_sem]
    · exact ⟨_, [], rfl, hf.less (by omega), by exact bel1 HG⟩
  | some l =>
    have hRL := HR.out.trans (closO_some HPO.out)
    change l.length ≤ 576 at hpl
    have e1 : rndO ⟨r, c, b⟩ t = some (rndL l) := by unfold rndO; rw [← HPO.out]; rfl
    have CR' := CR.out
    rw [e1] at CR'
    have CR2 := Lib.hid CR'
    have e2 : oLQ (some l) = l := rfl
    rw [e2] at hr2 ⊢
    have HRN := Lib.hid (rndL_length l)
    have HRL := Lib.hid hRL
    clear CR CR' e1 e2 hRL HR
    go_wp2_with fail
    refine (CR2.out _ (by exact Rd.grows ha1 (by exact bel0)) (by exact Rd.grows ht1 (by exact bel0))).mono ?_; rintro e w3 ⟨v3, rfl, o3, g_w3⟩
    have s_w3 := Below.size g_w3; (try simp at s_w3)
    clear ma_0 ma_1 ma_2 ma_l ma_f
    replace ma := ma.grows (w' := w3) (by exact bel1 g_w3)
    have ma_0 := ma.c0; have ma_1 := ma.c1; have ma_2 := ma.c2; have ma_l := ma.lt; have ma_f := ma.fz
    replace ha1 := ha1.grows (w' := w3) (by exact bel1 g_w3)
    replace ht1 := ht1.grows (w' := w3) (by exact bel1 g_w3)
    replace hr2 := hr2.grows (w' := w3) (by exact bel1 g_w3)
    replace hf := hf.grows (w' := w3) (by exact bel1 g_w3)
    replace HG : Grows w w3 := by exact bel2 g_w3 HG
    have h_w3 := Below.size HG
    obtain ⟨A3, c3, rfl, hr3, _⟩ := o3.val
    have hr3 : Rd w3 A3 (rndL l) := hr3
    obtain ⟨D, hD⟩ : ∃ x, x = dF ⟨r, c, b⟩ t (rndL l) := ⟨_, rfl⟩
    obtain ⟨OK, hOK⟩ : ∃ x, x = dK ⟨r, c, b⟩ t (rndL l) := ⟨_, rfl⟩
    have CD1 := fun W h hx h' => CD.out A3 (rndL l) (rndL l).length c3 W h hx h' rfl (by rw [HRN.out]; omega)
    change ∀ W h hx h', Calls Try.prog 37 #[.agg #[.int .i64 r, .int .i64 c, .slice A n cap], .slice A3 (rndL l).length c3, .slice T k ct] W fun e w' => e = .returned (.tuple #[.int .i64 (dF ⟨r, c, b⟩ t (rndL l)), .bool (dK ⟨r, c, b⟩ t (rndL l))]) ∧ Grows W w' at CD1
    rw [← hD, ← hOK] at CD1
    have CD1' := Lib.hid CD1
    have HD := Lib.hid hD
    have HOK := Lib.hid hOK
    clear CD1 hD hOK
    go_wp2_with fail
    refine (CD1'.out _ (by exact Rd.grows ha1 (by exact bel0)) (by exact Rd.grows hr3 (by exact bel0)) (by exact Rd.grows ht1 (by exact bel0))).mono ?_; rintro e w4 ⟨rfl, g_w4⟩
    have s_w4 := Below.size g_w4; (try simp at s_w4)
    clear ma_0 ma_1 ma_2 ma_l ma_f
    replace ma := ma.grows (w' := w4) (by exact bel1 g_w4)
    have ma_0 := ma.c0; have ma_1 := ma.c1; have ma_2 := ma.c2; have ma_l := ma.lt; have ma_f := ma.fz
    replace ha1 := ha1.grows (w' := w4) (by exact bel1 g_w4)
    replace ht1 := ht1.grows (w' := w4) (by exact bel1 g_w4)
    replace hr2 := hr2.grows (w' := w4) (by exact bel1 g_w4)
    replace hf := hf.grows (w' := w4) (by exact bel1 g_w4)
    replace hr3 := hr3.grows (w' := w4) (by exact bel1 g_w4)
    replace HG : Grows w w4 := by exact bel2 g_w4 HG
    have h_w4 := Below.size HG
    cases OK
    · obtain rfl : RES = none := HRL.out.trans (closL_far HOK.out)
      go_wp2_with fail
      refine bodyPost_ret (v := .tuple #[.slice (some ⟨w1.heap.size, 0, none⟩) 0 0, .int .i64 0, .bool false]) ?_ rfl ?_
      · simp [results, Try.results14, go_sem]
      · exact ⟨_, [], rfl, hf.less (by omega), by exact bel1 HG⟩
    · go_wp2_with fail
      refine (CG'.out _ (by exact Rd.grows ha1 (by exact bel0))).mono ?_; rintro e w5 ⟨v5, rfl, o5, g_w5⟩
      have s_w5 := Below.size g_w5; (try simp at s_w5)
      clear ma_0 ma_1 ma_2 ma_l ma_f
      replace ma := ma.grows (w' := w5) (by exact bel1 g_w5)
      have ma_0 := ma.c0; have ma_1 := ma.c1; have ma_2 := ma.c2; have ma_l := ma.lt; have ma_f := ma.fz
      replace ha1 := ha1.grows (w' := w5) (by exact bel1 g_w5)
      replace ht1 := ht1.grows (w' := w5) (by exact bel1 g_w5)
      replace hr2 := hr2.grows (w' := w5) (by exact bel1 g_w5)
      replace hf := hf.grows (w' := w5) (by exact bel1 g_w5)
      replace hr3 := hr3.grows (w' := w5) (by exact bel1 g_w5)
      replace HG : Grows w w5 := by exact bel2 g_w5 HG
      have h_w5 := Below.size HG
      obtain ⟨A5, c5, rfl, hr5, _⟩ := o5.val
      have hcp5 := (own_le o5).2
      have hcp5' : (oM (gmO ⟨r, c, b⟩)).l.length ≤ c5 := (own_le o5).1
      obtain ⟨BO, hBO⟩ : ∃ x, x = boxO (oM (gmO ⟨r, c, b⟩)) D := ⟨_, rfl⟩
      have CB := fun W h => iBox_c (oM (gmO ⟨r, c, b⟩)).r (oM (gmO ⟨r, c, b⟩)).c D A5 (oM (gmO ⟨r, c, b⟩)).l (oM (gmO ⟨r, c, b⟩)).l.length c5 W rfl hcp5' hcp5 h (by omega)
      rw [show (⟨(oM (gmO ⟨r, c, b⟩)).r, (oM (gmO ⟨r, c, b⟩)).c, (oM (gmO ⟨r, c, b⟩)).l⟩ : MX) = oM (gmO ⟨r, c, b⟩) from rfl, ← hBO] at CB
      have HBO : RowKit.Hid (BO = boxO (oM (gmO ⟨r, c, b⟩)) (dF ⟨r, c, b⟩ t (rndL l))) := Lib.hid (by rw [← HD.out]; exact hBO)
      generalize hGO : oM (gmO ⟨r, c, b⟩) = GO at *
      have HGO := Lib.hid hGO
      clear hGO
      have CB' := Lib.hid CB
      clear CB hBO o5
      go_wp2_with fail
      refine (CB'.out _ (by exact Rd.grows hr5 (by exact bel0))).mono ?_; rintro e w6 ⟨v6, rfl, o6, g_w6⟩
      have s_w6 := Below.size g_w6; (try simp at s_w6)
      clear ma_0 ma_1 ma_2 ma_l ma_f
      replace ma := ma.grows (w' := w6) (by exact bel1 g_w6)
      have ma_0 := ma.c0; have ma_1 := ma.c1; have ma_2 := ma.c2; have ma_l := ma.lt; have ma_f := ma.fz
      replace ha1 := ha1.grows (w' := w6) (by exact bel1 g_w6)
      replace ht1 := ht1.grows (w' := w6) (by exact bel1 g_w6)
      replace hr2 := hr2.grows (w' := w6) (by exact bel1 g_w6)
      replace hf := hf.grows (w' := w6) (by exact bel1 g_w6)
      replace hr3 := hr3.grows (w' := w6) (by exact bel1 g_w6)
      replace hr5 := hr5.grows (w' := w6) (by exact bel1 g_w6)
      have mg : MBox w6 (w5.heap.size) GO.r GO.c (.slice A5 GO.l.length c5) := MBox.grows (MBox.new_ w5 GO.r GO.c (.slice A5 GO.l.length c5) 26 (by simp)) (w' := w6) (by exact bel1 g_w6)
      have mg_0 := mg.c0; have mg_1 := mg.c1; have mg_2 := mg.c2; have mg_l := mg.lt; have mg_f := mg.fz
      replace HG : Grows w w6 := by exact bel2 g_w6 HG
      have h_w6 := Below.size HG
      obtain ⟨A6, c6, rfl, hr6, _⟩ := o6.val
      clear o6
      cases BO with
      | none =>
        obtain rfl : RES = none := HRL.out.trans (closL_none (by rw [HGO.out]; exact HBO.out))
        go_wp2_with fail
        refine bodyPost_ret (v := .tuple #[.slice (some ⟨w1.heap.size, 0, none⟩) 0 0, .int .i64 0, .bool false]) ?_ rfl ?_
        · simp [results, Try.results14, go_sem]
        · exact ⟨_, [], rfl, hf.less (by omega), by exact bel1 HG⟩
      | some s =>
        have hRS := HRL.out.trans (closL_some HOK.out (by rw [HGO.out]; exact HBO.out))
        obtain ⟨hsl, hl6⟩ := prj_box HPO.out (show some s = boxO (oM (gmO ⟨r, c, b⟩)) (dF ⟨r, c, b⟩ t (rndL l)) by rw [HGO.out]; exact HBO.out)
        have hsc := boxO_cells HBO.out.symm
        have hbd := Lib.hid (clos_bd hsc hsl)
        have HSC := Lib.hid hsc
        have hr6 : Rd w6 A6 s := hr6
        rw [show oL (some s) = s from rfl]
        have HSL := Lib.hid hsl
        have HRS := Lib.hid hRS
        have HLL := Lib.hid (fun i => lowL_length l s i)
        have HHL := Lib.hid (fun i => highL_length l s i)
        have CX := Lib.hid fun W Al cl Ah ch h h' => boxed_c Al Ah (lowL l s l.length) (highL l s l.length) l.length cl ch W (lowL_length l s l.length) (highL_length l s l.length) h h' (by omega) hbd.out
        have HB1 := Lib.hid fun (h : boxB (lowL l s l.length) (highL l s l.length) l.length = false) => HRS.out.trans (closS_big h)
        have HB2 := Lib.hid fun (h : boxB (lowL l s l.length) (highL l s l.length) l.length = true) => HRS.out.trans (closS_yes h)
        have HBL := Lib.hid fun (h : boxB (lowL l s l.length) (highL l s l.length) l.length = true) => boxB_len h
        have HBX := Lib.hid fun (h : boxB (lowL l s l.length) (highL l s l.length) l.length = true) => boxR_yes h
        have HFL := Lib.hid fun (v : List Int) (h : v ∈ boxF (lowL l s l.length) (highL l s l.length) l.length) => boxF_len h
        have HROWS := Lib.hid (show clR ⟨r, c, b⟩ t l s = boxF (lowL l s l.length) (highL l s l.length) l.length from rfl)
        clear hRS hsc hsl CD1' CR2 CB' CG' CP' hr3 hr5 mg
        go_wp2_with fail
        go_loopw [18, 19, 74] (fun lo hi i wr => ∃ (I : Nat), i = .int .i64 I ∧ I ≤ l.length ∧ Own wr w6.heap.size lo (lowL l s I) ∧ Own wr w6.heap.size hi (highL l s I) ∧ (∀ g, lo.ownBlock = some g → hi.ownBlock ≠ some g) ∧ Grows w6 wr) (fun _ _ i _ => l.length - (intOf i).toNat)
        case atStart => exact ⟨0, rfl, Nat.zero_le _, (Own.new_ w6 rfl (Nat.le_refl _)).alloc _, Own.new_ _ (by simp) (by simp), fun g h1 h2 => by simp [Value.ownBlock] at h1 h2; omega, by exact bel0⟩
        case round =>
          obtain ⟨I, rfl, hI, hlo, hhi, hne, hg⟩ := hrel
          obtain ⟨Al, cl, rfl, hrl, _⟩ := hlo.val
          obtain ⟨Ah, ch, rfl, hrh, _⟩ := hhi.val
          have HNE := Lib.hid hne
          have hsw := Below.size hg
          clear hne
          by_cases hlt : I < l.length
          · obtain ⟨ab, off, rfl, hbs, x0, x1⟩ := (hr2.grows hg) I hlt
            obtain ⟨bb, ob, rfl, hbb, hcb⟩ := hr6.at_ I (by rw [HSL.out]; exact hlt)
            have cb : wr.cell? ⟨bb, ob + I, none⟩ = some (.int .i64 (nth s I)) := (hg.cell (p := ⟨bb, ob + I, none⟩) hbb).trans hcb
            have i1 : (I : Int) < (l.length : Int) := by omega
            have i2 : (I : Int) < (s.length : Int) := by rw [HSL.out]; exact i1
            have hyb := HSC.out I (by rw [HSL.out]; exact hlt)
            have hfb := floorQ_bd (nthQ l I)
            have HL1 := Lib.hid (lowL_succ l s I)
            have HH1 := Lib.hid (highL_succ l s I)
            have hll := Lib.hid (HLL.out I)
            have hhl := Lib.hid (HHL.out I)
            have CF := Lib.hid fun W => iFloorQ_c (nthQ l I) W
            generalize floorQ (nthQ l I) = f at *
            generalize nthQ l I = q at *
            generalize nth s I = y at *
            generalize lowL l s I = F at *
            generalize highL l s I = G at *
            have k1 : IntKind.i64.wrap (f - y) = f - y := IntWalk.i64_in _ (by omega)
            have k2 : IntKind.i64.wrap (f + 1) = f + 1 := IntWalk.i64_in _ (by omega)
            have k3 : IntKind.i64.wrap (f + 1 + y) = f + 1 + y := IntWalk.i64_in _ (by omega)
            obtain ⟨wi, hwi⟩ : ∃ wi, wi = wr.alloc (.cells #[.int .i64 q.1, .int .i64 q.2] 56) := ⟨_, rfl⟩
            have qb : QBox wi wr.heap.size q := by rw [hwi]; exact QBox.new_ _ _ _ rfl
            have gwi : Grows wr wi := by rw [hwi]; exact bel0
            have cbi : wi.cell? ⟨bb, ob + I, none⟩ = some (.int .i64 y) := (gwi.cell (p := ⟨bb, ob + I, none⟩) (show bb < wr.heap.size by omega)).trans cb
            have hbi : bb < wi.heap.size := by have := Below.size gwi; omega
            have hqb := qb.lt
            have hloi := hlo.grows gwi
            have hhii := hhi.grows gwi
            have HLO := Lib.hid fun g h => (World.ownsRow.lt hlo g h)
            have HHI := Lib.hid fun g h => (World.ownsRow.lt hhi g h)
            have HWI := Lib.hid hwi
            clear hwi hlo hhi hrl hrh hcb
            obtain ⟨q0, q1⟩ := (show _ ∧ _ from ⟨qb.c0, qb.c1⟩)
            go_wp2_with fail
            rw [← HWI.out]
            (refine wp_region_heldL (fun W => W.cell? ⟨wr.heap.size, 0, none⟩ = some (.int .i64 q.1) ∧ W.cell? ⟨wr.heap.size, 1, none⟩ = some (.int .i64 q.2) ∧ W.cell? ⟨bb, ob + I, none⟩ = some (.int .i64 y)) (by kernel_rfl) (by ((try dsimp only); (first | exact clo_keep qb7 cb7 hb7 (by exact bel0) | exact clo_keep qb5 cb5 hb5 (by exact bel0) | exact clo_keep qb cbi hbi (by exact bel0)))) (fun hHeld => ?_); refine heldL_take (i := 0) (v := _) (by rfl) (by kernel_rfl) (by kernel_rfl) (by kernel_rfl) (fun _ _ _ h => h) (Or.inl ⟨by rfl, fun wS hSw => by ((try dsimp only at hSw); go_simp; (try with_reducible rfl))⟩) (by assumption) ?_; simp only [Act.put, List.setIfInBounds_toArray, List.set_cons_zero, List.set_cons_succ]; refine heldL_take (i := 1) (v := _) (by rfl) (by kernel_rfl) (by kernel_rfl) (by kernel_rfl) (fun _ _ _ h => h) (Or.inl ⟨by rfl, fun wS hSw => by ((try dsimp only at hSw); go_simp; (try with_reducible rfl))⟩) (by assumption) ?_; simp only [Act.put, List.setIfInBounds_toArray, List.set_cons_zero, List.set_cons_succ]; refine heldL_take (i := 3) (v := _) (by rfl) (by kernel_rfl) (by kernel_rfl) (by kernel_rfl) (fun _ _ _ h => h) (Or.inl ⟨by rfl, fun wS hSw => by ((try dsimp only at hSw); go_simp; (try with_reducible rfl))⟩) (by assumption) ?_; simp only [Act.put, List.setIfInBounds_toArray, List.set_cons_zero, List.set_cons_succ]; refine heldL_take (i := 4) (v := _) (by rfl) (by kernel_rfl) (by kernel_rfl) (by kernel_rfl) (fun _ _ _ h => h) (Or.inl ⟨by rfl, fun wS hSw => by ((try dsimp only at hSw); go_simp; (try with_reducible rfl))⟩) (by assumption) ?_; simp only [Act.put, List.setIfInBounds_toArray, List.set_cons_zero, List.set_cons_succ]; refine heldL_take (i := 5) (v := _) (by rfl) (by kernel_rfl) (by kernel_rfl) (by kernel_rfl) (fun _ _ _ h => h) (Or.inl ⟨by rfl, fun wS hSw => by ((try dsimp only at hSw); go_simp; (try with_reducible rfl))⟩) (by assumption) ?_; simp only [Act.put, List.setIfInBounds_toArray, List.set_cons_zero, List.set_cons_succ]; refine heldL_take (i := 6) (v := _) (by rfl) (by kernel_rfl) (by kernel_rfl) (by kernel_rfl) (fun _ _ _ h => h) (Or.inl ⟨by rfl, fun wS hSw => by ((try dsimp only at hSw); go_simp; (try with_reducible rfl))⟩) (by assumption) ?_; simp only [Act.put, List.setIfInBounds_toArray, List.set_cons_zero, List.set_cons_succ]; refine heldL_step (i := 2) (by kernel_rfl) (by rfl) (fun K hK => ?_); go_simp; (refine (CF.out _).mono ?_; rintro e x5 ⟨rfl, g5⟩; have gi5 : Grows wi x5 := (by exact bel1 g5); have qb5 := qb.grows gi5; have cb5 := (gi5.cell (p := ⟨bb, ob + I, none⟩) hbi).trans cbi; have hs5 := Below.size gi5; have hb5 : bb < x5.heap.size := (by omega); have lo5 := hloi.grows gi5; have hi5 := hhii.grows gi5; clear g5) ; (try (go_wp2_with fail)); refine hK.out _ _ (by ((try dsimp only); (first | exact clo_keep qb7 cb7 hb7 (by exact bel0) | exact clo_keep qb5 cb5 hb5 (by exact bel0) | exact clo_keep qb cbi hbi (by exact bel0)))) (fun hHeld => ?_); clear hK K; (try simp only [Act.put, List.setIfInBounds_toArray, List.set_cons_zero, List.set_cons_succ]); refine heldL_take (i := 7) (v := _) (by rfl) (by kernel_rfl) (by kernel_rfl) (by kernel_rfl) (fun _ _ _ h => h) (Or.inl ⟨by rfl, fun wS hSw => by ((try dsimp only at hSw); go_simp; (try with_reducible rfl))⟩) (by assumption) ?_; simp only [Act.put, List.setIfInBounds_toArray, List.set_cons_zero, List.set_cons_succ]; refine heldL_step (i := 8) (by kernel_rfl) (by rfl) (fun K hK => ?_); go_simp; refine hK.out _ _ (by ((try dsimp only); (first | exact clo_keep qb7 cb7 hb7 (by exact bel0) | exact clo_keep qb5 cb5 hb5 (by exact bel0) | exact clo_keep qb cbi hbi (by exact bel0)))) (fun hHeld => ?_); clear hK K; (try simp only [Act.put, List.setIfInBounds_toArray, List.set_cons_zero, List.set_cons_succ]); refine heldL_step (i := 9) (by kernel_rfl) (by rfl) (fun K hK => ?_); (refine step_app1 rfl (.tmp 79) (.tmp 87) rfl _ (f - y) w6.heap.size _ F (by rfl) lo5 (by rfl) (by have := hll.out; omega) (by omega) ?_; intro v7 x7 lo7 hg7 hv7; have hs7 := hg7.size; have qb7 := QBox.ownC qb5 hg7 (fun e => by have := (HLO.out _ e).2; omega); have cb7 := (cell_keep (hg7.block bb hb5 (fun e => by have := (HLO.out _ e.symm).1; omega))).trans cb5; have hb7 : bb < x7.heap.size := (by omega); have hi7 := hi5.other hg7 HNE.out; have ne7 := apart_app hi5 HNE.out hv7; have gg7 : Grows w6 x7 := Below.trans (show Grows w6 x5 by exact bel3 gi5 gwi hg) (below_app lo5 (by omega) hg7); have LO7 := Lib.hid (fun g h => (World.ownsRow.lt lo7 g h)); obtain ⟨A7, c7, rfl, _, _⟩ := lo7.val; clear hg7 hv7) ; refine hK.out _ _ (by ((try dsimp only); (first | exact clo_keep qb7 cb7 hb7 (by exact bel0) | exact clo_keep qb5 cb5 hb5 (by exact bel0) | exact clo_keep qb cbi hbi (by exact bel0)))) (fun hHeld => ?_); clear hK K; (try simp only [Act.put, List.setIfInBounds_toArray, List.set_cons_zero, List.set_cons_succ]); refine heldL_take (i := 10) (v := _) (by rfl) (by kernel_rfl) (by kernel_rfl) (by kernel_rfl) (fun _ _ _ h => h) (Or.inl ⟨by rfl, fun wS hSw => by ((try dsimp only at hSw); go_simp; (try with_reducible rfl))⟩) (by assumption) ?_; simp only [Act.put, List.setIfInBounds_toArray, List.set_cons_zero, List.set_cons_succ]; refine wpAnyH_done (by kernel_rfl) ?_ _; refine NoPanic.normal ?_)
            go_wp2_with fail
            (refine wp_region_heldL (fun W => W.cell? ⟨wr.heap.size, 0, none⟩ = some (.int .i64 q.1) ∧ W.cell? ⟨wr.heap.size, 1, none⟩ = some (.int .i64 q.2) ∧ W.cell? ⟨bb, ob + I, none⟩ = some (.int .i64 y)) (by kernel_rfl) (by ((try dsimp only); (first | exact clo_keep qb9 cb9 hb9 (by exact bel0) | exact clo_keep qb8 cb8 hb8 (by exact bel0) | exact clo_keep qb7 cb7 hb7 (by exact bel0)))) (fun hHeld => ?_); refine heldL_take (i := 0) (v := _) (by rfl) (by kernel_rfl) (by kernel_rfl) (by kernel_rfl) (fun _ _ _ h => h) (Or.inl ⟨by rfl, fun wS hSw => by ((try dsimp only at hSw); go_simp; (try with_reducible rfl))⟩) (by assumption) ?_; simp only [Act.put, List.setIfInBounds_toArray, List.set_cons_zero, List.set_cons_succ]; refine heldL_take (i := 1) (v := _) (by rfl) (by kernel_rfl) (by kernel_rfl) (by kernel_rfl) (fun _ _ _ h => h) (Or.inl ⟨by rfl, fun wS hSw => by ((try dsimp only at hSw); go_simp; (try with_reducible rfl))⟩) (by assumption) ?_; simp only [Act.put, List.setIfInBounds_toArray, List.set_cons_zero, List.set_cons_succ]; refine heldL_take (i := 4) (v := _) (by rfl) (by kernel_rfl) (by kernel_rfl) (by kernel_rfl) (fun _ _ _ h => h) (Or.inl ⟨by rfl, fun wS hSw => by ((try dsimp only at hSw); go_simp; (try with_reducible rfl))⟩) (by assumption) ?_; simp only [Act.put, List.setIfInBounds_toArray, List.set_cons_zero, List.set_cons_succ]; refine heldL_take (i := 5) (v := _) (by rfl) (by kernel_rfl) (by kernel_rfl) (by kernel_rfl) (fun _ _ _ h => h) (Or.inl ⟨by rfl, fun wS hSw => by ((try dsimp only at hSw); go_simp; (try with_reducible rfl))⟩) (by assumption) ?_; simp only [Act.put, List.setIfInBounds_toArray, List.set_cons_zero, List.set_cons_succ]; refine heldL_take (i := 6) (v := _) (by rfl) (by kernel_rfl) (by kernel_rfl) (by kernel_rfl) (fun _ _ _ h => h) (Or.inl ⟨by rfl, fun wS hSw => by ((try dsimp only at hSw); go_simp; (try with_reducible rfl))⟩) (by assumption) ?_; simp only [Act.put, List.setIfInBounds_toArray, List.set_cons_zero, List.set_cons_succ]; refine heldL_take (i := 7) (v := _) (by rfl) (by kernel_rfl) (by kernel_rfl) (by kernel_rfl) (fun _ _ _ h => h) (Or.inl ⟨by rfl, fun wS hSw => by ((try dsimp only at hSw); go_simp; (try with_reducible rfl))⟩) (by assumption) ?_; simp only [Act.put, List.setIfInBounds_toArray, List.set_cons_zero, List.set_cons_succ]; refine heldL_step (i := 2) (by kernel_rfl) (by rfl) (fun K hK => ?_); go_simp; (refine (CF.out _).mono ?_; rintro e x8 ⟨rfl, g8⟩; have gi8 : Grows x7 x8 := (by exact bel1 g8); have qb8 := qb7.grows gi8; have cb8 := (gi8.cell (p := ⟨bb, ob + I, none⟩) hb7).trans cb7; have hs8 := Below.size gi8; have hb8 : bb < x8.heap.size := (by omega); have lo8 := lo7.grows gi8; have hi8 := hi7.grows gi8; clear g8) ; (try (go_wp2_with fail)); refine hK.out _ _ (by ((try dsimp only); (first | exact clo_keep qb9 cb9 hb9 (by exact bel0) | exact clo_keep qb8 cb8 hb8 (by exact bel0) | exact clo_keep qb7 cb7 hb7 (by exact bel0)))) (fun hHeld => ?_); clear hK K; (try simp only [Act.put, List.setIfInBounds_toArray, List.set_cons_zero, List.set_cons_succ]); refine heldL_take (i := 3) (v := _) (by rfl) (by kernel_rfl) (by kernel_rfl) (by kernel_rfl) (fun _ _ _ h => h) (Or.inl ⟨by rfl, fun wS hSw => by ((try dsimp only at hSw); go_simp; (try with_reducible rfl))⟩) (by assumption) ?_; simp only [Act.put, List.setIfInBounds_toArray, List.set_cons_zero, List.set_cons_succ]; refine heldL_take (i := 8) (v := _) (by rfl) (by kernel_rfl) (by kernel_rfl) (by kernel_rfl) (fun _ _ _ h => h) (Or.inl ⟨by rfl, fun wS hSw => by ((try dsimp only at hSw); go_simp; (try with_reducible rfl))⟩) (by assumption) ?_; simp only [Act.put, List.setIfInBounds_toArray, List.set_cons_zero, List.set_cons_succ]; refine heldL_step (i := 9) (by kernel_rfl) (by rfl) (fun K hK => ?_); go_simp; refine hK.out _ _ (by ((try dsimp only); (first | exact clo_keep qb9 cb9 hb9 (by exact bel0) | exact clo_keep qb8 cb8 hb8 (by exact bel0) | exact clo_keep qb7 cb7 hb7 (by exact bel0)))) (fun hHeld => ?_); clear hK K; (try simp only [Act.put, List.setIfInBounds_toArray, List.set_cons_zero, List.set_cons_succ]); refine heldL_step (i := 10) (by kernel_rfl) (by rfl) (fun K hK => ?_); (refine step_app1 rfl (.tmp 89) (.tmp 98) rfl _ (f + 1 + y) w6.heap.size _ G (by rfl) hi8 (by rfl) (by have := hhl.out; omega) (by omega) ?_; intro v9 x9 hi9 hg9 hv9; have hs9 := hg9.size; have qb9 := QBox.ownC qb8 hg9 (fun e => by have := (HHI.out _ e).2; omega); have cb9 := (cell_keep (hg9.block bb hb8 (fun e => by have := (HHI.out _ e.symm).1; omega))).trans cb8; have hb9 : bb < x9.heap.size := (by omega); have lo9 := lo8.other hg9 (fun g h1 h2 => ne7 g h2 h1); have ne9 := apart_app lo8 (fun g h1 h2 => ne7 g h2 h1) hv9; have gg9 : Grows w6 x9 := Below.trans (show Grows w6 x8 by exact bel2 gi8 gg7) (below_app hi8 (by omega) hg9); obtain ⟨A9, c9, rfl, _, _⟩ := hi9.val; clear hg9 hv9) ; refine hK.out _ _ (by ((try dsimp only); (first | exact clo_keep qb9 cb9 hb9 (by exact bel0) | exact clo_keep qb8 cb8 hb8 (by exact bel0) | exact clo_keep qb7 cb7 hb7 (by exact bel0)))) (fun hHeld => ?_); clear hK K; (try simp only [Act.put, List.setIfInBounds_toArray, List.set_cons_zero, List.set_cons_succ]); refine heldL_take (i := 11) (v := _) (by rfl) (by kernel_rfl) (by kernel_rfl) (by kernel_rfl) (fun _ _ _ h => h) (Or.inl ⟨by rfl, fun wS hSw => by ((try dsimp only at hSw); go_simp; (try with_reducible rfl))⟩) (by assumption) ?_; simp only [Act.put, List.setIfInBounds_toArray, List.set_cons_zero, List.set_cons_succ]; refine wpAnyH_done (by kernel_rfl) ?_ _; refine NoPanic.normal ?_)
            have NE9 := Lib.hid ne9
            clear ne9 ne7
            go_wp2_with fail
            go_round
            case rel =>
              have e1 : (F ++ [f - y]).length = F.length + 1 := by simp
              have e2 : (G ++ [f + 1 + y]).length = G.length + 1 := by simp
              have NE9' := NE9.out
              rw [e1] at lo9 NE9'
              rw [e2] at hi9 NE9'
              exact ⟨I + 1, by go_num, by omega, by rw [HL1.out]; exact lo9, by rw [HH1.out]; exact hi9, fun g h1 h2 => NE9' g h2 h1, gg9⟩
            case measure => simp [intOf]; omega
          · obtain rfl : I = l.length := by omega
            obtain ⟨w7, rfl⟩ : ∃ x : World, x = wr := ⟨_, rfl⟩
            have g_w7 : Grows w6 w7 := hg
            rw [HLL.out, HHL.out]
            clear hlo hhi
            have ma_0 := ma.c0; have ma_1 := ma.c1; have ma_2 := ma.c2; have ma_l := ma.lt; have ma_f := ma.fz
            have s_w7 := Below.size g_w7; (try simp at s_w7)
            clear ma_0 ma_1 ma_2 ma_l ma_f
            replace ma := ma.grows (w' := w7) (by exact bel1 g_w7)
            have ma_0 := ma.c0; have ma_1 := ma.c1; have ma_2 := ma.c2; have ma_l := ma.lt; have ma_f := ma.fz
            replace ha1 := ha1.grows (w' := w7) (by exact bel1 g_w7)
            replace ht1 := ht1.grows (w' := w7) (by exact bel1 g_w7)
            replace hf := hf.grows (w' := w7) (by exact bel1 g_w7)
            replace HG : Grows w w7 := by exact bel2 g_w7 HG
            have h_w7 := Below.size HG
            go_wp2_with fail
            refine (CX.out _ _ _ _ _ (by exact Rd.grows hrl (by exact bel0)) (by exact Rd.grows hrh (by exact bel0))).mono ?_; rintro e w8 ⟨v8, vs, rfl, o8, g_w8⟩
            have s_w8 := Below.size g_w8; (try simp at s_w8)
            clear ma_0 ma_1 ma_2 ma_l ma_f
            replace ma := ma.grows (w' := w8) (by exact bel1 g_w8)
            have ma_0 := ma.c0; have ma_1 := ma.c1; have ma_2 := ma.c2; have ma_l := ma.lt; have ma_f := ma.fz
            replace ha1 := ha1.grows (w' := w8) (by exact bel1 g_w8)
            replace ht1 := ht1.grows (w' := w8) (by exact bel1 g_w8)
            replace hf := hf.grows (w' := w8) (by exact bel1 g_w8)
            replace HG : Grows w w8 := by exact bel2 g_w8 HG
            have h_w8 := Below.size HG
            generalize boxB (lowL l s l.length) (highL l s l.length) l.length = OB at *
            cases OB
            · obtain rfl : RES = none := HB1.out rfl
              go_wp2_with fail
              refine bodyPost_ret (v := .tuple #[.slice (some ⟨w1.heap.size, 0, none⟩) 0 0, .int .i64 0, .bool false]) ?_ rfl ?_
              · simp [results, Try.results14, go_sem]
              · exact ⟨_, [], rfl, hf.less (by omega), by exact bel1 HG⟩
            · have hRES := HB2.out rfl
              have hb4 := HBL.out rfl
              rw [HBX.out rfl] at o8
              unfold clO at hRES
              rw [HROWS.out] at hRES
              clear HB1 HB2 HBL HBX HROWS
              generalize boxF (lowL l s l.length) (highL l s l.length) l.length = rows at *
              obtain ⟨A8, c8, rfl, _, _⟩ := o8.val
              have HRES := Lib.hid hRES
              rw [← HD.out] at HRES
              clear hRES hrl hrh
              have HJ := Lib.hid fun I => clJ_in (d := dF ⟨r, c, b⟩ t) (ok := dK ⟨r, c, b⟩ t) (rows := rows) (best := D) (i := I)
              go_wp2_with fail
              go_loopw [24, 25, 114] (fun bs o i wr => ∃ (I : Nat), i = .int .i64 I ∧ I ≤ rows.length ∧ bs = .int .i64 (clJ (dF ⟨r, c, b⟩ t) (dK ⟨r, c, b⟩ t) rows D I).2 ∧ OwnV 24 wr w8.heap.size o ((clJ (dF ⟨r, c, b⟩ t) (dK ⟨r, c, b⟩ t) rows D I).1.map fun j => vs.getD j (.slice none 0 0)) ∧ Grows w8 wr) (fun _ _ i _ => rows.length - (intOf i).toNat)
              case atStart => exact ⟨0, rfl, Nat.zero_le _, rfl, OwnV.new_ _ w8 rfl (Nat.le_refl _), by exact bel0⟩
              case round =>
                obtain ⟨I, rfl, hI, rfl, ho, hg9⟩ := hrel
                have hsw9 := Below.size hg9
                by_cases hlt : I < rows.length
                · have i1 : (I : Int) < (rows.length : Int) := by omega
                  obtain ⟨b8, p8, A10, c10, rfl, hb8, hc8, hr10, he10, how⟩ := (o8.grows hg9).cellAt hlt
                  have hxl : (rows.getD I []).length ≤ 6 := by rw [HFL.out _ (rowsD_mem hlt)]; exact hl6
                  have ma9 := ma.grows hg9
                  have ha9 := ha1.grows hg9
                  have ht9 := ht1.grows hg9
                  obtain ⟨m0, m1, m2⟩ := ma9.cells
                  have hjl := (HJ.out I).2.2
                  have HNX := Lib.hid (show clJ (dF ⟨r, c, b⟩ t) (dK ⟨r, c, b⟩ t) rows D (I + 1) = clT (dF ⟨r, c, b⟩ t (rows.getD I [])) (dK ⟨r, c, b⟩ t (rows.getD I [])) (clJ (dF ⟨r, c, b⟩ t) (dK ⟨r, c, b⟩ t) rows D I) I from rfl)
                  have CDX := fun W h hx h' => CD.out A10 (rows.getD I []) (rows.getD I []).length c10 W h hx h' rfl (by omega)
                  change ∀ W h hx h', Calls Try.prog 37 #[.agg #[.int .i64 r, .int .i64 c, .slice A n cap], .slice A10 (rows.getD I []).length c10, .slice T k ct] W fun e w' => e = .returned (.tuple #[.int .i64 (dF ⟨r, c, b⟩ t (rows.getD I [])), .bool (dK ⟨r, c, b⟩ t (rows.getD I []))]) ∧ Grows W w' at CDX
                  generalize dF ⟨r, c, b⟩ t (rows.getD I []) = dx at *
                  generalize dK ⟨r, c, b⟩ t (rows.getD I []) = okx at *
                  generalize hJ : clJ (dF ⟨r, c, b⟩ t) (dK ⟨r, c, b⟩ t) rows D I = J at *
                  obtain ⟨js, bs⟩ := J
                  simp only at hjl ho ⊢
                  generalize rows.getD I [] = x at *
                  have CDX' := Lib.hid CDX
                  have HE10 := Lib.hid he10
                  clear CDX hJ he10
                  cases okx
                  · have HN := Lib.hid (HNX.out.trans clT_no)
                    go_wp2_with fail
                    refine (CDX'.out _ (by exact (Rd.grows ha9 (by exact bel0))) (by exact (Rd.grows hr10 (by exact bel0))) (by exact (Rd.grows ht9 (by exact bel0)))).mono ?_; rintro e x5 ⟨rfl, g5⟩
                    go_wp2_with fail
                    go_round
                    case rel => exact ⟨I + 1, by go_num, by omega, by rw [HN.out], by rw [HN.out]; exact ho.grows g5, by exact bel2 g5 hg9⟩
                    case measure => simp [intOf]; omega
                  · by_cases h1 : bs < dx
                    · have HN := Lib.hid (HNX.out.trans (clT_far (st := (js, bs)) h1))
                      go_wp2_with fail
                      refine (CDX'.out _ (by exact (Rd.grows ha9 (by exact bel0))) (by exact (Rd.grows hr10 (by exact bel0))) (by exact (Rd.grows ht9 (by exact bel0)))).mono ?_; rintro e x5 ⟨rfl, g5⟩
                      go_wp2_with fail
                      go_round
                      case rel => exact ⟨I + 1, by go_num, by omega, by rw [HN.out], by rw [HN.out]; exact ho.grows g5, by exact bel2 g5 hg9⟩
                      case measure => simp [intOf]; omega
                    · by_cases h2 : dx < bs
                      · have HN := Lib.hid (HNX.out.trans (clT_less (st := (js, bs)) h2))
                        go_wp2_with fail
                        refine (CDX'.out _ (by exact (Rd.grows ha9 (by exact bel0))) (by exact (Rd.grows hr10 (by exact bel0))) (by exact (Rd.grows ht9 (by exact bel0)))).mono ?_; rintro e x5 ⟨rfl, g5⟩
                        have hs5 := Below.size g5
                        have on := (OwnV.new_ 24 x5 rfl (Nat.le_refl _)).less (B' := w8.heap.size) (by omega)
                        go_wp2_with (at_builtin; refine wpList_appX1 rfl (.tmp 137) (.tmp 139) rfl _ (.slice A10 x.length c10) rfl w8.heap.size _ [] (by rfl) on (by first | rfl | (simp [go_sem]; done) | (simp; rfl) | (show Value.slice (some ⟨x5.heap.size + 1, 0, none⟩) 1 1 = _; simp)) (by simp) (by simp; omega) ?_; intro v7 x7 o7 hg7 hv7; obtain ⟨A7, c7, hv7e, _, _⟩ := o7.val; have g7 : Below w8.heap.size x5 x7 := Below.trans (show Below w8.heap.size x5 (x5.alloc (.cells #[] 24)) by exact bel0) (below_appR on (by simp; omega) hg7); subst hv7e; clear hg7 hv7)
                        go_round
                        case rel => exact ⟨I + 1, by go_num, by omega, by rw [HN.out], by (rw [HN.out]; show OwnV _ _ _ _ [vs.getD I (.slice none 0 0)]; rw [HE10.out]; exact o7), Below.trans (show Grows w8 x5 by exact bel2 g5 hg9) g7⟩
                        case measure => simp [intOf]; omega
                      · obtain rfl : dx = bs := by omega
                        have HN := Lib.hid (HNX.out.trans (clT_same (st := (js, dx)) rfl))
                        go_wp2_with fail
                        refine (CDX'.out _ (by exact (Rd.grows ha9 (by exact bel0))) (by exact (Rd.grows hr10 (by exact bel0))) (by exact (Rd.grows ht9 (by exact bel0)))).mono ?_; rintro e x5 ⟨rfl, g5⟩
                        have hs5 := Below.size g5
                        have on := ho.grows g5
                        obtain ⟨A11, c11, hoe, _, _⟩ := ho.val
                        rw [List.length_map] at hoe
                        subst hoe
                        go_wp2_with (at_builtin; refine wpList_appX1 rfl (.tmp 137) (.tmp 139) rfl _ (.slice A10 x.length c10) rfl w8.heap.size _ (js.map fun j => vs.getD j (.slice none 0 0)) (by rfl) on (by first | rfl | (simp [go_sem]; done) | (simp; rfl)) (by rw [List.length_map]; omega) (by omega) ?_; intro v7 x7 o7 hg7 hv7)
                        obtain ⟨A7, c7, hv7e, _, _⟩ := o7.val
                        have g7 : Below w8.heap.size x5 x7 := below_appR on (by omega) hg7
                        subst hv7e
                        clear hg7 hv7
                        go_wp2_with fail
                        go_round
                        case rel => exact ⟨I + 1, by go_num, by omega, by rw [HN.out], by (rw [HN.out, List.map_append]; show OwnV _ _ _ _ (_ ++ [vs.getD I (.slice none 0 0)]); rw [HE10.out]; exact o7), Below.trans (show Grows w8 x5 by exact bel2 g5 hg9) g7⟩
                        case measure => simp [intOf]; omega
                · obtain rfl : I = rows.length := by omega
                  have hp := RowsO.pick (H := w8.heap.size) (o8.grows hg9) ho (by omega) (fun j hj => (HJ.out _).1 j hj) (HJ.out _).2.1 (fun g h => (World.ownsRow.lt ho g h).1) (fun i u hu g h => (o8.lt hu h).2)
                  obtain ⟨A11, c11, hoe, _, _⟩ := hp.val
                  subst hoe
                  have hRES := HRES.out
                  subst hRES
                  go_wp2_with fail
                  refine bodyPost_ret (v := .tuple #[.slice A11 (List.map (fun j => rows.getD j []) (clJ (dF ⟨r, c, b⟩ t) (dK ⟨r, c, b⟩ t) rows D rows.length).1).length c11, .int .i64 (clJ (dF ⟨r, c, b⟩ t) (dK ⟨r, c, b⟩ t) rows D rows.length).2, .bool true]) ?_ rfl ?_
                  · (simp [results, Try.results14, go_sem] <;> rfl)
                  · exact ⟨_, _, rfl, hp.less (by omega), by exact bel2 hg9 HG⟩
end
end Go.Proofs.Ythajmffhgbenpaa
