/- Contracts and lemmas, put together. -/
import Derived.Test.YthajmffhgbenpaaPkD
import Derived.Test.YthajmffhgbenpaaPkI
import Derived.Test.YthajmffhgbenpaaPkT
/- Contracts: the index of a lattice in another one. -/
namespace Go.Proofs.Ythajmffhgbenpaa
set_option linter.unusedSimpArgs false
set_option linter.unusedVariables false
open Go.RowKit

theorem idxO_none {a b : MX} (h : crmO a b = none) : idxO a b = none := by unfold idxO; rw [h]; rfl
theorem idxO_some {R R' : Nat} {c c' : Int} {a b l : List Int} (h : crmO ⟨R, c, a⟩ ⟨R', c', b⟩ = some ⟨R', R, l⟩) : idxO ⟨R, c, a⟩ ⟨R', c', b⟩ = if R = R' then (hermO ⟨R', R, l⟩).bind (fun h => prdD R' h.1.l R') else none := by
  unfold idxO
  rw [h]
  simp only [Option.bind_some, Int.toNat_natCast, Int.natCast_inj]
section
set_option maxHeartbeats 4000000
theorem iIdx_c (r c r' c' : Int) (A B : Option Addr) (a b : List Int) (n m ca cb : Nat) (w : World) (hn : a.length = n) (hm : b.length = m) (hca : n ≤ ca) (hca2 : ca ≤ 9223372036854775807) (hcb : m ≤ cb) (hcb2 : cb ≤ 9223372036854775807) (ha : Rd w A a) (hb : Rd w B b) (hl : n ≤ 1099511627776) (hl2 : m ≤ 1099511627776) :
    Calls Try.prog 12 #[.agg #[.int .i64 r, .int .i64 c, .slice A n ca], .agg #[.int .i64 r', .int .i64 c', .slice B m cb]] w (IORet (idxO ⟨r, c, a⟩ ⟨r', c', b⟩) w) := by
  have CC := fun W h h' => (iCrm_c r c r' c' A B a b n m ca cb W hn hm hca hca2 hcb hcb2 h h' hl hl2).mono fun _ _ h => matRet_out h
  have XS := Lib.hid fun (x : MX) (h : crmO ⟨r, c, a⟩ ⟨r', c', b⟩ = some x) => crmO_shape h
  obtain ⟨w1, hw1, ma, mb, HG⟩ := two_box w r c r' c' (.slice A n ca) (.slice B m cb)
  have HW1 := Lib.hid hw1
  have ha1 := ha.grows HG
  have hb1 := hb.grows HG
  obtain ⟨RES, hRES⟩ : ∃ x, x = idxO ⟨r, c, a⟩ ⟨r', c', b⟩ := ⟨_, rfl⟩
  rw [← hRES]
  obtain ⟨CO, hCO⟩ : ∃ x, x = crmO ⟨r, c, a⟩ ⟨r', c', b⟩ := ⟨_, rfl⟩
  rw [← hCO] at CC
  have HR := Lib.hid hRES
  have HCO := Lib.hid hCO
  have CC' := Lib.hid CC
  clear hw1 hRES hn hm CC hCO
  go_enter Try.func12, Try.ntmps12
  go_wp2_with fail
  rw [← HW1.out]
  have ma_0 := ma.c0; have ma_1 := ma.c1; have ma_2 := ma.c2; have ma_l := ma.lt; have ma_f := ma.fz
  have mb_0 := mb.c0; have mb_1 := mb.c1; have mb_2 := mb.c2; have mb_l := mb.lt; have mb_f := mb.fz
  refine (CC'.out _ (by exact Rd.grows ha1 (by exact bel0)) (by exact Rd.grows hb1 (by exact bel0))).mono ?_; rintro e w2 ⟨v2, rfl, o2, g_w2⟩
  have s_w2 := Below.size g_w2; (try simp at s_w2)
  clear ma_0 ma_1 ma_2 ma_l ma_f
  replace ma := ma.grows (w' := w2) (by exact bel1 g_w2)
  have ma_0 := ma.c0; have ma_1 := ma.c1; have ma_2 := ma.c2; have ma_l := ma.lt; have ma_f := ma.fz
  clear mb_0 mb_1 mb_2 mb_l mb_f
  replace mb := mb.grows (w' := w2) (by exact bel1 g_w2)
  have mb_0 := mb.c0; have mb_1 := mb.c1; have mb_2 := mb.c2; have mb_l := mb.lt; have mb_f := mb.fz
  replace ha1 := ha1.grows (w' := w2) (by exact bel1 g_w2)
  replace hb1 := hb1.grows (w' := w2) (by exact bel1 g_w2)
  replace HG : Grows w w2 := by exact bel2 g_w2 HG
  have h_w2 := Below.size HG
  obtain ⟨A2, c2, rfl, hr2, _⟩ := o2.val
  cases CO with
  | none =>
    obtain rfl : RES = none := by rw [HR.out, idxO_none HCO.out.symm]
    go_wp2_with fail
    go_ret2
    exact ⟨rfl, by exact bel1 HG⟩
  | some x =>
    obtain ⟨R, R', l, rfl, rfl, rfl, hR, hR', hmat, hll⟩ := XS.out x HCO.out.symm
    simp only [oM_some] at hr2 ⊢
    have HRB := Lib.hid (HR.out.trans (idxO_some HCO.out.symm))
    clear HR HCO XS
    by_cases hRR : R = R'
    · subst hRR
      have hRB : RES = (hermO ⟨R, R, l⟩).bind (fun h => prdD R h.1.l R) := HRB.out.trans (if_pos rfl)
      have HLL := Lib.hid hll
      have hRR : R * R ≤ 576 := Nat.mul_le_mul hR hR
      have CH := fun W h => (iHerm_c R R A2 l l.length c2 W rfl h (by omega)).mono fun _ _ h => mat2_out h
      have HCL := Lib.hid fun x h => herm_cells (R := R) (l := l) hmat (x := x) h
      generalize hermO ⟨R, R, l⟩ = HO at *
      have CH' := Lib.hid CH
      have HRC := Lib.hid hRB
      clear CH hRB hmat hll HRB
      go_wp2_with fail
      refine (CH'.out _ (by exact Rd.grows hr2 (by exact bel0))).mono ?_; rintro e w3 ⟨v3, v4, rfl, o3, o4, _, g_w3⟩
      have s_w3 := Below.size g_w3; (try simp at s_w3)
      clear ma_0 ma_1 ma_2 ma_l ma_f
      replace ma := ma.grows (w' := w3) (by exact bel1 g_w3)
      have ma_0 := ma.c0; have ma_1 := ma.c1; have ma_2 := ma.c2; have ma_l := ma.lt; have ma_f := ma.fz
      clear mb_0 mb_1 mb_2 mb_l mb_f
      replace mb := mb.grows (w' := w3) (by exact bel1 g_w3)
      have mb_0 := mb.c0; have mb_1 := mb.c1; have mb_2 := mb.c2; have mb_l := mb.lt; have mb_f := mb.fz
      replace ha1 := ha1.grows (w' := w3) (by exact bel1 g_w3)
      replace hb1 := hb1.grows (w' := w3) (by exact bel1 g_w3)
      replace hr2 := hr2.grows (w' := w3) (by exact bel1 g_w3)
      have mc : MBox w3 (w2.heap.size) R R (.slice A2 l.length c2) := MBox.grows (MBox.new_ w2 R R (.slice A2 l.length c2) 26 (by simp)) (w' := w3) (by exact bel1 g_w3)
      have mc_0 := mc.c0; have mc_1 := mc.c1; have mc_2 := mc.c2; have mc_l := mc.lt; have mc_f := mc.fz
      replace HG : Grows w w3 := by exact bel2 g_w3 HG
      have h_w3 := Below.size HG
      obtain ⟨A3, c3, rfl, hr3, _⟩ := o3.val
      obtain ⟨A4, c4, rfl, _, _⟩ := o4.val
      clear o4
      cases HO with
      | none =>
        obtain rfl : RES = none := HRC.out
        go_wp2_with fail
        go_ret2
        exact ⟨rfl, by exact bel1 HG⟩
      | some h =>
        obtain ⟨x, u, rfl, hxl, hxn⟩ := HCL.out h rfl
        have HRD := Lib.hid (show RES = prdD R x R from HRC.out)
        have HXN := Lib.hid hxn
        have HXL := Lib.hid hxl
        clear HRC HCL hxn hxl
        have e : oM2 (some ((⟨R, R, x⟩, ⟨R, R, u⟩) : MX × MX)) = (⟨R, R, x⟩, ⟨R, R, u⟩) := rfl
        simp only [e, Option.isSome_some] at hr3 ⊢
        have hR2 := hR
        obtain ⟨w4, hw4⟩ : ∃ w4, w4 = (w3.alloc (.cells #[.int .i64 R, .int .i64 R, .slice A3 x.length c3] 26)).alloc (.cells #[.int .i64 R, .int .i64 R, .slice A4 u.length c4] 26) := ⟨_, rfl⟩
        have mh : MBox w4 w3.heap.size R R (.slice A3 x.length c3) := by rw [hw4]; exact (MBox.mk_ _ _ _ _ _).grows (by exact bel0)
        have g34 : Grows w3 w4 := by rw [hw4]; exact bel0
        have HW4 := Lib.hid hw4
        have hr4 := hr3.grows g34
        clear hw4 e
        go_wp2_with fail
        rw [← HW4.out]
        go_loopw [11, 12] (fun p i wr => ∃ (I : Nat) (P : Int), p = .int .i64 P ∧ i = .int .i64 I ∧ I ≤ R ∧ prdD R x I = some P ∧ Grows w4 wr) (fun _ i _ => R - (intOf i).toNat)
        case atStart => exact ⟨0, 1, rfl, rfl, Nat.zero_le _, rfl, by exact bel0⟩
        case round =>
          obtain ⟨I, P, rfl, rfl, hI, hP, hg⟩ := hrel
          have HP := Lib.hid hP
          have hPn := prdD_num hP
          obtain ⟨b0, b1, b2⟩ := (mh.grows hg).cells
          clear hP
          by_cases hlt : I < R
          · have hlt' : (I : Int) < (R : Int) := by omega
            have CD := Lib.hid fun W h => diag_c R R A3 x x.length c3 I W rfl HXL.out hR2 hR2 hlt hlt h
            have hyn := HXN.out I hlt
            have F0 := Lib.hid fun h => prdD_no HP.out h
            have F1 := Lib.hid fun h => prdD_yes HP.out h
            generalize nth x (I * R + I) = y at *
            have hmb := mul_bd hPn hyn
            obtain ⟨z, hz⟩ : ∃ z, z = P * y := ⟨_, rfl⟩
            have hwr : IntKind.i64.wrap (P * y) = z := by rw [hz]; exact IntWalk.i64_in _ (by omega)
            have NX := fun W => iIsNumber_c z W
            have G0 : RowKit.Hid (isNum z = false → prdD R x (I + 1) = none) := Lib.hid fun h => F0.out (by rw [← hz]; exact h)
            have G1 : RowKit.Hid (isNum z = true → prdD R x (I + 1) = some z) := Lib.hid fun h => by rw [hz]; exact F1.out (by rw [← hz]; exact h)
            have hrw := hr4.grows hg
            clear hz F0 F1 hmb
            go_wp2_with fail
            refine (CD.out _ hrw).mono ?_; rintro e w5 ⟨rfl, g5⟩
            cases hz : isNum z
            · obtain rfl : RES = none := by rw [HRD.out]; exact prdD_none (G0.out hz) (by omega)
              rw [hz] at NX
              have NX' := Lib.hid NX
              clear NX hz
              go_wp2_with fail
              refine (NX'.out _).mono ?_; rintro e w6 ⟨rfl, rfl⟩
              go_wp2_with fail
              go_ret2
              exact ⟨rfl, by exact bel4 g5 hg g34 HG⟩
            · have HF := Lib.hid (G1.out hz)
              rw [hz] at NX
              have NX' := Lib.hid NX
              clear NX hz
              go_wp2_with fail
              refine (NX'.out _).mono ?_; rintro e w6 ⟨rfl, rfl⟩
              go_wp2_with fail
              go_round
              case rel => exact ⟨I + 1, z, rfl, by go_num, by omega, HF.out, by exact bel2 g5 hg⟩
              case measure => simp [intOf]; omega
          · obtain rfl : I = R := by omega
            obtain rfl : RES = some P := by rw [HRD.out, HP.out]
            go_wp2_with fail
            go_ret2
            exact ⟨rfl, by exact bel3 hg g34 HG⟩
    · obtain rfl : RES = none := HRB.out.trans (if_neg hRR)
      have hne : ((R : Int) != (R' : Int)) = true := by simp; omega
      have hne' : ¬ (R : Int) = (R' : Int) := by omega
      go_wp2_with fail
      go_ret2
      exact ⟨rfl, by exact bel1 HG⟩
end
end Go.Proofs.Ythajmffhgbenpaa
