/- Contracts and lemmas, put together. -/
import Derived.Test.YthajmffhgbenpaaPkB
import Derived.Test.YthajmffhgbenpaaPkCb
import Derived.Test.YthajmffhgbenpaaPkE
/- Contract: all vectors of a box, the reference's. -/
namespace Go.Proofs.Ythajmffhgbenpaa
set_option linter.unusedSimpArgs false
set_option linter.unusedVariables false
open Go.RowKit

section
set_option maxHeartbeats 4000000
theorem l20Box_c (A B : Option Addr) (lo hi : List Int) (n ca cb : Nat) (w : World) (hn : lo.length = n) (hm : hi.length = n) (ha : Rd w A lo) (hb : Rd w B hi) (hn24 : n ≤ 24) (hw : ∀ i, i < n → nth lo i ≤ nth hi i ∧ -1000000000 ≤ nth lo i ∧ nth hi i ≤ 1000000000) :
    Calls Try.prog 48 #[.slice A n ca, .slice B n cb] w fun e w' => ∃ v vs, e = .returned (.tuple #[v, .bool (boxB lo hi n)]) ∧ RowsO w' w.heap.size v vs (boxR lo hi n) ∧ Grows w w' := by
  have HW := Lib.hid hw
  have HN := Lib.hid hn
  have HM := Lib.hid hm
  have HPOS := Lib.hid fun (i : Nat) (h : i ≤ n) => boxF_pos (fun i hi => (hw i hi).1) h
  obtain ⟨OK, hOK⟩ : ∃ x, x = boxB lo hi n := ⟨_, rfl⟩
  obtain ⟨RES, hRES⟩ : ∃ x, x = boxR lo hi n := ⟨_, rfl⟩
  rw [← hOK, ← hRES]
  have HOK := Lib.hid hOK
  have HR := Lib.hid hRES
  clear hw hn hm hOK hRES
  go_enter Try.func48, Try.ntmps48
  go_wp2_with fail
  go_loopw [6, 7] (fun o i wr => ∃ (J : Nat) (vs : List Value), i = .int .i64 J ∧ J ≤ n ∧ boxB lo hi J = true ∧ RowsO wr w.heap.size o vs (boxF lo hi J) ∧ Grows w wr) (fun _ i _ => n - (intOf i).toNat)
  case atStart => exact ⟨0, _, rfl, Nat.zero_le _, rfl, RowsO.one w rfl (Nat.le_refl _), by exact bel0⟩
  case round =>
    obtain ⟨J, vs, rfl, hJ, hB, hor, hg2⟩ := hrel
    obtain ⟨A8, c8, rfl, hrd8, _⟩ := hor.val
    obtain ⟨wi, rfl⟩ : ∃ wi : World, wi = wr := ⟨_, rfl⟩
    have hs2 := Below.size hg2
    by_cases hlt : J < n
    · have hx1 := ha.grows hg2
      have hx2 := hb.grows hg2
      have i1 : (J : Int) < (n : Int) := by omega
      obtain ⟨hxy, hx, hy⟩ := HW.out J hlt
      have hwd := width_eq hxy
      have hL4 := boxB_len hB
      have HBS := Lib.hid (boxB_step hB)
      have HP := Lib.hid (HPOS.out J (by omega))
      have HFL := Lib.hid (fun (v : List Int) (h : v ∈ boxF lo hi J) => boxF_len h)
      have HNX := Lib.hid (show boxF lo hi (J + 1) = boxStep (nth lo J) (nth hi J) (boxF lo hi J) from rfl)
      have HLN := Lib.hid (boxF_length lo hi J)
      obtain ⟨bx, ox, rfl, hbx, hcx⟩ := hx1.at_ J (by rw [HN.out]; exact hlt)
      obtain ⟨by_, oy, rfl, hby, hcy⟩ := hx2.at_ J (by rw [HM.out]; exact hlt)
      generalize nth lo J = x at *
      generalize nth hi J = y at *
      generalize boxF lo hi J = rows at *
      clear hB
      go_wp2_with fail
      go_loopw [8, 9] (fun o i wr => ∃ (r : Nat) (vn : List Value), i = .int .i64 r ∧ r ≤ rows.length ∧ r * width x y ≤ 4000 ∧ RowsO wr wi.heap.size o vn (boxUpto x y rows r) ∧ Grows wi wr) (fun _ i _ => rows.length - (intOf i).toNat)
      case atStart => exact ⟨0, [], rfl, Nat.zero_le _, by simp, RowsO.new_ _ rfl (Nat.le_refl _), by exact bel0⟩
      case round =>
        obtain ⟨r, vn, rfl, hr, hr4, horn, hg3⟩ := hrel
        obtain ⟨A10, c10, rfl, _, _⟩ := horn.val
        obtain ⟨wj, rfl⟩ : ∃ wj : World, wj = wr := ⟨_, rfl⟩
        have hs3 := Below.size hg3
        have HUL := Lib.hid (boxUpto_length (lo := x) (hi := y) hr)
        by_cases hltr : r < rows.length
        · have i2 : (r : Int) < (rows.length : Int) := by omega
          have HRX := Lib.hid (boxUpto_succ (lo := x) (hi := y) hltr)
          have HU : RowKit.Hid (rows[r].length ≤ 24) := Lib.hid (by have := HFL.out rows[r] (List.getElem_mem _); omega)
          have eU : rows.getD r [] = rows[r] := by simp [List.getD, hltr]
          rw [eU] at HRX
          have hcxj : wj.cell? ⟨bx, ox + J, none⟩ = some (.int .i64 x) := (hg3.cell (p := ⟨bx, ox + J, none⟩) hbx).trans hcx
          have hcyj : wj.cell? ⟨by_, oy + J, none⟩ = some (.int .i64 y) := (hg3.cell (p := ⟨by_, oy + J, none⟩) hby).trans hcy
          have hmul : (r + 1) * width x y = r * width x y + width x y := Nat.succ_mul _ _
          have hulen : (boxUpto x y rows r).length ≤ 4000 := by rw [HUL.out]; exact hr4
          have k1 : IntKind.i64.wrap (((boxUpto x y rows r).length : Int) + y) = ((boxUpto x y rows r).length : Int) + y := IntWalk.i64_in _ (by omega)
          have k2 : IntKind.i64.wrap (((boxUpto x y rows r).length : Int) + y - x) = ((boxUpto x y rows r).length : Int) + y - x := IntWalk.i64_in _ (by omega)
          have k3 : IntKind.i64.wrap (((boxUpto x y rows r).length : Int) + y - x + 1) = ((boxUpto x y rows r).length : Int) + y - x + 1 := IntWalk.i64_in _ (by omega)
          have HSM : RowKit.Hid (((boxUpto x y rows r).length : Int) + y - x + 1 = (((r + 1) * width x y : Nat) : Int)) := Lib.hid (by rw [HUL.out, hmul]; omega)
          generalize hu0 : boxUpto x y rows r = L0 at *
          clear hu0 hmul
          by_cases hbig : (r + 1) * width x y ≤ 4000
          · have i4 : ¬ (4000 : Int) < (L0.length : Int) + y - x + 1 := by rw [HSM.out]; omega
            have HBG := Lib.hid hbig
            clear hbig
            go_wp2_with fail
            go_quiet (fail)
            go_wp2_with fail
            clear k1 k2 k3 i4
            go_loopw [8, 10] (fun o z wr => ∃ (k : Nat) (vn : List Value), z = .int .i64 (x + (k : Int)) ∧ k ≤ width x y ∧ RowsO wr wi.heap.size o vn (L0 ++ grownBy x k rows[r]) ∧ Below wi.heap.size wj wr) (fun _ z _ => (y + 1 - intOf z).toNat)
            case atStart => exact ⟨0, vn, by simp, Nat.zero_le _, (by rw [show L0 ++ grownBy x 0 rows[r] = L0 from by simp [grownBy]]; exact horn.drewN_), by exact bel0⟩
            case round =>
              obtain ⟨k, vk, rfl, hk, hork, hg4⟩ := hrel
              obtain ⟨A11, c11, rfl, _, _⟩ := hork.val
              have hs4 := Below.size hg4
              have hgi4 : Grows wi wr := Below.trans hg3 hg4
              have hcyk : wr.cell? ⟨by_, oy + J, none⟩ = some (.int .i64 y) := (hgi4.cell (p := ⟨by_, oy + J, none⟩) hby).trans hcy
              have hbyk : by_ < wr.heap.size := by omega
              obtain ⟨b8, off8, u8, rfl, hb8, hc8, Au, cu, rfl, hruk, _⟩ := (hrd8.grows RSI.good hgi4).at_ r hltr
              generalize rows[r] = U at *
              by_cases hltk : k < width x y
              · have i3 : x + (k : Int) ≤ y := by omega
                have HGX := Lib.hid (grownBy_succ x k U)
                have HGL := Lib.hid (grownBy_length x k U)
                have hLL : (L0 ++ grownBy x k U).length + 1 ≤ 1099511627776 := by
                  rw [List.length_append, HGL.out]
                  have := HBG.out
                  rw [Nat.succ_mul] at this
                  omega
                have hUl := HU.out
                have k4 : IntKind.i64.wrap (x + (k : Int) + 1) = x + (k : Int) + 1 := IntWalk.i64_in _ (by omega)
                obtain ⟨z, hz⟩ : ∃ z, z = x + (k : Int) := ⟨_, rfl⟩
                rw [← hz] at i3 k4 ⊢
                have HZ := Lib.hid hz
                generalize hLK : L0 ++ grownBy x k U = LK at *
                have HLK := Lib.hid hLK
                have HEL := Lib.hid (show (U ++ [z]).length = U.length + 1 by simp)
                clear hLK hz
                go_wp2_with (first
                  | (at_builtin; refine wpList_appO1 rfl (.tmp 53) (.tmp 63) rfl _ _ (U ++ [z]) wi.heap.size _ vk LK (by rfl) hor3 (ho3.less (by omega)) hap3 rfl (by rfl) hLL (by omega) ?_; intro v4 w4 ho4 hg4' hv4)
                  | (at_builtin; refine wpList_app1 rfl (.tmp 59) (.tmp 61) rfl _ z wr.heap.size _ U (by rfl) ho2 (by rfl) (by omega) (by omega) ?_; intro v3 w3 ho3 hg3' hv3; have g3 : Grows wr w3 := Below.trans g2 (below_app ho2 (by omega) hg3'); have hor3 := hork.grows g3; have hap3 := hork.apart ho3; have sw3 := Below.size g3; obtain ⟨A3, c3, rfl, _, _⟩ := ho3.val; rw [HEL.out] at ho3 hap3; clear hg3')
                  | (at_builtin; refine wpList_app rfl (.tmp 54) (.tmp 58) rfl _ wr.heap.size _ [] (by rfl) (Own.new_ _ rfl (Nat.le_refl _)) Au U U.length cu (by rfl) rfl (by exact (Rd.grows hruk (by exact bel0))) (by simp; omega) (by simp) ?_; intro v2 w2 ho2 hg2' hv2; have g2 : Grows wr w2 := Below.trans (show Below _ wr (wr.alloc (.cells #[] 3)) by exact bel0) ((below_app (Own.new_ wr rfl (Nat.le_refl _)) (by simp) hg2')); rw [List.nil_append] at ho2; obtain ⟨A2, c2, rfl, _, _⟩ := ho2.val; have sw2 := Below.size g2; clear hg2'))
                obtain ⟨A4, c4, rfl, _, _⟩ := ho4.val
                have hb4 : Below wi.heap.size w3 w4 := below_appO hor3 (by omega) hg4'
                clear hg4'
                go_wp2_with fail
                go_round
                case rel => exact ⟨k + 1, _, by rw [HZ.out]; simp [Int.add_assoc], by omega, by rw [HGX.out, ← List.append_assoc, HLK.out, ← HZ.out]; exact ho4, Below.trans hg4 (Below.trans (Below.mono g3 (by omega)) hb4)⟩
                case measure => simp [intOf]; omega
              · have i3 : ¬ x + (k : Int) ≤ y := by omega
                obtain rfl : k = width x y := by omega
                go_wp2_with fail
                go_round
                case rel => exact ⟨r + 1, vk, by go_num, by omega, HBG.out, by rw [HRX.out]; exact hork, hgi4⟩
                case measure => simp [intOf]; omega
          · have i4 : (4000 : Int) < (L0.length : Int) + y - x + 1 := by rw [HSM.out]; omega
            have hno : boxB lo hi n = false := boxB_no (i := J + 1) (by
              rw [HBS.out, HLN.out]
              have := Nat.mul_le_mul_right (width x y) (show r + 1 ≤ rows.length by omega)
              simp; omega) (by omega)
            obtain rfl : OK = false := by rw [HOK.out, hno]
            obtain rfl : RES = [] := by rw [HR.out, boxR_no hno]
            clear hno hbig
            go_wp2_with fail
            go_quiet (fail)
            go_wp2_with fail
            go_ret2
            exact ⟨_, [], rfl, RowsO.new_ _ rfl (by omega), by exact bel2 hg3 hg2⟩
        · obtain rfl : r = rows.length := by omega
          have HB1 : RowKit.Hid (boxB lo hi (J + 1) = true) := Lib.hid (by rw [HBS.out, HLN.out]; simpa using hr4)
          go_wp2_with fail
          go_round
          case rel => exact ⟨J + 1, vn, by go_num, by omega, HB1.out, by rw [HNX.out, ← boxUpto_all]; exact horn.less (by omega), by exact bel2 hg3 hg2⟩
          case measure => simp [intOf]; omega
    · obtain rfl : J = n := by omega
      obtain rfl : OK = true := by rw [HOK.out, hB]
      obtain rfl : RES = boxF lo hi J := by rw [HR.out, boxR_yes hB]
      clear hB HOK HR
      go_wp2_with fail
      go_ret2
      exact ⟨_, vs, rfl, hor, by exact bel1 hg2⟩
end
end Go.Proofs.Ythajmffhgbenpaa

/- Contract: the closest vectors, the reference's. -/
namespace Go.Proofs.Ythajmffhgbenpaa
set_option linter.unusedSimpArgs false
set_option linter.unusedVariables false
open Go.RowKit

theorem clo_keepS {W w : World} {ab o bb p : Nat} {x0 x1 y : Value} (h0 : W.cell? ⟨ab, o, none⟩ = some x0) (h1 : W.cell? ⟨ab, o + 1, none⟩ = some x1) (ha : ab < W.heap.size) (hc : W.cell? ⟨bb, p, none⟩ = some y) (hb : bb < W.heap.size) (g : Grows W w) : w.cell? ⟨ab, o, none⟩ = some x0 ∧ w.cell? ⟨ab, o + 1, none⟩ = some x1 ∧ w.cell? ⟨bb, p, none⟩ = some y :=
  ⟨(g.cell (p := ⟨ab, o, none⟩) ha).trans h0, (g.cell (p := ⟨ab, o + 1, none⟩) ha).trans h1, (g.cell (p := ⟨bb, p, none⟩) hb).trans hc⟩
theorem rdR_nilC (w : World) (A : Option Addr) : RdR RSI w A [] := ⟨[], rfl, RdV.nil _ _, fun i u x h => by simp at h⟩
section
set_option maxHeartbeats 40000000
set_option maxRecDepth 100000
theorem sClo_c (r c : Int) (A T : Option Addr) (b t : List Int) (n cap k ct : Nat) (w : World) (hn : b.length = n) (ha : Rd w A b) (hl : n ≤ 1099511627776) (hk : t.length = k) (ht : Rd w T t) (hl2 : k ≤ 1099511627776) :
    Calls Try.prog 15 #[.agg #[.int .i64 r, .int .i64 c, .slice A n cap], .slice T k ct] w (CloGet (closO ⟨r, c, b⟩ t) w) := by
  have CP := fun W h h' => (sPrj_c r c A T b t n cap k ct W hn h hl hk h' hl2).mono fun _ _ h => lqRet_out h
  have CR := fun W h h' => sRto_c r c A T b t n cap k ct W hn h hl hk h' hl2
  have CG := fun W h => (sGm_m r c A b n cap W hn h hl).mono fun _ _ h => matRet_out h
  have CD := Lib.hid fun X x m cx W h hx h' hm (hm2 : m ≤ 1099511627776) => sDistanceOf_c r c A X T b x t n m k cap cx ct W hn hm hk h hx h' hl hm2 hl2
  have hgl : (oM (gmO ⟨r, c, b⟩)).l.length ≤ 576 := gmO_length _
  have hpl : (oLQ (prjO ⟨r, c, b⟩ t)).length ≤ 576 := prjO_length
  have hrl : (oL (rndO ⟨r, c, b⟩ t)).length ≤ 576 := by unfold rndO; rw [rndO_oL, rndL_length]; exact prjO_length
  obtain ⟨w1, hw1⟩ : ∃ w1, w1 = w.alloc (.cells #[.int .i64 r, .int .i64 c, .slice A n cap] 26) := ⟨_, rfl⟩
  have ma : MBox w1 w.heap.size r c (.slice A n cap) := by rw [hw1]; exact MBox.mk_ _ _ _ _ _
  have HG : Grows w w1 := by rw [hw1]; exact bel0
  have HS1 : w1.heap.size = w.heap.size + 1 := by rw [hw1]; simp
  have HW1 := Lib.hid hw1
  have ha1 := ha.grows HG
  have ht1 := ht.grows HG
  obtain ⟨RES, hRES⟩ : ∃ x, x = closO ⟨r, c, b⟩ t := ⟨_, rfl⟩
  rw [← hRES]
  have HR := Lib.hid hRES
  obtain ⟨PO, hPO⟩ : ∃ x, x = prjO ⟨r, c, b⟩ t := ⟨_, rfl⟩
  rw [← hPO] at CP hpl
  have HPO := Lib.hid hPO
  obtain ⟨XL, hXL⟩ : ∃ x, x = oL (rndO ⟨r, c, b⟩ t) := ⟨_, rfl⟩
  rw [← hXL] at CR hrl
  have HXL := Lib.hid hXL
  generalize (rndO ⟨r, c, b⟩ t).isSome = RS at *
  have CP' := Lib.hid CP
  have CR' := Lib.hid CR
  have CG' := Lib.hid CG
  clear hw1 CP CG CR hRES hPO hXL hn hk
  go_enter Try.func15, Try.ntmps15
  go_wp2_with fail
  rw [← HW1.out]
  have ma_0 := ma.c0; have ma_1 := ma.c1; have ma_2 := ma.c2; have ma_l := ma.lt; have ma_f := ma.fz
  refine (CP'.out _ (by exact Rd.grows ha1 (by exact bel0)) (by exact Rd.grows ht1 (by exact bel0))).mono ?_; rintro e w2 ⟨v2, rfl, o2, g_w2⟩
  have s_w2 := Below.size g_w2; (try simp at s_w2)
  clear ma_0 ma_1 ma_2 ma_l ma_f
  replace ma := ma.grows (w' := w2) (by exact bel1 g_w2)
  have ma_0 := ma.c0; have ma_1 := ma.c1; have ma_2 := ma.c2; have ma_l := ma.lt; have ma_f := ma.fz
  replace ha1 := ha1.grows (w' := w2) (by exact bel1 g_w2)
  replace ht1 := ht1.grows (w' := w2) (by exact bel1 g_w2)
  replace HG : Grows w w2 := by exact bel2 g_w2 HG
  have h_w2 := Below.size HG
  obtain ⟨A2, c2, rfl, hr2, _⟩ := o2.val
  clear o2
  go_wp2_with fail
  refine (CR'.out _ (by exact Rd.grows ha1 (by exact bel0)) (by exact Rd.grows ht1 (by exact bel0))).mono ?_; rintro e w3 ⟨v3, rfl, o3, g_w3⟩
  have s_w3 := Below.size g_w3; (try simp at s_w3)
  clear ma_0 ma_1 ma_2 ma_l ma_f
  replace ma := ma.grows (w' := w3) (by exact bel1 g_w3)
  have ma_0 := ma.c0; have ma_1 := ma.c1; have ma_2 := ma.c2; have ma_l := ma.lt; have ma_f := ma.fz
  replace ha1 := ha1.grows (w' := w3) (by exact bel1 g_w3)
  replace ht1 := ht1.grows (w' := w3) (by exact bel1 g_w3)
  replace hr2 := hr2.grows (w' := w3) (by exact bel1 g_w3)
  replace HG : Grows w w3 := by exact bel2 g_w3 HG
  have h_w3 := Below.size HG
  obtain ⟨A3, c3, rfl, hr3, _⟩ := o3.val
  clear o3
  obtain ⟨D, hD⟩ : ∃ x, x = dF ⟨r, c, b⟩ t XL := ⟨_, rfl⟩
  obtain ⟨OK, hOK⟩ : ∃ x, x = dK ⟨r, c, b⟩ t XL := ⟨_, rfl⟩
  have CD1 := fun W h hx h' => CD.out A3 XL XL.length c3 W h hx h' rfl (by omega)
  change ∀ W h hx h', Calls Try.prog 44 #[.agg #[.int .i64 r, .int .i64 c, .slice A n cap], .slice A3 XL.length c3, .slice T k ct] W fun e w' => e = .returned (.tuple #[.int .i64 (dF ⟨r, c, b⟩ t XL), .bool (dK ⟨r, c, b⟩ t XL)]) ∧ Grows W w' at CD1
  rw [← hD, ← hOK] at CD1
  have CD1' := Lib.hid CD1
  have HD := Lib.hid hD
  have HOK := Lib.hid hOK
  clear CD1 hD hOK
  go_wp2_with fail
  refine (CD1'.out _ (by exact Rd.grows ha1 (by exact bel0)) (by exact Rd.grows hr3 (by exact bel0)) (by exact Rd.grows ht1 (by exact bel0))).mono ?_; rintro e w4 ⟨rfl, g_w4⟩
  have s_w4 := Below.size g_w4; (try simp at s_w4)
  clear ma_0 ma_1 ma_2 ma_l ma_f
  replace ma := ma.grows (w' := w4) (by exact bel1 g_w4)
  have ma_0 := ma.c0; have ma_1 := ma.c1; have ma_2 := ma.c2; have ma_l := ma.lt; have ma_f := ma.fz
  replace ha1 := ha1.grows (w' := w4) (by exact bel1 g_w4)
  replace ht1 := ht1.grows (w' := w4) (by exact bel1 g_w4)
  replace hr2 := hr2.grows (w' := w4) (by exact bel1 g_w4)
  replace hr3 := hr3.grows (w' := w4) (by exact bel1 g_w4)
  replace HG : Grows w w4 := by exact bel2 g_w4 HG
  have h_w4 := Below.size HG
  go_wp2_with fail
  refine (CG'.out _ (by exact Rd.grows ha1 (by exact bel0))).mono ?_; rintro e w5 ⟨v5, rfl, o5, g_w5⟩
  have s_w5 := Below.size g_w5; (try simp at s_w5)
  clear ma_0 ma_1 ma_2 ma_l ma_f
  replace ma := ma.grows (w' := w5) (by exact bel1 g_w5)
  have ma_0 := ma.c0; have ma_1 := ma.c1; have ma_2 := ma.c2; have ma_l := ma.lt; have ma_f := ma.fz
  replace ha1 := ha1.grows (w' := w5) (by exact bel1 g_w5)
  replace ht1 := ht1.grows (w' := w5) (by exact bel1 g_w5)
  replace hr2 := hr2.grows (w' := w5) (by exact bel1 g_w5)
  replace hr3 := hr3.grows (w' := w5) (by exact bel1 g_w5)
  replace HG : Grows w w5 := by exact bel2 g_w5 HG
  have h_w5 := Below.size HG
  obtain ⟨A5, c5, rfl, hr5, _⟩ := o5.val
  obtain ⟨BO, hBO⟩ : ∃ x, x = boxO (oM (gmO ⟨r, c, b⟩)) D := ⟨_, rfl⟩
  have CB := fun W h => sBox_c (oM (gmO ⟨r, c, b⟩)).r (oM (gmO ⟨r, c, b⟩)).c D A5 (oM (gmO ⟨r, c, b⟩)).l (oM (gmO ⟨r, c, b⟩)).l.length c5 W rfl h (by omega)
  rw [show (⟨(oM (gmO ⟨r, c, b⟩)).r, (oM (gmO ⟨r, c, b⟩)).c, (oM (gmO ⟨r, c, b⟩)).l⟩ : MX) = oM (gmO ⟨r, c, b⟩) from rfl, ← hBO] at CB
  have HBO : RowKit.Hid (BO = boxO (oM (gmO ⟨r, c, b⟩)) (dF ⟨r, c, b⟩ t XL)) := Lib.hid (by rw [← HD.out]; exact hBO)
  generalize hGO : oM (gmO ⟨r, c, b⟩) = GO at *
  have HGO := Lib.hid hGO
  have CB' := Lib.hid CB
  clear CB hBO o5 hGO
  go_wp2_with fail
  refine (CB'.out _ (by exact Rd.grows hr5 (by exact bel0))).mono ?_; rintro e w6 ⟨v6, rfl, o6, g_w6⟩
  have s_w6 := Below.size g_w6; (try simp at s_w6)
  clear ma_0 ma_1 ma_2 ma_l ma_f
  replace ma := ma.grows (w' := w6) (by exact bel1 g_w6)
  have ma_0 := ma.c0; have ma_1 := ma.c1; have ma_2 := ma.c2; have ma_l := ma.lt; have ma_f := ma.fz
  replace ha1 := ha1.grows (w' := w6) (by exact bel1 g_w6)
  replace ht1 := ht1.grows (w' := w6) (by exact bel1 g_w6)
  replace hr2 := hr2.grows (w' := w6) (by exact bel1 g_w6)
  replace hr3 := hr3.grows (w' := w6) (by exact bel1 g_w6)
  replace hr5 := hr5.grows (w' := w6) (by exact bel1 g_w6)
  have mg : MBox w6 (w5.heap.size) GO.r GO.c (.slice A5 GO.l.length c5) := MBox.grows (MBox.new_ w5 GO.r GO.c (.slice A5 GO.l.length c5) 26 (by simp)) (w' := w6) (by exact bel1 g_w6)
  have mg_0 := mg.c0; have mg_1 := mg.c1; have mg_2 := mg.c2; have mg_l := mg.lt; have mg_f := mg.fz
  replace HG : Grows w w6 := by exact bel2 g_w6 HG
  have h_w6 := Below.size HG
  obtain ⟨A6, c6, rfl, hr6, _⟩ := o6.val
  clear o6
  cases PO with
  | none =>
    obtain rfl : RES = none := HR.out.trans (closO_none HPO.out)
    clear HBO HOK
    cases OK <;> cases BO
    all_goals
      go_wp2_with fail
      refine bodyPost_ret (v := .tuple #[.slice (some ⟨w6.heap.size, 0, none⟩) 0 0, .int .i64 0, .bool false]) ?_ rfl ?_
      · simp [results, Try.results15, go_sem]
      · exact ⟨_, _, rfl, rdR_nilC _ _, by exact bel1 HG⟩
  | some l =>
    have hRL := HR.out.trans (closO_some HPO.out)
    have e1 : XL = rndL l := HXL.out.trans (by unfold rndO; rw [← HPO.out]; rfl)
    rw [e1] at HOK HBO HD
    have e2 : oLQ (some l) = l := rfl
    rw [e2] at hr2 ⊢
    cases OK
    · obtain rfl : RES = none := hRL.trans (closL_far HOK.out)
      clear HBO
      cases BO
      all_goals
        go_wp2_with fail
        refine bodyPost_ret (v := .tuple #[.slice (some ⟨w6.heap.size, 0, none⟩) 0 0, .int .i64 0, .bool false]) ?_ rfl ?_
        · simp [results, Try.results15, go_sem]
        · exact ⟨_, _, rfl, rdR_nilC _ _, by exact bel1 HG⟩
    · cases BO with
      | none =>
        obtain rfl : RES = none := hRL.trans (closL_none (by rw [HGO.out]; exact HBO.out))
        go_wp2_with fail
        refine bodyPost_ret (v := .tuple #[.slice (some ⟨w6.heap.size, 0, none⟩) 0 0, .int .i64 0, .bool false]) ?_ rfl ?_
        · simp [results, Try.results15, go_sem]
        · exact ⟨_, _, rfl, rdR_nilC _ _, by exact bel1 HG⟩
      | some s =>
        have HRL := Lib.hid hRL
        clear hRL e1 e2
        have hRS := HRL.out.trans (closL_some HOK.out (by rw [HGO.out]; exact HBO.out))
        obtain ⟨hsl, hl6⟩ := prj_box HPO.out (show some s = boxO (oM (gmO ⟨r, c, b⟩)) (dF ⟨r, c, b⟩ t (rndL l)) by rw [HGO.out]; exact HBO.out)
        have hsc := boxO_cells HBO.out.symm
        have hbd := Lib.hid (clos_bd hsc hsl)
        have HSC := Lib.hid hsc
        have hr6 : Rd w6 A6 s := hr6
        rw [show oL (some s) = s from rfl]
        have HSL := Lib.hid hsl
        have HRS := Lib.hid hRS
        have HLL := Lib.hid (fun i => lowL_length l s i)
        have HHL := Lib.hid (fun i => highL_length l s i)
        have CX := Lib.hid fun W Al cl Ah ch h h' => l20Box_c Al Ah (lowL l s l.length) (highL l s l.length) l.length cl ch W (lowL_length l s l.length) (highL_length l s l.length) h h' (by omega) hbd.out
        have HB1 := Lib.hid fun (h : boxB (lowL l s l.length) (highL l s l.length) l.length = false) => HRS.out.trans (closS_big h)
        have HB2 := Lib.hid fun (h : boxB (lowL l s l.length) (highL l s l.length) l.length = true) => HRS.out.trans (closS_yes h)
        have HBL := Lib.hid fun (h : boxB (lowL l s l.length) (highL l s l.length) l.length = true) => boxB_len h
        have HBX := Lib.hid fun (h : boxB (lowL l s l.length) (highL l s l.length) l.length = true) => boxR_yes h
        have HFL := Lib.hid fun (v : List Int) (h : v ∈ boxF (lowL l s l.length) (highL l s l.length) l.length) => boxF_len h
        have HROWS := Lib.hid (show clR ⟨r, c, b⟩ t l s = boxF (lowL l s l.length) (highL l s l.length) l.length from rfl)
        clear hRS hsc hsl CD1' CR' CB' CG' CP' hr3 hr5 mg
        go_wp2_with fail
        go_loopw [17, 18, 19] (fun lo hi i wr => ∃ (I : Nat), i = .int .i64 I ∧ I ≤ l.length ∧ Own wr w6.heap.size lo (lowL l s I) ∧ Own wr w6.heap.size hi (highL l s I) ∧ (∀ g, lo.ownBlock = some g → hi.ownBlock ≠ some g) ∧ Grows w6 wr) (fun _ _ i _ => l.length - (intOf i).toNat)
        case atStart => exact ⟨0, rfl, Nat.zero_le _, (Own.new_ w6 rfl (Nat.le_refl _)).alloc _, Own.new_ _ (by simp) (by simp), fun g h1 h2 => by simp [Value.ownBlock] at h1 h2; omega, by exact bel0⟩
        case round =>
          obtain ⟨I, rfl, hI, hlo, hhi, hne, hg⟩ := hrel
          obtain ⟨Al, cl, rfl, hrl, _⟩ := hlo.val
          obtain ⟨Ah, ch, rfl, hrh, _⟩ := hhi.val
          have HNE := Lib.hid hne
          have hsw := Below.size hg
          clear hne
          by_cases hlt : I < l.length
          · obtain ⟨ab, off, rfl, hab0, x0, x1⟩ := hr2 I hlt
            obtain ⟨bb, ob, rfl, hbb, hcb⟩ := hr6.at_ I (by rw [HSL.out]; exact hlt)
            have cb : wr.cell? ⟨bb, ob + I, none⟩ = some (.int .i64 (nth s I)) := (hg.cell (p := ⟨bb, ob + I, none⟩) hbb).trans hcb
            have i1 : (I : Int) < (l.length : Int) := by omega
            have i2 : (I : Int) < (s.length : Int) := by rw [HSL.out]; exact i1
            have hyb := HSC.out I (by rw [HSL.out]; exact hlt)
            have hfb := floorQ_bd (nthQ l I)
            have HL1 := Lib.hid (lowL_succ l s I)
            have HH1 := Lib.hid (highL_succ l s I)
            have hll := Lib.hid (HLL.out I)
            have hhl := Lib.hid (HHL.out I)
            have CF := Lib.hid fun W => sFloorQ_c (nthQ l I) W
            generalize floorQ (nthQ l I) = f at *
            generalize nthQ l I = q at *
            generalize nth s I = y at *
            generalize lowL l s I = F at *
            generalize highL l s I = G at *
            have k1 : IntKind.i64.wrap (f - y) = f - y := IntWalk.i64_in _ (by omega)
            have k2 : IntKind.i64.wrap (f + 1) = f + 1 := IntWalk.i64_in _ (by omega)
            have k3 : IntKind.i64.wrap (f + 1 + y) = f + 1 + y := IntWalk.i64_in _ (by omega)
            have hab : ab < w6.heap.size := hab0
            clear hrl hrh
            have HLO := Lib.hid fun g h => (World.ownsRow.lt hlo g h)
            have HHI := Lib.hid fun g h => (World.ownsRow.lt hhi g h)
            have z0 : wr.cell? ⟨ab, off + I * 2, none⟩ = some (.int .i64 q.1) := (hg.cell (p := ⟨ab, off + I * 2, none⟩) hab).trans x0
            have z1 : wr.cell? ⟨ab, off + I * 2 + 1, none⟩ = some (.int .i64 q.2) := (hg.cell (p := ⟨ab, off + I * 2 + 1, none⟩) hab).trans x1
            go_wp2_with fail
            (refine wp_region_heldL (fun W => W.cell? ⟨ab, off + I * 2, none⟩ = some (.int .i64 q.1) ∧ W.cell? ⟨ab, off + I * 2 + 1, none⟩ = some (.int .i64 q.2) ∧ W.cell? ⟨bb, ob + I, none⟩ = some (.int .i64 y)) (by kernel_rfl) (by ((try dsimp only); (first | exact clo_keepS x0 x1 hab hcb hbb (by exact bel1 gg7) | exact clo_keepS x0 x1 hab hcb hbb (by exact bel2 gi5 hg) | exact clo_keepS x0 x1 hab hcb hbb (by exact bel1 hg)))) (fun hHeld => ?_); refine heldL_take (i := 0) (v := _) (by rfl) (by kernel_rfl) (by kernel_rfl) (by kernel_rfl) (fun _ _ _ h => h) (Or.inl ⟨by rfl, fun wS hSw => by ((try dsimp only at hSw); go_simp; (try with_reducible rfl))⟩) (by assumption) ?_; simp only [Act.put, List.setIfInBounds_toArray, List.set_cons_zero, List.set_cons_succ]; refine heldL_take (i := 1) (v := _) (by rfl) (by kernel_rfl) (by kernel_rfl) (by kernel_rfl) (fun _ _ _ h => h) (Or.inl ⟨by rfl, fun wS hSw => by ((try dsimp only at hSw); go_simp; (try with_reducible rfl))⟩) (by assumption) ?_; simp only [Act.put, List.setIfInBounds_toArray, List.set_cons_zero, List.set_cons_succ]; refine heldL_take (i := 2) (v := _) (by rfl) (by kernel_rfl) (by kernel_rfl) (by kernel_rfl) (fun _ _ _ h => h) (Or.inl ⟨by rfl, fun wS hSw => by ((try dsimp only at hSw); go_simp; (try with_reducible rfl))⟩) (by assumption) ?_; simp only [Act.put, List.setIfInBounds_toArray, List.set_cons_zero, List.set_cons_succ]; refine heldL_take (i := 3) (v := _) (by rfl) (by kernel_rfl) (by kernel_rfl) (by kernel_rfl) (fun _ _ _ h => h) (Or.inl ⟨by rfl, fun wS hSw => by ((try dsimp only at hSw); go_simp; (try with_reducible rfl))⟩) (by assumption) ?_; simp only [Act.put, List.setIfInBounds_toArray, List.set_cons_zero, List.set_cons_succ]; refine heldL_take (i := 4) (v := _) (by rfl) (by kernel_rfl) (by kernel_rfl) (by kernel_rfl) (fun _ _ _ h => h) (Or.inl ⟨by rfl, fun wS hSw => by ((try dsimp only at hSw); go_simp; (try with_reducible rfl))⟩) (by assumption) ?_; simp only [Act.put, List.setIfInBounds_toArray, List.set_cons_zero, List.set_cons_succ]; refine heldL_take (i := 6) (v := _) (by rfl) (by kernel_rfl) (by kernel_rfl) (by kernel_rfl) (fun _ _ _ h => h) (Or.inl ⟨by rfl, fun wS hSw => by ((try dsimp only at hSw); go_simp; (try with_reducible rfl))⟩) (by assumption) ?_; simp only [Act.put, List.setIfInBounds_toArray, List.set_cons_zero, List.set_cons_succ]; refine heldL_take (i := 7) (v := _) (by rfl) (by kernel_rfl) (by kernel_rfl) (by kernel_rfl) (fun _ _ _ h => h) (Or.inl ⟨by rfl, fun wS hSw => by ((try dsimp only at hSw); go_simp; (try with_reducible rfl))⟩) (by assumption) ?_; simp only [Act.put, List.setIfInBounds_toArray, List.set_cons_zero, List.set_cons_succ]; refine heldL_take (i := 8) (v := _) (by rfl) (by kernel_rfl) (by kernel_rfl) (by kernel_rfl) (fun _ _ _ h => h) (Or.inl ⟨by rfl, fun wS hSw => by ((try dsimp only at hSw); go_simp; (try with_reducible rfl))⟩) (by assumption) ?_; simp only [Act.put, List.setIfInBounds_toArray, List.set_cons_zero, List.set_cons_succ]; refine heldL_take (i := 9) (v := _) (by rfl) (by kernel_rfl) (by kernel_rfl) (by kernel_rfl) (fun _ _ _ h => h) (Or.inl ⟨by rfl, fun wS hSw => by ((try dsimp only at hSw); go_simp; (try with_reducible rfl))⟩) (by assumption) ?_; simp only [Act.put, List.setIfInBounds_toArray, List.set_cons_zero, List.set_cons_succ]; refine heldL_step (i := 5) (by kernel_rfl) (by rfl) (fun K hK => ?_); go_simp; (refine (CF.out _).mono ?_; rintro e x5 ⟨rfl, g5⟩; have gi5 : Grows wr x5 := (by exact bel1 g5); have hs5 := Below.size gi5; have lo5 := hlo.grows gi5; have hi5 := hhi.grows gi5; clear g5) ; (try (go_wp2_with fail)); refine hK.out _ _ (by ((try dsimp only); (first | exact clo_keepS x0 x1 hab hcb hbb (by exact bel1 gg7) | exact clo_keepS x0 x1 hab hcb hbb (by exact bel2 gi5 hg) | exact clo_keepS x0 x1 hab hcb hbb (by exact bel1 hg)))) (fun hHeld => ?_); clear hK K; (try simp only [Act.put, List.setIfInBounds_toArray, List.set_cons_zero, List.set_cons_succ]); refine heldL_take (i := 10) (v := _) (by rfl) (by kernel_rfl) (by kernel_rfl) (by kernel_rfl) (fun _ _ _ h => h) (Or.inl ⟨by rfl, fun wS hSw => by ((try dsimp only at hSw); go_simp; (try with_reducible rfl))⟩) (by assumption) ?_; simp only [Act.put, List.setIfInBounds_toArray, List.set_cons_zero, List.set_cons_succ]; refine heldL_step (i := 11) (by kernel_rfl) (by rfl) (fun K hK => ?_); go_simp; refine hK.out _ _ (by ((try dsimp only); (first | exact clo_keepS x0 x1 hab hcb hbb (by exact bel1 gg7) | exact clo_keepS x0 x1 hab hcb hbb (by exact bel2 gi5 hg) | exact clo_keepS x0 x1 hab hcb hbb (by exact bel1 hg)))) (fun hHeld => ?_); clear hK K; (try simp only [Act.put, List.setIfInBounds_toArray, List.set_cons_zero, List.set_cons_succ]); refine heldL_step (i := 12) (by kernel_rfl) (by rfl) (fun K hK => ?_); (refine step_app1 rfl (.tmp 75) (.tmp 86) rfl _ (f - y) w6.heap.size _ F (by rfl) lo5 (by rfl) (by have := hll.out; omega) (by omega) ?_; intro v7 x7 lo7 hg7 hv7; have hs7 := hg7.size; have hi7 := hi5.other hg7 HNE.out; have ne7 := apart_app hi5 HNE.out hv7; have gg7 : Grows w6 x7 := Below.trans (show Grows w6 x5 by exact bel2 gi5 hg) (below_app lo5 (by omega) hg7); obtain ⟨A7, c7, rfl, _, _⟩ := lo7.val; clear hg7 hv7) ; refine hK.out _ _ (by ((try dsimp only); (first | exact clo_keepS x0 x1 hab hcb hbb (by exact bel1 gg7) | exact clo_keepS x0 x1 hab hcb hbb (by exact bel2 gi5 hg) | exact clo_keepS x0 x1 hab hcb hbb (by exact bel1 hg)))) (fun hHeld => ?_); clear hK K; (try simp only [Act.put, List.setIfInBounds_toArray, List.set_cons_zero, List.set_cons_succ]); refine heldL_take (i := 13) (v := _) (by rfl) (by kernel_rfl) (by kernel_rfl) (by kernel_rfl) (fun _ _ _ h => h) (Or.inl ⟨by rfl, fun wS hSw => by ((try dsimp only at hSw); go_simp; (try with_reducible rfl))⟩) (by assumption) ?_; simp only [Act.put, List.setIfInBounds_toArray, List.set_cons_zero, List.set_cons_succ]; refine wpAnyH_done (by kernel_rfl) ?_ _; refine NoPanic.normal ?_)
            go_wp2_with fail
            (refine wp_region_heldL (fun W => W.cell? ⟨ab, off + I * 2, none⟩ = some (.int .i64 q.1) ∧ W.cell? ⟨ab, off + I * 2 + 1, none⟩ = some (.int .i64 q.2) ∧ W.cell? ⟨bb, ob + I, none⟩ = some (.int .i64 y)) (by kernel_rfl) (by ((try dsimp only); (first | exact clo_keepS x0 x1 hab hcb hbb (by exact bel1 gg9) | exact clo_keepS x0 x1 hab hcb hbb (by exact bel2 gi8 gg7) | exact clo_keepS x0 x1 hab hcb hbb (by exact bel1 gg7)))) (fun hHeld => ?_); refine heldL_take (i := 0) (v := _) (by rfl) (by kernel_rfl) (by kernel_rfl) (by kernel_rfl) (fun _ _ _ h => h) (Or.inl ⟨by rfl, fun wS hSw => by ((try dsimp only at hSw); go_simp; (try with_reducible rfl))⟩) (by assumption) ?_; simp only [Act.put, List.setIfInBounds_toArray, List.set_cons_zero, List.set_cons_succ]; refine heldL_take (i := 1) (v := _) (by rfl) (by kernel_rfl) (by kernel_rfl) (by kernel_rfl) (fun _ _ _ h => h) (Or.inl ⟨by rfl, fun wS hSw => by ((try dsimp only at hSw); go_simp; (try with_reducible rfl))⟩) (by assumption) ?_; simp only [Act.put, List.setIfInBounds_toArray, List.set_cons_zero, List.set_cons_succ]; refine heldL_take (i := 2) (v := _) (by rfl) (by kernel_rfl) (by kernel_rfl) (by kernel_rfl) (fun _ _ _ h => h) (Or.inl ⟨by rfl, fun wS hSw => by ((try dsimp only at hSw); go_simp; (try with_reducible rfl))⟩) (by assumption) ?_; simp only [Act.put, List.setIfInBounds_toArray, List.set_cons_zero, List.set_cons_succ]; refine heldL_take (i := 3) (v := _) (by rfl) (by kernel_rfl) (by kernel_rfl) (by kernel_rfl) (fun _ _ _ h => h) (Or.inl ⟨by rfl, fun wS hSw => by ((try dsimp only at hSw); go_simp; (try with_reducible rfl))⟩) (by assumption) ?_; simp only [Act.put, List.setIfInBounds_toArray, List.set_cons_zero, List.set_cons_succ]; refine heldL_take (i := 4) (v := _) (by rfl) (by kernel_rfl) (by kernel_rfl) (by kernel_rfl) (fun _ _ _ h => h) (Or.inl ⟨by rfl, fun wS hSw => by ((try dsimp only at hSw); go_simp; (try with_reducible rfl))⟩) (by assumption) ?_; simp only [Act.put, List.setIfInBounds_toArray, List.set_cons_zero, List.set_cons_succ]; refine heldL_take (i := 7) (v := _) (by rfl) (by kernel_rfl) (by kernel_rfl) (by kernel_rfl) (fun _ _ _ h => h) (Or.inl ⟨by rfl, fun wS hSw => by ((try dsimp only at hSw); go_simp; (try with_reducible rfl))⟩) (by assumption) ?_; simp only [Act.put, List.setIfInBounds_toArray, List.set_cons_zero, List.set_cons_succ]; refine heldL_take (i := 8) (v := _) (by rfl) (by kernel_rfl) (by kernel_rfl) (by kernel_rfl) (fun _ _ _ h => h) (Or.inl ⟨by rfl, fun wS hSw => by ((try dsimp only at hSw); go_simp; (try with_reducible rfl))⟩) (by assumption) ?_; simp only [Act.put, List.setIfInBounds_toArray, List.set_cons_zero, List.set_cons_succ]; refine heldL_take (i := 9) (v := _) (by rfl) (by kernel_rfl) (by kernel_rfl) (by kernel_rfl) (fun _ _ _ h => h) (Or.inl ⟨by rfl, fun wS hSw => by ((try dsimp only at hSw); go_simp; (try with_reducible rfl))⟩) (by assumption) ?_; simp only [Act.put, List.setIfInBounds_toArray, List.set_cons_zero, List.set_cons_succ]; refine heldL_take (i := 10) (v := _) (by rfl) (by kernel_rfl) (by kernel_rfl) (by kernel_rfl) (fun _ _ _ h => h) (Or.inl ⟨by rfl, fun wS hSw => by ((try dsimp only at hSw); go_simp; (try with_reducible rfl))⟩) (by assumption) ?_; simp only [Act.put, List.setIfInBounds_toArray, List.set_cons_zero, List.set_cons_succ]; refine heldL_step (i := 5) (by kernel_rfl) (by rfl) (fun K hK => ?_); go_simp; (refine (CF.out _).mono ?_; rintro e x8 ⟨rfl, g8⟩; have gi8 : Grows x7 x8 := (by exact bel1 g8); have hs8 := Below.size gi8; have lo8 := lo7.grows gi8; have hi8 := hi7.grows gi8; clear g8) ; (try (go_wp2_with fail)); refine hK.out _ _ (by ((try dsimp only); (first | exact clo_keepS x0 x1 hab hcb hbb (by exact bel1 gg9) | exact clo_keepS x0 x1 hab hcb hbb (by exact bel2 gi8 gg7) | exact clo_keepS x0 x1 hab hcb hbb (by exact bel1 gg7)))) (fun hHeld => ?_); clear hK K; (try simp only [Act.put, List.setIfInBounds_toArray, List.set_cons_zero, List.set_cons_succ]); refine heldL_take (i := 6) (v := _) (by rfl) (by kernel_rfl) (by kernel_rfl) (by kernel_rfl) (fun _ _ _ h => h) (Or.inl ⟨by rfl, fun wS hSw => by ((try dsimp only at hSw); go_simp; (try with_reducible rfl))⟩) (by assumption) ?_; simp only [Act.put, List.setIfInBounds_toArray, List.set_cons_zero, List.set_cons_succ]; refine heldL_take (i := 11) (v := _) (by rfl) (by kernel_rfl) (by kernel_rfl) (by kernel_rfl) (fun _ _ _ h => h) (Or.inl ⟨by rfl, fun wS hSw => by ((try dsimp only at hSw); go_simp; (try with_reducible rfl))⟩) (by assumption) ?_; simp only [Act.put, List.setIfInBounds_toArray, List.set_cons_zero, List.set_cons_succ]; refine heldL_step (i := 12) (by kernel_rfl) (by rfl) (fun K hK => ?_); go_simp; refine hK.out _ _ (by ((try dsimp only); (first | exact clo_keepS x0 x1 hab hcb hbb (by exact bel1 gg9) | exact clo_keepS x0 x1 hab hcb hbb (by exact bel2 gi8 gg7) | exact clo_keepS x0 x1 hab hcb hbb (by exact bel1 gg7)))) (fun hHeld => ?_); clear hK K; (try simp only [Act.put, List.setIfInBounds_toArray, List.set_cons_zero, List.set_cons_succ]); refine heldL_step (i := 13) (by kernel_rfl) (by rfl) (fun K hK => ?_); (refine step_app1 rfl (.tmp 88) (.tmp 100) rfl _ (f + 1 + y) w6.heap.size _ G (by rfl) hi8 (by rfl) (by have := hhl.out; omega) (by omega) ?_; intro v9 x9 hi9 hg9 hv9; have hs9 := hg9.size; have lo9 := lo8.other hg9 (fun g h1 h2 => ne7 g h2 h1); have ne9 := apart_app lo8 (fun g h1 h2 => ne7 g h2 h1) hv9; have gg9 : Grows w6 x9 := Below.trans (show Grows w6 x8 by exact bel2 gi8 gg7) (below_app hi8 (by omega) hg9); obtain ⟨A9, c9, rfl, _, _⟩ := hi9.val; clear hg9 hv9) ; refine hK.out _ _ (by ((try dsimp only); (first | exact clo_keepS x0 x1 hab hcb hbb (by exact bel1 gg9) | exact clo_keepS x0 x1 hab hcb hbb (by exact bel2 gi8 gg7) | exact clo_keepS x0 x1 hab hcb hbb (by exact bel1 gg7)))) (fun hHeld => ?_); clear hK K; (try simp only [Act.put, List.setIfInBounds_toArray, List.set_cons_zero, List.set_cons_succ]); refine heldL_take (i := 14) (v := _) (by rfl) (by kernel_rfl) (by kernel_rfl) (by kernel_rfl) (fun _ _ _ h => h) (Or.inl ⟨by rfl, fun wS hSw => by ((try dsimp only at hSw); go_simp; (try with_reducible rfl))⟩) (by assumption) ?_; simp only [Act.put, List.setIfInBounds_toArray, List.set_cons_zero, List.set_cons_succ]; refine wpAnyH_done (by kernel_rfl) ?_ _; refine NoPanic.normal ?_)
            have NE9 := Lib.hid ne9
            clear ne9 ne7
            go_wp2_with fail
            go_round
            case rel =>
              have e1 : (F ++ [f - y]).length = F.length + 1 := by simp
              have e2 : (G ++ [f + 1 + y]).length = G.length + 1 := by simp
              have NE9' := NE9.out
              rw [e1] at lo9 NE9'
              rw [e2] at hi9 NE9'
              exact ⟨I + 1, by go_num, by omega, by rw [HL1.out]; exact lo9, by rw [HH1.out]; exact hi9, fun g h1 h2 => NE9' g h2 h1, gg9⟩
            case measure => simp [intOf]; omega
          · obtain rfl : I = l.length := by omega
            obtain ⟨w7, rfl⟩ : ∃ x : World, x = wr := ⟨_, rfl⟩
            have g_w7 : Grows w6 w7 := hg
            rw [HLL.out, HHL.out]
            clear hlo hhi
            have ma_0 := ma.c0; have ma_1 := ma.c1; have ma_2 := ma.c2; have ma_l := ma.lt; have ma_f := ma.fz
            have s_w7 := Below.size g_w7; (try simp at s_w7)
            clear ma_0 ma_1 ma_2 ma_l ma_f
            replace ma := ma.grows (w' := w7) (by exact bel1 g_w7)
            have ma_0 := ma.c0; have ma_1 := ma.c1; have ma_2 := ma.c2; have ma_l := ma.lt; have ma_f := ma.fz
            replace ha1 := ha1.grows (w' := w7) (by exact bel1 g_w7)
            replace ht1 := ht1.grows (w' := w7) (by exact bel1 g_w7)
            replace HG : Grows w w7 := by exact bel2 g_w7 HG
            have h_w7 := Below.size HG
            go_wp2_with fail
            refine (CX.out _ _ _ _ _ (by exact Rd.grows hrl (by exact bel0)) (by exact Rd.grows hrh (by exact bel0))).mono ?_; rintro e w8 ⟨v8, vs, rfl, o8, g_w8⟩
            have s_w8 := Below.size g_w8; (try simp at s_w8)
            clear ma_0 ma_1 ma_2 ma_l ma_f
            replace ma := ma.grows (w' := w8) (by exact bel1 g_w8)
            have ma_0 := ma.c0; have ma_1 := ma.c1; have ma_2 := ma.c2; have ma_l := ma.lt; have ma_f := ma.fz
            replace ha1 := ha1.grows (w' := w8) (by exact bel1 g_w8)
            replace ht1 := ht1.grows (w' := w8) (by exact bel1 g_w8)
            replace HG : Grows w w8 := by exact bel2 g_w8 HG
            have h_w8 := Below.size HG
            generalize boxB (lowL l s l.length) (highL l s l.length) l.length = OB at *
            cases OB
            · obtain rfl : RES = none := HB1.out rfl
              go_wp2_with fail
              refine bodyPost_ret (v := .tuple #[.slice (some ⟨w8.heap.size, 0, none⟩) 0 0, .int .i64 0, .bool false]) ?_ rfl ?_
              · simp [results, Try.results15, go_sem]
              · exact ⟨_, _, rfl, rdR_nilC _ _, by exact bel1 HG⟩
            · have hRES := HB2.out rfl
              have hb4 := HBL.out rfl
              rw [HBX.out rfl] at o8
              unfold clO at hRES
              rw [HROWS.out] at hRES
              clear HB1 HB2 HBL HBX HROWS
              generalize boxF (lowL l s l.length) (highL l s l.length) l.length = rows at *
              obtain ⟨A8, c8, rfl, _, _⟩ := o8.val
              have HRES := Lib.hid hRES
              rw [← HD.out] at HRES
              clear hRES hrl hrh
              have HJ := Lib.hid fun I => clJ_in (d := dF ⟨r, c, b⟩ t) (ok := dK ⟨r, c, b⟩ t) (rows := rows) (best := D) (i := I)
              go_wp2_with fail
              go_loopw [11, 22, 23] (fun bs o i wr => ∃ (I : Nat), i = .int .i64 I ∧ I ≤ rows.length ∧ bs = .int .i64 (clJ (dF ⟨r, c, b⟩ t) (dK ⟨r, c, b⟩ t) rows D I).2 ∧ OwnV 24 wr w8.heap.size o ((clJ (dF ⟨r, c, b⟩ t) (dK ⟨r, c, b⟩ t) rows D I).1.map fun j => vs.getD j (.slice none 0 0)) ∧ Grows w8 wr) (fun _ _ i _ => rows.length - (intOf i).toNat)
              case atStart => exact ⟨0, rfl, Nat.zero_le _, rfl, OwnV.new_ _ w8 rfl (Nat.le_refl _), by exact bel0⟩
              case round =>
                obtain ⟨I, rfl, hI, rfl, ho, hg9⟩ := hrel
                have hsw9 := Below.size hg9
                by_cases hlt : I < rows.length
                · have i1 : (I : Int) < (rows.length : Int) := by omega
                  obtain ⟨b8, p8, A10, c10, rfl, hb8, hc8, hr10, he10, how⟩ := (o8.grows hg9).cellAt hlt
                  have hxl : (rows.getD I []).length ≤ 6 := by rw [HFL.out _ (rowsD_mem hlt)]; exact hl6
                  have ma9 := ma.grows hg9
                  have ha9 := ha1.grows hg9
                  have ht9 := ht1.grows hg9
                  obtain ⟨m0, m1, m2⟩ := ma9.cells
                  have y0 := ma9.ext.1; have y1 := ma9.ext.2.1; have y2 := ma9.ext.2.2; have y3 := ext_is hc8
                  have hjl := (HJ.out I).2.2
                  have HNX := Lib.hid (show clJ (dF ⟨r, c, b⟩ t) (dK ⟨r, c, b⟩ t) rows D (I + 1) = clT (dF ⟨r, c, b⟩ t (rows.getD I [])) (dK ⟨r, c, b⟩ t (rows.getD I [])) (clJ (dF ⟨r, c, b⟩ t) (dK ⟨r, c, b⟩ t) rows D I) I from rfl)
                  have CDX := fun W h hx h' => CD.out A10 (rows.getD I []) (rows.getD I []).length c10 W h hx h' rfl (by omega)
                  change ∀ W h hx h', Calls Try.prog 44 #[.agg #[.int .i64 r, .int .i64 c, .slice A n cap], .slice A10 (rows.getD I []).length c10, .slice T k ct] W fun e w' => e = .returned (.tuple #[.int .i64 (dF ⟨r, c, b⟩ t (rows.getD I [])), .bool (dK ⟨r, c, b⟩ t (rows.getD I []))]) ∧ Grows W w' at CDX
                  generalize dF ⟨r, c, b⟩ t (rows.getD I []) = dx at *
                  generalize dK ⟨r, c, b⟩ t (rows.getD I []) = okx at *
                  generalize hJ : clJ (dF ⟨r, c, b⟩ t) (dK ⟨r, c, b⟩ t) rows D I = J at *
                  obtain ⟨js, bs⟩ := J
                  simp only at hjl ho ⊢
                  generalize rows.getD I [] = x at *
                  have CDX' := Lib.hid CDX
                  have HE10 := Lib.hid he10
                  clear CDX hJ he10
                  cases okx
                  · have HN := Lib.hid (HNX.out.trans clT_no)
                    go_wp2_with fail
                    ((refine wp_region_ext (by kernel_rfl) (by kernel_rfl) ?_); (repeat (go_big_quiet_step ((go_at_call 44; with_reducible exact extC (CDX'.out _ (Rd.ext ha9 _) (Rd.ext hr10 _) (Rd.ext ht9 _)))))); refine wpQuiet_nil ?_; rintro x5 ⟨x50, hx50⟩; have g5 := grows_of_ext hx50; clear hx50 x50); have hc9 : x5.cell? ⟨b8, p8 + I, none⟩ = some (.slice A10 x.length c10) := (g5.cell (p := ⟨b8, p8 + I, none⟩) hb8).trans hc8
                    go_wp2_with fail
                    go_round
                    case rel => exact ⟨I + 1, by go_num, by omega, by rw [HN.out], by rw [HN.out]; exact ho.grows g5, by exact bel2 g5 hg9⟩
                    case measure => simp [intOf]; omega
                  · by_cases h1 : bs < dx
                    · have HN := Lib.hid (HNX.out.trans (clT_far (st := (js, bs)) h1))
                      go_wp2_with fail
                      ((refine wp_region_ext (by kernel_rfl) (by kernel_rfl) ?_); (repeat (go_big_quiet_step ((go_at_call 44; with_reducible exact extC (CDX'.out _ (Rd.ext ha9 _) (Rd.ext hr10 _) (Rd.ext ht9 _)))))); refine wpQuiet_nil ?_; rintro x5 ⟨x50, hx50⟩; have g5 := grows_of_ext hx50; clear hx50 x50); have hc9 : x5.cell? ⟨b8, p8 + I, none⟩ = some (.slice A10 x.length c10) := (g5.cell (p := ⟨b8, p8 + I, none⟩) hb8).trans hc8
                      go_wp2_with fail
                      go_round
                      case rel => exact ⟨I + 1, by go_num, by omega, by rw [HN.out], by rw [HN.out]; exact ho.grows g5, by exact bel2 g5 hg9⟩
                      case measure => simp [intOf]; omega
                    · by_cases h2 : dx < bs
                      · have HN := Lib.hid (HNX.out.trans (clT_less (st := (js, bs)) h2))
                        go_wp2_with fail
                        ((refine wp_region_ext (by kernel_rfl) (by kernel_rfl) ?_); (repeat (go_big_quiet_step ((go_at_call 44; with_reducible exact extC (CDX'.out _ (Rd.ext ha9 _) (Rd.ext hr10 _) (Rd.ext ht9 _)))))); refine wpQuiet_nil ?_; rintro x5 ⟨x50, hx50⟩; have g5 := grows_of_ext hx50; clear hx50 x50); have hc9 : x5.cell? ⟨b8, p8 + I, none⟩ = some (.slice A10 x.length c10) := (g5.cell (p := ⟨b8, p8 + I, none⟩) hb8).trans hc8
                        have hs5 := Below.size g5
                        have hb9 : b8 < x5.heap.size := by omega
                        have on := (OwnV.new_ 24 x5 rfl (Nat.le_refl _)).less (B' := w8.heap.size) (by omega)
                        go_wp2_with (at_builtin; (refine wpList_appX1 rfl (.tmp 142) (.tmp 147) rfl (x5.alloc (.cells #[] 24)) (.slice A10 x.length c10) rfl w8.heap.size _ [] (by rfl) on (by first | rfl | (simp [go_sem]; done) | (simp; rfl) | (show Value.slice (some ⟨x5.heap.size + 1, 0, none⟩) 1 1 = _; simp)) (by simp) (by simp; omega) ?_); intro v7 x7 o7 hg7 hv7)
                        obtain ⟨A7, c7, hv7e, _, _⟩ := o7.val
                        have g7 : Below w8.heap.size x5 x7 := Below.trans (show Below w8.heap.size x5 (x5.alloc (.cells #[] 24)) by exact bel0) (below_appR on (by simp; omega) hg7)
                        subst hv7e
                        clear hg7 hv7
                        go_wp2_with fail
                        go_round
                        case rel => exact ⟨I + 1, by go_num, by omega, by rw [HN.out], by (rw [HN.out]; show OwnV _ _ _ _ [vs.getD I (.slice none 0 0)]; rw [HE10.out]; exact o7), Below.trans (show Grows w8 x5 by exact bel2 g5 hg9) g7⟩
                        case measure => simp [intOf]; omega
                      · obtain rfl : dx = bs := by omega
                        have HN := Lib.hid (HNX.out.trans (clT_same (st := (js, dx)) rfl))
                        go_wp2_with fail
                        ((refine wp_region_ext (by kernel_rfl) (by kernel_rfl) ?_); (repeat (go_big_quiet_step ((go_at_call 44; with_reducible exact extC (CDX'.out _ (Rd.ext ha9 _) (Rd.ext hr10 _) (Rd.ext ht9 _)))))); refine wpQuiet_nil ?_; rintro x5 ⟨x50, hx50⟩; have g5 := grows_of_ext hx50; clear hx50 x50); have hc9 : x5.cell? ⟨b8, p8 + I, none⟩ = some (.slice A10 x.length c10) := (g5.cell (p := ⟨b8, p8 + I, none⟩) hb8).trans hc8
                        have hs5 := Below.size g5
                        have on := ho.grows g5
                        obtain ⟨A11, c11, hoe, _, _⟩ := ho.val
                        subst hoe
                        go_wp2_with (at_builtin; refine wpList_appX1 rfl (.tmp 142) (.tmp 147) rfl _ (.slice A10 x.length c10) rfl w8.heap.size _ (js.map fun j => vs.getD j (.slice none 0 0)) (by rfl) on (by first | rfl | (simp [go_sem]; done) | (simp; rfl)) (by rw [List.length_map]; omega) (by omega) ?_; intro v7 x7 o7 hg7 hv7)
                        obtain ⟨A7, c7, hv7e, _, _⟩ := o7.val
                        have g7 : Below w8.heap.size x5 x7 := below_appR on (by omega) hg7
                        subst hv7e
                        clear hg7 hv7
                        go_wp2_with fail
                        go_round
                        case rel => exact ⟨I + 1, by go_num, by omega, by rw [HN.out], by (rw [HN.out, List.map_append]; show OwnV _ _ _ _ (_ ++ [vs.getD I (.slice none 0 0)]); rw [HE10.out]; exact o7), Below.trans (show Grows w8 x5 by exact bel2 g5 hg9) g7⟩
                        case measure => simp [intOf]; omega
                · obtain rfl : I = rows.length := by omega
                  have hp := RowsO.pick (H := w8.heap.size) (o8.grows hg9) ho (by omega) (fun j hj => (HJ.out _).1 j hj) (HJ.out _).2.1 (fun g h => (World.ownsRow.lt ho g h).1) (fun i u hu g h => (o8.lt hu h).2)
                  obtain ⟨A11, c11, hoe, hrp, _⟩ := hp.val
                  subst hoe
                  have hRES := HRES.out
                  subst hRES
                  go_wp2_with fail
                  refine bodyPost_ret (v := .tuple #[.slice A11 (List.map (fun j => rows.getD j []) (clJ (dF ⟨r, c, b⟩ t) (dK ⟨r, c, b⟩ t) rows D rows.length).1).length c11, .int .i64 (clJ (dF ⟨r, c, b⟩ t) (dK ⟨r, c, b⟩ t) rows D rows.length).2, .bool true]) ?_ rfl ?_
                  · (simp [results, Try.results15, go_sem] <;> rfl)
                  · exact ⟨_, _, rfl, hrp, by exact bel2 hg9 HG⟩
end
end Go.Proofs.Ythajmffhgbenpaa
