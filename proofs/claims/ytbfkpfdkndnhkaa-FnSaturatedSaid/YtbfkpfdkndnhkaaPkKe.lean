/- Contracts and lemmas, put together. -/
import Derived.Test.YtbfkpfdkndnhkaaPkDs
import Derived.Test.YtbfkpfdkndnhkaaPkE
import Derived.Test.YtbfkpfdkndnhkaaPkK
import Derived.Test.YtbfkpfdkndnhkaaPkT
/- Contract: the reduced echelon form over the rational numbers, the program's. -/
namespace Go.Proofs.Ytbfkpfdkndnhkaa
set_option linter.unusedSimpArgs false
set_option linter.unusedVariables false
open Go.RowKit
set_option linter.unusedVariables false

/-- what the function answers: an echelon form, or that there is none -/
def EchRet (m : MX) (w : World) (e : Ending) (w' : World) : Prop :=
  ∃ (ok : Bool) (t : Nat) (r' c' : Int) (V : Option Addr) (cv : Nat) (a : List Int) (P : Option Addr) (cp : Nat), e = .returned (.tuple #[.agg #[.int .i64 r', .int .i64 c', .slice V a.length cv], .slice P t cp, .bool ok]) ∧
    (ok = true → EchO m t a ∧ r' = m.r ∧ c' = m.c) ∧ Rd w' V a ∧ a.length ≤ cv ∧ cv ≤ 9223372036854775807 ∧ a.length ≤ 576 ∧ t ≤ 24 ∧ Grows w w'
theorem E2.ret {R C t : Nat} {L m : List Int} (h : E2 R C L t C m) (hm : isMat R C L = true) : EchO ⟨R, C, L⟩ t m := by
  obtain ⟨p, hp⟩ := h.ech
  exact ⟨R, C, L, p, rfl, hm, h.len, hp⟩
section
set_option maxHeartbeats 8000000
set_option maxRecDepth 100000
theorem iEch_c (r c : Int) (A : Option Addr) (l : List Int) (n cap : Nat) (w : World) (hn : l.length = n) (ha : Rd w A l) (hl : n ≤ 1099511627776) :
    Calls Try.prog 50 #[.agg #[.int .i64 r, .int .i64 c, .slice A n cap]] w (EchRet ⟨r, c, l⟩ w) := by
  have CM := fun W h => iIsMatrix_c r c A l n cap W hn h hl
  have CC := Lib.hid fun W h => copyM_c r c A l n cap W hn h hl
  obtain ⟨w1, hw1, mg, mr, hs1, g01⟩ := one_mat w r c (.slice A n cap)
  have HW1 := Lib.hid hw1
  have hsw1 : w.heap.size + 2 ≤ w1.heap.size := by omega
  have ha1 := ha.grows g01
  have h_w1 := Below.size g01
  obtain ⟨q, hq⟩ : ∃ q, q = isMat r c l := ⟨_, rfl⟩
  rw [← hq] at CM
  have HQ := Lib.hid hq
  have CM' := Lib.hid CM
  have HG : Grows w w1 := g01
  clear hw1 CM hq
  go_enter Try.func50, Try.ntmps50
  go_wp2_with fail
  rw [← HW1.out]
  have mg_0 := mg.c0; have mg_1 := mg.c1; have mg_2 := mg.c2; have mg_l := mg.lt; have mg_f := mg.fz
  have mr_0 := mr.c0; have mr_1 := mr.c1; have mr_2 := mr.c2; have mr_l := mr.lt; have mr_f := mr.fz
  refine (CM'.out _ (by exact Rd.grows ha1 (by exact bel0))).mono ?_; rintro e w2 ⟨rfl, g_w2⟩
  have s_w2 := Below.size g_w2; (try simp at s_w2)
  clear mg_0 mg_1 mg_2 mg_l mg_f
  replace mg := mg.grows (w' := w2) (by exact bel1 g_w2)
  have mg_0 := mg.c0; have mg_1 := mg.c1; have mg_2 := mg.c2; have mg_l := mg.lt; have mg_f := mg.fz
  clear mr_0 mr_1 mr_2 mr_l mr_f
  replace mr := mr.grows (w' := w2) (by exact bel1 g_w2)
  have mr_0 := mr.c0; have mr_1 := mr.c1; have mr_2 := mr.c2; have mr_l := mr.lt; have mr_f := mr.fz
  replace ha1 := ha1.grows (w' := w2) (by exact bel1 g_w2)
  replace HG : Grows w w2 := by exact bel2 g_w2 HG
  have h_w2 := Below.size HG
  cases q
  · go_wp2_with fail
    refine bodyPost_ret (v := .tuple #[.agg #[.int .i64 0, .int .i64 0, .slice none 0 0], .slice (some ⟨w2.heap.size, 0, none⟩) 0 0, .bool false]) ?_ rfl ?_
    · simp [results, Try.results50, go_sem, mr_0, mr_1, mr_2, mr_f, mr_l]
    · exact ⟨false, 0, 0, 0, none, 0, [], some ⟨w2.heap.size, 0, none⟩, 0, rfl, (fun h => by cases h), Rd.nil _ _, Nat.le_refl _, by omega, by simp, by omega, by exact bel1 HG⟩
  · have hm := HQ.out.symm
    obtain ⟨R, C, hR0, hC0, hR, hC, hlen, hnum⟩ := isMat_nat hm
    subst hR0 hC0
    have HM := Lib.hid hm
    have E0 := Lib.hid (E1.zero hlen ((allNum_iff l).2 hnum))
    have hnl : n = R * C := by omega
    have HNL := Lib.hid hnl
    have HN := Lib.hid hn
    have hRC : R * C ≤ 576 := Nat.mul_le_mul hR hC
    have hR' : (R : Int) ≤ 24 := by omega
    have hC' : (C : Int) ≤ 24 := by omega
    clear hm hlen hnum hnl hn HQ CM'
    go_wp2_with fail
    refine (CC.out _ (by exact Rd.grows ha1 (by exact bel0))).mono ?_; rintro e w3 ⟨v3, rfl, o3, g_w3⟩
    have s_w3 := Below.size g_w3; (try simp at s_w3)
    clear mg_0 mg_1 mg_2 mg_l mg_f
    replace mg := mg.grows (w' := w3) (by exact bel1 g_w3)
    have mg_0 := mg.c0; have mg_1 := mg.c1; have mg_2 := mg.c2; have mg_l := mg.lt; have mg_f := mg.fz
    clear mr_0 mr_1 mr_2 mr_l mr_f
    replace mr := mr.grows (w' := w3) (by exact bel1 g_w3)
    have mr_0 := mr.c0; have mr_1 := mr.c1; have mr_2 := mr.c2; have mr_l := mr.lt; have mr_f := mr.fz
    replace ha1 := ha1.grows (w' := w3) (by exact bel1 g_w3)
    replace HG : Grows w w3 := by exact bel2 g_w3 HG
    have h_w3 := Below.size HG
    obtain ⟨V, cv, rfl, _, _⟩ := o3.val
    have o3 : Own w3 w2.heap.size (.slice V l.length cv) l := o3
    rw [HN.out] at o3 ⊢
    have hVB := fun g e => World.ownsRow.lt o3 g e
    obtain ⟨w4, hw4⟩ : ∃ w4, w4 = (w3.alloc (.cells #[.int .i64 R, .int .i64 C, .slice V n cv] 26)).alloc (.cells #[] 3) := ⟨_, rfl⟩
    have g34 : Grows w3 w4 := by rw [hw4]; exact bel0
    have ma : MBox w4 w3.heap.size R C (.slice V n cv) := by rw [hw4]; exact (MBox.mk_ _ _ _ _ _).alloc _
    have op : Own w4 (w3.heap.size + 1) (.slice (some ⟨w3.heap.size + 1, 0, none⟩) 0 0) [] := by rw [hw4]; exact Own.new_ _ (by simp) (Nat.le_refl _)
    have o4 := o3.grows g34
    have hs4 : w4.heap.size = w3.heap.size + 2 := by rw [hw4]; simp
    have HW4 := Lib.hid hw4
    clear hw4 o3
    have s_w4 := Below.size g34; (try simp at s_w4)
    clear mg_0 mg_1 mg_2 mg_l mg_f
    replace mg := mg.grows (w' := w4) (by exact bel1 g34)
    have mg_0 := mg.c0; have mg_1 := mg.c1; have mg_2 := mg.c2; have mg_l := mg.lt; have mg_f := mg.fz
    clear mr_0 mr_1 mr_2 mr_l mr_f
    replace mr := mr.grows (w' := w4) (by exact bel1 g34)
    have mr_0 := mr.c0; have mr_1 := mr.c1; have mr_2 := mr.c2; have mr_l := mr.lt; have mr_f := mr.fz
    replace ha1 := ha1.grows (w' := w4) (by exact bel1 g34)
    replace HG : Grows w w4 := by exact bel2 g34 HG
    have h_w4 := Below.size HG
    go_wp2_with fail
    rw [← HW4.out]
    obtain ⟨-, hcv, hcv2⟩ := o4.caps
    have HIC := Lib.hid fun i (hi : i < R) => (show i * C ≤ 576 from Nat.mul_le_mul (show i ≤ 24 by omega) hC)
    have HIX := Lib.hid fun i b (hi : i < R) (hb : b < C) => (show i * C + b < n by rw [HNL.out]; exact idx_lt hi hb)
    have CROW := Lib.hid fun (m : List Int) (hl : m.length = n) (i : Nat) (hi : i < R) W => row_c R C V m n cv i i W rfl hl hcv hcv2 (by rw [HNL.out]; exact Nat.mul_le_mul_right C hi) (by omega) (by omega)
    have CPRM := Lib.hid fun (m : List Int) (i : Nat) W (ho : Own W w2.heap.size (.slice V n cv) m) (hnum : allNum m = true) (hi : i < R) => prim_c R C V m n cv i w2.heap.size W HNL.out hR hC ho hnum hi
    have CAT := Lib.hid fun (m : List Int) (hl : m.length = n) (i j : Nat) (hi : i < R) (hj : j < C) W h => at_c R C V m n cv i j W hl h (castMul i C) (by have := castMulLe (HIC.out i hi); omega) (castPos i C j) (castLt (by rw [hl]; exact HIX.out i j hi hj)) (by rw [hl]; omega)
    have HVL := Lib.hid fun g (e : (Value.slice V n cv).ownBlock = some g) => hVB g e
    have HS4 := Lib.hid hs4
    clear mg_0 mg_1 mg_2 mg_l mg_f
    clear hVB ha1 g34 mg hs4
    go_loopw [7] (fun s7 wr => ∃ (I : Nat) (m : List Int), s7 = .int .i64 (I : Nat) ∧ I ≤ R ∧ RowKit.Hid (E1 R C l I m) ∧ Own wr w2.heap.size (.slice V n cv) m ∧ Mv (fun g => (Value.slice V n cv).ownBlock = some g) w4 wr) (fun i _ => R - (intOf i).toNat)
    case atStart => exact ⟨0, l, rfl, Nat.zero_le _, E0, o4, Mv.refl _⟩
    case round =>
      clear mr_0 mr_1 mr_2 mr_l mr_f o4
      obtain ⟨I, m, rfl, hI, HE, om, mv⟩ := hrel
      obtain ⟨w5, rfl⟩ : ∃ x : World, x = wr := ⟨_, rfl⟩
      have s5 := mv.size
      have ma5 := ma.mv mv (fun e => by have := HVL.out _ e; omega)
      obtain ⟨m0, m1, m2⟩ := ma5.cells
      have mf := ma5.fz
      have ml := ma5.lt
      by_cases hlt : I < R
      · have i1 : (I : Int) < (R : Int) := by omega
        have CR1 := Lib.hid fun W => CROW.out m (HE.out.len.trans HNL.out.symm) I hlt W
        have CP1 := Lib.hid fun W ho => CPRM.out m I W ho HE.out.num hlt
        go_wp2_with fail
        refine (CR1.out _).mono ?_; rintro e w6 ⟨rfl, g6⟩
        go_wp2_with fail
        refine (CP1.out _ (om.grows g6)).mono ?_; rintro e w7 ⟨m', rfl, o7, P, g7⟩
        have HE' := Lib.hid (HE.out.step P hlt)
        have mv7 := (mv.right g6).own g7 (fun k e => .inr e)
        go_wp2_with fail
        go_round
        case rel => exact ⟨I + 1, m', by go_num, by omega, HE', o7, mv7⟩
        case measure => simp [intOf]; omega
      · obtain rfl : R = I := by omega
        have i1 : ¬ (R : Int) < (R : Int) := by omega
        have E20 := Lib.hid HE.out.all
        have mr5 := mr.mv mv (fun e => by have := HVL.out _ e; omega)
        have op5 := op.mv mv (fun g e e2 => by have := HVL.out _ e2; have := World.ownsRow.lt op g e; omega)
        have hs5 : w3.heap.size + 2 ≤ w5.heap.size := by have := HS4.out; omega
        have HB5 : Below w.heap.size w w5 := Below.trans HG (Mv.below mv (by omega) (fun g e => by have := HVL.out _ e; omega))
        clear HE E0 mr op mv hlt
        go_upto_block 1 with fail
        go_loopw [6, 8] (fun s6 s8 wr => ∃ (J t : Nat) (m pv : List Int) (P : Option Addr) (cp : Nat), s8 = .int .i64 (J : Nat) ∧ s6 = .slice P t cp ∧ J ≤ C ∧ RowKit.Hid (pv.length = t) ∧ RowKit.Hid (∀ g, (Value.slice P t cp).ownBlock = some g → g = w3.heap.size + 1 ∨ w5.heap.size ≤ g) ∧ RowKit.Hid (E2 R C l t J m) ∧ Own wr w2.heap.size (.slice V n cv) m ∧ Own wr (w3.heap.size + 1) (.slice P t cp) pv ∧ Mv (fun g => (Value.slice V n cv).ownBlock = some g ∨ g = w3.heap.size + 1) w5 wr) (fun _ j _ => C - (intOf j).toNat)
        case atStart => exact ⟨0, 0, m, [], some ⟨w3.heap.size + 1, 0, none⟩, 0, rfl, rfl, Nat.zero_le _, Lib.hid rfl, Lib.hid (fun g e => .inl (Option.some.inj e).symm), E20, om, op5, Mv.refl _⟩
        case round =>
          clear om op5 E20 m0 m1 m2 mf ml
          obtain ⟨J, t, m, pv, P, cp, rfl, rfl, hJ, HPV, HPB, HE, om, op, mv⟩ := hrel
          obtain ⟨w6, rfl⟩ : ∃ x : World, x = wr := ⟨_, rfl⟩
          have s6 := mv.size
          have hnS : ∀ g, ((Value.slice V n cv).ownBlock = some g ∨ g = w3.heap.size + 1) → (w2.heap.size ≤ g ∧ g < w3.heap.size) ∨ g = w3.heap.size + 1 := fun g e => by
            rcases e with e | e
            · exact .inl (HVL.out g e)
            · exact .inr e
          have HNS := Lib.hid hnS
          have ma6 := ma5.mv mv (fun e => by have := HNS.out _ e; omega)
          obtain ⟨m0, m1, m2⟩ := ma6.cells
          have mf := ma6.fz
          have ml := ma6.lt
          have htR : t ≤ R := HE.out.tR
          have hpl := fun g e => World.ownsRow.lt op g e
          have HPL := Lib.hid hpl
          clear hnS hpl
          by_cases hJC : J < C
          · have j1 : (J : Int) < (C : Int) := by omega
            have hml := HE.out.len.trans HNL.out.symm
            go_wp2_with fail
            go_loopw [10] (fun s10 wr => ∃ (P : Nat), s10 = .int .i64 (P : Nat) ∧ t ≤ P ∧ P ≤ R ∧ RowKit.Hid (∀ i, t ≤ i → i < P → nth m (i * C + J) = 0) ∧ Grows w6 wr) (fun p _ => R - (intOf p).toNat)
            case atStart => exact ⟨t, rfl, Nat.le_refl _, htR, Lib.hid (fun i h1 h2 => by omega), Below.refl _ _⟩
            case round =>
              clear m0 m1 m2 mf ml
              obtain ⟨p, rfl, htp, hpR, HZ, hg⟩ := hrel
              obtain ⟨w7, rfl⟩ : ∃ x : World, x = wr := ⟨_, rfl⟩
              have s7 := Below.size hg
              have ma7 := ma6.grows hg
              have om7 := om.grows hg
              have op7 := op.grows hg
              have mv7 := mv.right hg
              obtain ⟨m0, m1, m2⟩ := ma7.cells
              have mf := ma7.fz
              have ml := ma7.lt
              have rd7 := om7.rd_
              by_cases hlt : p < R
              · have i1 : (p : Int) < (R : Int) := by omega
                have C2 := fun W h => CAT.out m hml p J hlt hJC W h
                rw [castIdx] at C2
                have C2' := Lib.hid C2
                by_cases hz : nth m (p * C + J) = 0
                · have HZ' := Lib.hid (show ∀ i, t ≤ i → i < p + 1 → nth m (i * C + J) = 0 from fun i h1 h2 => by
                    by_cases e : i = p
                    · rw [e]; exact hz
                    · exact HZ.out i h1 (by omega))
                  clear C2
                  generalize nth m (p * C + J) = x at *
                  subst hz
                  go_wp2_with fail
                  refine (C2'.out _ rd7).mono ?_; rintro e w8 ⟨rfl, g8⟩
                  go_wp2_with fail
                  go_round
                  case rel => exact ⟨p + 1, by go_num, by omega, by omega, HZ', by exact bel2 g8 hg⟩
                  case measure => simp [intOf]; omega
                · have HX := Lib.hid hz
                  clear C2
                  obtain ⟨x, hx⟩ : ∃ x, x = nth m (p * C + J) := ⟨_, rfl⟩
                  rw [← hx] at C2' hz HX
                  have HXM := Lib.hid hx
                  clear hx
                  have i2 : ¬ (R : Int) ≤ (p : Int) := by omega
                  go_wp2_with fail
                  refine (C2'.out _ rd7).mono ?_; rintro e w8 ⟨rfl, g8⟩
                  have s8 := Below.size g8
                  have ma8 := ma7.grows g8
                  have om8 := om7.grows g8
                  have op8 := op7.grows g8
                  have mv8 := mv7.right g8
                  clear m0 m1 m2 mf ml ma7 om7 op7 mv7 rd7
                  obtain ⟨m0, m1, m2⟩ := ma8.cells
                  have mf := ma8.fz
                  have ml := ma8.lt
                  obtain ⟨hst1, hst2⟩ := HE.out.start hJC hlt htp (by rw [← HXM.out]; exact HX.out)
                  have HS1 := Lib.hid hst1
                  have HS2 := Lib.hid hst2
                  have CSW := Lib.hid fun W ho (hne : p ≠ t) => iSwpOp_c R C V m n cv p t w2.heap.size W HNL.out hR hC ho HE.out.num hlt (by omega) hne
                  clear hst1 hst2
                  go_upto_if 63 with fail
                  go_cut [] (fun wx => ∃ (m2 : List Int), RowKit.Hid (E3 R C l t J 0 m2) ∧ Own wx w2.heap.size (.slice V n cv) m2 ∧ Own wx (w3.heap.size + 1) (.slice P t cp) pv ∧ Mv (fun g => (Value.slice V n cv).ownBlock = some g ∨ g = w3.heap.size + 1) w5 wx ∧ MBox wx w3.heap.size R C (.slice V n cv))
                  case first =>
                    by_cases hpt : p = t
                    · have HE3 := Lib.hid (HS1.out hpt)
                      have hpt2 : ((p : Int) = (t : Int)) = True := eq_true (by omega)
                      have hpt3 : ((p : Int) != (t : Int)) = false := by rw [bne_eq_false_iff_eq]; omega
                      clear HS1 HS2 CSW hpt
                      go_wp2_with fail
                      go_meet
                      exact ⟨m, HE3, om8, op8, mv8, ma8⟩
                    · have hpt2 : ¬ (p : Int) = (t : Int) := by omega
                      have hpt3 : ((p : Int) != (t : Int)) = true := by rw [bne_iff_ne]; omega
                      go_wp2_with fail
                      refine (CSW.out _ om8 hpt).mono ?_; rintro e w9 ⟨m2, rfl, o9, hm2, g9⟩
                      have hm3 := hm2 rfl
                      have ms : Mv (fun g => (Value.slice V n cv).ownBlock = some g) w8 w9 := Mv.by1 g9 fun g e => e
                      go_wp2_with fail
                      go_meet
                      exact ⟨m2, by rw [hm3]; exact HS2, o9, op8.mv ms (fun g e e2 => by have := HVL.out _ e2; have := World.ownsRow.lt op8 g e; omega), mv8.own g9 (fun k e => .inr (.inl e)), ma8.mv ms (fun e => by have := HVL.out _ e; omega)⟩
                  case rest =>
                    clear HE HZ HX HXM C2' m0 m1 m2 mf ml om op mv ma6 hg HS1 HS2 CSW om8 op8 mv8 ma8 g8 g01 g_w2 g_w3 ha hl CC HW1 HW4 h_w1 h_w2 h_w3 hs1
                    obtain ⟨m9, HE3, om9, op9, mv9, ma9⟩ := hcut
                    obtain ⟨w9, rfl⟩ : ∃ x : World, x = wc := ⟨_, rfl⟩
                    have s9 := mv9.size
                    go_upto_block 6 with fail
                    go_cut [] (fun wx => ∃ (m2 : List Int), RowKit.Hid (E3 R C l t J R m2) ∧ Own wx w2.heap.size (.slice V n cv) m2 ∧ Mv (fun g => (Value.slice V n cv).ownBlock = some g) w9 wx)
                    case first =>
                      clear op9 HPV HPB HPL
                      go_wp2_with fail
                      go_loopw [11] (fun s11 wr => ∃ (I : Nat) (m : List Int), s11 = .int .i64 (I : Nat) ∧ I ≤ R ∧ RowKit.Hid (E3 R C l t J I m) ∧ Own wr w2.heap.size (.slice V n cv) m ∧ Mv (fun g => (Value.slice V n cv).ownBlock = some g) w9 wr) (fun i _ => R - (intOf i).toNat)
                      case atStart => exact ⟨0, m9, rfl, Nat.zero_le _, HE3, om9, Mv.refl _⟩
                      case round =>
                        clear om9 HE3
                        obtain ⟨I, m, rfl, hI, HE, om, mv⟩ := hrel
                        obtain ⟨wa, rfl⟩ : ∃ x : World, x = wr := ⟨_, rfl⟩
                        have sa := mv.size
                        have maa := ma9.mv mv (fun e => by have := HVL.out _ e; omega)
                        obtain ⟨m0, m1, m2⟩ := maa.cells
                        have mf := maa.fz
                        have ml := maa.lt
                        have hml := HE.out.e.len.trans HNL.out.symm
                        by_cases hIR : I < R
                        · have i1 : (I : Int) < (R : Int) := by omega
                          have CX := fun W h => CAT.out m hml I J hIR hJC W h
                          rw [castIdx] at CX
                          by_cases hIt : I = t
                          · have HE' := Lib.hid (HE.out.skip (.inl hIt))
                            have e1 : ((I : Int) = (t : Int)) = True := eq_true (by omega)
                            generalize nth m (I * C + J) = x at CX
                            have CX' := Lib.hid CX
                            clear CX hIt
                            go_wp2_with fail
                            refine (CX'.out _ om.rd_).mono ?_; rintro e wb ⟨rfl, gb⟩
                            go_wp2_with fail
                            clear e1
                            go_round
                            case rel => exact ⟨I + 1, m, by go_num, by omega, HE', om.grows gb, mv.right gb⟩
                            case measure => simp [intOf]; omega
                          · have e1 : ¬ (I : Int) = (t : Int) := by omega
                            by_cases hx : nth m (I * C + J) = 0
                            · have HE' := Lib.hid (HE.out.skip (.inr hx))
                              rw [hx] at CX
                              have CX' := Lib.hid CX
                              clear CX hIt hx
                              go_wp2_with fail
                              refine (CX'.out _ om.rd_).mono ?_; rintro e wb ⟨rfl, gb⟩
                              go_wp2_with fail
                              go_round
                              case rel => exact ⟨I + 1, m, by go_num, by omega, HE', om.grows gb, mv.right gb⟩
                              case measure => simp [intOf]; omega
                            · have htR2 : t < R := by omega
                              have n1 := (allNum_iff _).1 HE.out.e.num (I * C + J) (by rw [HE.out.e.len]; exact idx_lt hIR hJC)
                              have n2 := (allNum_iff _).1 HE.out.e.num (t * C + J) (by rw [HE.out.e.len]; exact idx_lt htR2 hJC)
                              have CY := fun W h => CAT.out m hml t J htR2 hJC W h
                              rw [castIdx] at CY
                              have hG := gcdI_pos (a := nth m (I * C + J)) HE.out.ne
                              have hy0 := HE.out.ne
                              have ROW0 := fun m' p => HE.out.row hIR hIt htR2 hJC hx (m' := m') p
                              have HMN := Lib.hid fun k hk => (allNum_iff _).1 HE.out.e.num k (by rw [HE.out.e.len]; exact hk)
                              have HTN := Lib.hid fun u v h => elFn_num (I := I) (t := t) (u := u) (v := v) HE.out.e.len HE.out.e.num h
                              have HCZ := Lib.hid fun u v => ColD.zero (f := elFn C I t u v m) HE.out.e.len
                              obtain ⟨x, hxx⟩ : ∃ x, x = nth m (I * C + J) := ⟨_, rfl⟩
                              obtain ⟨y, hyy⟩ : ∃ y, y = nth m (t * C + J) := ⟨_, rfl⟩
                              rw [← hxx, ← hyy] at hG ROW0
                              rw [← hxx] at CX hx n1
                              rw [← hyy] at CY n2 hy0
                              have CG := fun W => gcd_c x y W (by have := (isNum_iff _).1 n1; omega) (by have := (isNum_iff _).1 n1; omega) (by have := (isNum_iff _).1 n2; omega) (by have := (isNum_iff _).1 n2; omega)
                              have hGd : gcdI x y ∣ y := Int.gcd_dvd_right _ _
                              obtain ⟨G, hGG⟩ : ∃ G, G = gcdI x y := ⟨_, rfl⟩
                              rw [← hGG] at hG ROW0 CG hGd
                              have hGy := Nat.le_of_dvd (by omega) (Int.natAbs_dvd_natAbs.2 hGd)
                              obtain ⟨u, hu⟩ : ∃ u, u = y.tdiv G := ⟨_, rfl⟩
                              obtain ⟨v, hv⟩ : ∃ v, v = x.tdiv G := ⟨_, rfl⟩
                              rw [← hu, ← hv] at ROW0
                              have hub : u.natAbs ≤ y.natAbs := by rw [hu, Int.natAbs_tdiv]; exact Nat.div_le_self _ _
                              have hvb : v.natAbs ≤ x.natAbs := by rw [hv, Int.natAbs_tdiv]; exact Nat.div_le_self _ _
                              have b1 := (isNum_iff _).1 n1
                              have b2 := (isNum_iff _).1 n2
                              have b11 := b1.1; have b12 := b1.2; have b21 := b2.1; have b22 := b2.2
                              have nu : isNum u = true := by rw [isNum_iff]; omega
                              have nv : isNum v = true := by rw [isNum_iff]; omega
                              have hG0 : ¬ G = 0 := by omega
                              have hG4 : G ≤ 400000000 := by omega
                              have hu1 : -400000000 ≤ u := by omega
                              have hu2 : u ≤ 400000000 := by omega
                              have hv1 : -400000000 ≤ v := by omega
                              have hv2 : v ≤ 400000000 := by omega
                              have qy := hu.symm
                              have qx := hv.symm
                              have e2 : (x == 0) = false := by simpa using hx
                              have e3 : ((I : Int) == (t : Int)) = false := by simpa using e1
                              have CX' := Lib.hid CX
                              have CY' := Lib.hid CY
                              have CG' := Lib.hid CG
                              have ROW := Lib.hid ROW0
                              have HNU := Lib.hid nu
                              have HNV := Lib.hid nv
                              clear CX CY CG ROW0 hxx hyy hGG hGd hGy hub hvb hu hv n1 n2 b1 b2 hml HE nu nv
                              go_wp2_with fail
                              refine (CX'.out _ om.rd_).mono ?_; rintro e wb ⟨rfl, gb⟩
                              go_upto_region 24 with fail
                              clear m0 m1 m2 mf ml
                              have mab := maa.grows gb
                              obtain ⟨m0, m1, m2⟩ := mab.cells
                              have mf := mab.fz
                              have ml := mab.lt
                              go_wp2_with fail
                              refine (CY'.out _ (om.rd_.grows gb)).mono ?_; rintro e wd ⟨rfl, gd⟩
                              clear m0 m1 m2 mf ml
                              have mad := mab.grows gd
                              obtain ⟨m0, m1, m2⟩ := mad.cells
                              have mf := mad.fz
                              have ml := mad.lt
                              go_wp2_with fail
                              refine (CG'.out _).mono ?_; rintro e we ⟨rfl, ge⟩
                              have gbe : Grows wa we := by exact bel3 ge gd gb
                              have ome := om.grows gbe
                              have mve := mv.right gbe
                              have mae := mad.grows ge
                              clear m0 m1 m2 mf ml mab mad maa om mv CX' CY' CG' gb gd ge gbe e2 e3
                              obtain ⟨m0, m1, m2⟩ := mae.cells
                              have mf := mae.fz
                              have ml := mae.lt
                              go_wp2_with fail
                              go_loopw [15] (fun s15 wr => ∃ (K : Nat) (m5 : List Int), s15 = .int .i64 (K : Nat) ∧ K ≤ C ∧ RowKit.Hid (ColD R C (elFn C I t u v m) m K m5) ∧ RowKit.Hid (∀ b, b < K → isNum (u * nth m (I * C + b) - v * nth m (t * C + b)) = true) ∧ Own wr w2.heap.size (.slice V n cv) m5 ∧ Mv (fun g => (Value.slice V n cv).ownBlock = some g) w9 wr) (fun k _ => C - (intOf k).toNat)
                              case atStart => exact ⟨0, m, rfl, Nat.zero_le _, Lib.hid (HCZ.out u v), Lib.hid (fun b hb => absurd hb (Nat.not_lt_zero _)), ome, mve⟩
                              case round =>
                                clear ome mve m0 m1 m2 mf ml mae
                                obtain ⟨K, m5, rfl, hK, HD, HNM, o5, mv5⟩ := hrel
                                obtain ⟨wf, rfl⟩ : ∃ x : World, x = wr := ⟨_, rfl⟩
                                have sf := mv5.size
                                have maf := ma9.mv mv5 (fun e => by have := HVL.out _ e; omega)
                                obtain ⟨m0, m1, m2⟩ := maf.cells
                                have mf := maf.fz
                                have ml := maf.lt
                                have hml5 := HD.out.1.trans HNL.out.symm
                                by_cases hKC : K < C
                                · have k1 : (K : Int) < (C : Int) := by omega
                                  have C1 := fun W h => CAT.out m5 hml5 I K hIR hKC W h
                                  rw [castIdx, HD.out.cell hIR hKC] at C1
                                  have C2 := fun W h => CAT.out m5 hml5 t K htR2 hKC W h
                                  rw [castIdx, HD.out.cell htR2 hKC] at C2
                                  have n1 := HMN.out (I * C + K) (idx_lt hIR hKC)
                                  have n2 := HMN.out (t * C + K) (idx_lt htR2 hKC)
                                  have p1b := mul_bd HNU.out n1
                                  have p2b := mul_bd HNV.out n2
                                  have hset := HD.out.set1 hIR hKC (fun a ha hne => elFn_other hne)
                                  rw [elFn_same] at hset
                                  obtain ⟨a1, ha1⟩ : ∃ a, a = nth m (I * C + K) := ⟨_, rfl⟩
                                  obtain ⟨a2, ha2⟩ : ∃ a, a = nth m (t * C + K) := ⟨_, rfl⟩
                                  obtain ⟨p1, hp1⟩ : ∃ p, p = u * a1 := ⟨_, rfl⟩
                                  obtain ⟨p2, hp2⟩ : ∃ p, p = v * a2 := ⟨_, rfl⟩
                                  obtain ⟨nn, hnn⟩ : ∃ p, p = p1 - p2 := ⟨_, rfl⟩
                                  rw [← ha1] at C1 n1 p1b hset
                                  rw [← ha2] at C2 n2 p2b hset
                                  rw [← hp1] at p1b hset
                                  rw [← hp2] at p2b hset
                                  rw [← hnn] at hset
                                  have HNM' := Lib.hid fun (h : isNum nn = true) => (show ∀ b, b < K + 1 → isNum (u * nth m (I * C + b) - v * nth m (t * C + b)) = true from fun b hb => by
                                    by_cases e : b = K
                                    · rw [e, ← ha1, ← ha2, ← hp1, ← hp2, ← hnn]; exact h
                                    · exact HNM.out b (by omega))
                                  have p11 := p1b.1; have p12 := p1b.2; have p21 := p2b.1; have p22 := p2b.2
                                  have z1 := (isNum_iff _).1 n1
                                  have z2 := (isNum_iff _).1 n2
                                  have z11 := z1.1; have z12 := z1.2; have z21 := z2.1; have z22 := z2.2
                                  have r1 := hp1.symm
                                  have r2 := hp2.symm
                                  have r3 := hnn.symm
                                  have CN := fun W => iIsNumber_c nn W
                                  have hnb : -400000000000000000 ≤ nn ∧ nn ≤ 400000000000000000 := by omega
                                  have hnb1 := hnb.1; have hnb2 := hnb.2
                                  have HSET := Lib.hid hset
                                  have C1' := Lib.hid C1
                                  have C2' := Lib.hid C2
                                  have hrd := o5.rd_
                                  have y0 := maf.ext.1; have y1 := maf.ext.2.1; have y2 := maf.ext.2.2
                                  clear C1 C2 ha1 ha2 hp1 hp2 hnn hset p1b p2b z1 z2 n1 n2 hnb
                                  go_wp2_with fail
                                  ((refine wp_region_ext (by kernel_rfl) (by kernel_rfl) ?_); (repeat (go_big_quiet_step ((first | (go_at_call 53; with_reducible exact extC (C1'.out _ (Rd.ext hrd _))) | (go_at_call 53; with_reducible exact extC (C2'.out _ (Rd.ext hrd _))))))); refine wpQuiet_nil ?_; rintro wg ⟨wg0, hwg0⟩; have gg := grows_of_ext hwg0; clear hwg0 wg0)
                                  have og := o5.grows gg
                                  have mag := maf.grows gg
                                  have mvg := mv5.right gg
                                  have sg := Below.size gg
                                  clear y0 y1 y2 hrd C1' C2' m0 m1 m2 mf ml maf o5 mv5 gg
                                  obtain ⟨m0, m1, m2⟩ := mag.cells
                                  have mf := mag.fz
                                  have ml := mag.lt
                                  cases hq : isNum nn
                                  · rw [hq] at CN
                                    have CN' := Lib.hid CN
                                    have mrg := (mr5.mv mv9 (fun e => by have := HNS.out _ e; omega)).mv mvg (fun e => by have := HVL.out _ e; omega)
                                    obtain ⟨q0, q1, q2⟩ := mrg.cells
                                    have qf := mrg.fz
                                    have ql := mrg.lt
                                    have GG : Below w.heap.size w wg := Below.trans HB5 (Below.trans (Mv.below mv9 (by omega) (fun g e => by have := HNS.out _ e; omega)) (Mv.below mvg (by omega) (fun g e => by have := HVL.out _ e; omega)))
                                    go_wp2_with fail
                                    refine (CN'.out _).mono ?_; rintro e wh ⟨rfl, rfl⟩
                                    go_wp2_with fail
                                    refine bodyPost_ret (v := .tuple #[.agg #[.int .i64 0, .int .i64 0, .slice none 0 0], .slice (some ⟨wg.heap.size, 0, none⟩) 0 0, .bool false]) ?_ rfl ?_
                                    · simp [results, Try.results50, go_sem, q0, q1, q2, qf, ql]
                                    · exact ⟨false, 0, 0, 0, none, 0, [], some ⟨wg.heap.size, 0, none⟩, 0, rfl, (fun h => by cases h), Rd.nil _ _, Nat.le_refl _, by omega, by simp, by omega, by exact bel1 GG⟩
                                  · rw [hq] at CN
                                    have CN' := Lib.hid CN
                                    have HNM2 := Lib.hid (HNM'.out hq)
                                    obtain ⟨gV, cap', ev, hgV1, hgV2⟩ := og.form (by rw [hml5, HNL.out]; exact Nat.mul_pos (by omega) (by omega))
                                    simp only [Value.slice.injEq] at ev
                                    obtain ⟨rfl, -, rfl⟩ := ev
                                    have CST := Lib.hid (set_c R C gV n cv w2.heap.size m5 I K nn wg hml5 og (by have := HIC.out I hIR; omega) (HIX.out I K hIR hKC) (by have := HNL.out; omega))
                                    go_wp2_with fail
                                    refine (CN'.out _).mono ?_; rintro e wh ⟨rfl, rfl⟩
                                    go_wp2_with fail
                                    refine CST.out.mono ?_; rintro e wi ⟨rfl, oi, gi⟩
                                    have mvi := mvg.own gi (fun k e => .inr e)
                                    go_wp2_with fail
                                    go_round
                                    case rel => exact ⟨K + 1, _, by go_num, by omega, HSET, HNM2, oi, mvi⟩
                                    case measure => simp [intOf]; omega
                                · obtain rfl : C = K := by omega
                                  have k1 : ¬ (C : Int) < (C : Int) := by omega
                                  have hall := HD.out.all
                                  have HAN := Lib.hid (show allNum m5 = true by rw [hall]; exact HTN.out u v HNM.out)
                                  have HALL := Lib.hid hall
                                  have CR1 := Lib.hid fun W => CROW.out m5 hml5 I hIR W
                                  have CP1 := Lib.hid fun W ho => CPRM.out m5 I W ho HAN.out hIR
                                  clear hall
                                  go_wp2_with fail
                                  refine (CR1.out _).mono ?_; rintro e wg ⟨rfl, gg⟩
                                  go_wp2_with fail
                                  refine (CP1.out _ (o5.grows gg)).mono ?_; rintro e wh ⟨m6, rfl, o6, P6, g6⟩
                                  have HE' := Lib.hid (ROW.out m6 (by rw [← HALL.out]; exact P6))
                                  have mvh := (mv5.right gg).own g6 (fun k e => .inr e)
                                  go_wp2_with fail
                                  go_round
                                  case rel => exact ⟨I + 1, m6, by go_num, by omega, HE', o6, mvh⟩
                                  case measure => simp [intOf]; omega
                        · obtain rfl : R = I := by omega
                          have i1 : ¬ (R : Int) < (R : Int) := by omega
                          go_wp2_with fail
                          go_meet
                          exact ⟨m, HE, om, mv⟩
                    case rest =>
                      clear om9 HE3
                      obtain ⟨m, HE, om, mv⟩ := hcut
                      obtain ⟨wa, rfl⟩ : ∃ x : World, x = wc := ⟨_, rfl⟩
                      have sa := mv.size
                      have opa := op9.mv mv (fun g e e2 => by have := HVL.out _ e2; have := World.ownsRow.lt op9 g e; omega)
                      have mva := mv9.over mv (fun g e => .inr (.inl e))
                      have HE' := Lib.hid (HE.out.next (by omega))
                      have hpv : pv.length ≤ 24 := by have := HPV.out; omega
                      go_wp2_with (at_builtin; refine wpList_app1 rfl (.tmp 130) (.tmp 132) rfl _ (J : Int) (w3.heap.size + 1) _ pv (by rfl) opa (by rfl) (by omega) (by omega) ?_; intro v7 w7 o7 hg7 hb7; have s7 := hg7.size; obtain ⟨A7, c7, rfl, _, _⟩ := o7.val)
                      have hl7 : (pv ++ [(J : Int)]).length = t + 1 := by rw [List.length_append, HPV.out]; rfl
                      rw [hl7] at o7 hb7
                      have HPV7 := Lib.hid hl7
                      have mp7 : Mv (fun g => (Value.slice P t cp).ownBlock = some g) wa w7 := Mv.by1 hg7 fun g e => e
                      have om7 := om.mv mp7 (fun g e e2 => by have := HVL.out _ e; have := HPL.out _ e2; omega)
                      have mv7 := mva.own hg7 (fun k e => by rcases HPB.out k e with h | h; exact .inr (.inr h); exact .inl h)
                      have HPB7 := Lib.hid (show ∀ g, (Value.slice A7 (t + 1) c7).ownBlock = some g → g = w3.heap.size + 1 ∨ w5.heap.size ≤ g from fun g e => by
                        rcases hb7 with h | ⟨g', h, hg'⟩
                        · rw [h] at e; exact HPB.out g e
                        · rw [h] at e; have := Option.some.inj e; omega)
                      clear hb7 hg7
                      go_round
                      case rel => exact ⟨J + 1, t + 1, m, pv ++ [(J : Int)], A7, c7, by go_num, by rw [HPV.out], by omega, HPV7, HPB7, HE', om7, o7, mv7⟩
                      case measure => simp [intOf]; omega
              · obtain rfl : R = p := by omega
                have i1 : ¬ (R : Int) < (R : Int) := by omega
                have i2 : (R : Int) ≤ (R : Int) := by omega
                have HE' := Lib.hid (HE.out.skip HZ.out)
                go_wp2_with fail
                go_round
                case rel => exact ⟨J + 1, t, m, pv, P, cp, by go_num, rfl, by omega, HPV, HPB, HE', om7, op7, mv7⟩
                case measure => simp [intOf]; omega
          · obtain rfl : C = J := by omega
            have j1 : ¬ (C : Int) < (C : Int) := by omega
            have mr6 := mr5.mv mv (fun e => by have := HNS.out _ e; omega)
            obtain ⟨r0, r1, r2⟩ := mr6.cells
            have rf := mr6.fz
            have rl := mr6.lt
            have hml : m.length = n := HE.out.len.trans HNL.out.symm
            have HEO := Lib.hid (HE.out.ret HM.out)
            have HML := Lib.hid hml
            have G6 : Below w.heap.size w w6 := Below.trans HB5 (Mv.below mv (by omega) (fun g e => by have := HNS.out _ e; omega))
            clear hml
            go_wp2_with fail
            refine bodyPost_ret (v := .tuple #[.agg #[.int .i64 R, .int .i64 C, .slice V n cv], .slice P t cp, .bool true]) ?_ rfl ?_
            · simp [results, Try.results50, go_sem, r0, r1, r2, rf, rl]
            · refine ⟨true, t, R, C, V, cv, m, P, cp, by rw [HML.out], fun _ => ⟨HEO.out, rfl, rfl⟩, ?_, by rw [HML.out]; exact hcv, hcv2, by rw [HML.out, HNL.out]; exact hRC, by omega, by exact bel1 G6⟩
              exact (show Own _ w2.heap.size (.slice V n cv) m from by exact ownl om).rd_
end
end Go.Proofs.Ytbfkpfdkndnhkaa
