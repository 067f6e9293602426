/- Contracts and lemmas, put together. -/
import Derived.Deep.CutBlock
import Derived.Test.YtpgoefdeodoacaaPkK
import Derived.Test.YtpgoefdeodoacaaPkL
import Derived.Test.YtpgoefdeodoacaaQBothS
/- Contract: a form is reduced, the reference's. -/
namespace Go.Proofs.Ytpgoefdeodoacaa
set_option linter.unusedSimpArgs false
set_option linter.unusedVariables false
open Go.RowKit

theorem rdg_none {R F : Nat} {x : RS} {f : LL → MX × MX} {o : Option (MX × MX)} (h : o = (rdgF R F x).map f) (h2 : rdgF R F x = none) : o = none := by rw [h, h2]; rfl
theorem redS_none_next {R F : Nat} {x : RS} {mu : List (List Q2) × List Q2} (h : x.2 < R) (h2 : accF R x.1.1 R = some mu) (h3 : redS R mu x = none) : rdgF R (F + 1) x = none := by rw [rdgF_step h h2, h3]; rfl
theorem redS_some_next {R F : Nat} {x y : RS} {mu : List (List Q2) × List Q2} (h : x.2 < R) (h2 : accF R x.1.1 R = some mu) (h3 : redS R mu x = some y) : rdgF R (F + 1) x = rdgF R F y := by rw [rdgF_step h h2, h3]; rfl
theorem pr_two {w : World} {B n m c d : Nat} {A U : Option Addr} {a u : List Int} (pr : Pr w B A U n c m d a u) : (∀ g, (Value.slice A n c).ownBlock = some g → B ≤ g ∧ g < w.heap.size) ∧ ∀ g, (Value.slice U m d).ownBlock = some g → B ≤ g ∧ g < w.heap.size := ⟨fun g h => World.ownsRow.lt pr.oa g h, fun g h => World.ownsRow.lt pr.ou g h⟩
section
set_option maxHeartbeats 40000000
set_option maxRecDepth 100000
theorem sRg_c (r c : Int) (A : Option Addr) (l : List Int) (n cap : Nat) (w : World) (hn : l.length = n) (ha : Rd w A l) (hl : n ≤ 1099511627776) :
    Calls Try.prog 32 #[.agg #[.int .i64 r, .int .i64 c, .slice A n cap]] w (Mat2Ret (rdgO ⟨r, c, l⟩) w) := by
  have CDf := fun W h => sIsDef_c r c A l n cap W hn h hl
  obtain ⟨w1, hw1, mg, m2, m3, hs1, g01⟩ := three_mats w r c (.slice A n cap)
  have HW1 := Lib.hid hw1
  have HS1 := Lib.hid hs1
  have ha1 : Rd w1 A l := ha.grows g01
  clear hw1 hs1
  obtain ⟨RES, hRES⟩ : ∃ x, x = rdgO ⟨r, c, l⟩ := ⟨_, rfl⟩
  rw [← hRES]
  cases hq : isDef r c l
  · rw [rdgO_no (g := ⟨r, c, l⟩) hq] at hRES
    rw [hq] at CDf
    have CDf' := Lib.hid CDf
    subst hRES
    clear CDf hq hn
    go_enter Try.func32, Try.ntmps32
    go_wp2_with fail
    rw [← HW1.out]
    refine (CDf'.out _ (by exact (Rd.grows ha1 (by exact bel0)))).mono ?_; rintro e w2 ⟨rfl, g2⟩
    (have z2 := m2.grows (w' := w2) (by exact bel1 g2); have z3 := m3.grows (w' := w2) (by exact bel1 g2); obtain ⟨zr0, zr1, zr2⟩ := z2.cells; have zrf := z2.fz; have zrl := z2.lt; obtain ⟨yr0, yr1, yr2⟩ := z3.cells; have yrf := z3.fz; have yrl := z3.lt; go_wp2_with fail; refine bodyPost_ret (v := .tuple #[.agg #[.int .i64 0, .int .i64 0, .slice none 0 0], .agg #[.int .i64 0, .int .i64 0, .slice none 0 0], .bool false]) ?_ rfl ?_; (simp [results, Try.results32, go_sem, zr0, zr1, zr2, zrf, zrl, yr0, yr1, yr2, yrf, yrl]); exact ⟨_, _, rfl, Own.nil _ _, Own.nil _ _, by simp [Value.ownBlock], by exact bel2 g2 g01⟩)
  · rw [hq] at CDf
    have CDf' := Lib.hid CDf
    obtain ⟨hmt, R, rfl, rfl, hR6, hlen, hnum⟩ := isSq_nat (isDef_sq hq)
    rw [rdgO_yes hq] at hRES
    have HR := Lib.hid hRES
    have hR : R ≤ 24 := by omega
    have ok0 : Ok2 R R ((l, idL R) : LL) := ⟨hlen, idL_length R, (allNum_iff _).2 hnum, idL_num R⟩
    have OK0 := Lib.hid ok0
    have hRR : R * R ≤ 36 := Nat.mul_le_mul hR6 hR6
    have CP := Lib.hid fun W h => copyS_c R R A l n cap W hn h hl
    have CI := Lib.hid fun W => sIdent_c R W hR
    have HLEN := Lib.hid hlen
    clear CDf hq hRES ok0 hlen hnum hn hmt
    go_enter Try.func32, Try.ntmps32
    go_wp2_with fail
    rw [← HW1.out]
    refine (CDf'.out _ (by exact (Rd.grows ha1 (by exact bel0)))).mono ?_; rintro e w2 ⟨rfl, g2⟩
    obtain ⟨b0, b1, b2⟩ := (mg.grows g2).cells
    go_wp2_with fail
    refine (CP.out _ (by exact (Rd.grows ha1 (by exact bel1 g2)))).mono ?_; rintro e w3 hop; obtain ⟨v3, rfl, o3, g3⟩ := mat1_out hop; clear hop
    obtain ⟨A3, c3, rfl, _, _⟩ := o3.val
    simp only at o3 ⊢
    rw [HLEN.out] at o3 ⊢
    clear b0 b1 b2
    have g13 : Grows w1 w3 := by exact bel2 g3 g2
    obtain ⟨b0, b1, b2⟩ := (mg.grows g13).cells
    have bl := (mg.grows g13).lt
    have hs2 := Below.size g2
    have hs3 := Below.size g3
    go_wp2_with fail
    refine (CI.out _).mono ?_; rintro e w4 ⟨v4, rfl, o4, g4⟩
    obtain ⟨U, cu, rfl, _, _⟩ := o4.val
    rw [idL_length] at o4 ⊢
    clear b0 b1 b2 bl
    have hs4 := Below.size g4
    simp at hs4
    have m5 : MBox w4 w3.heap.size R R (.slice A3 (R * R) c3) := (MBox.mk_ w3 R R (.slice A3 (R * R) c3) 28).grows g4
    have o4' : Own w4 (w3.heap.size + 1) (.slice U (R * R) cu) (idL R) := by have := o4; simpa using this
    obtain ⟨w5, hw5⟩ : ∃ w5, w5 = w4.alloc (.cells #[.int .i64 R, .int .i64 R, .slice U (R * R) cu] 28) := ⟨_, rfl⟩
    have HW5 := Lib.hid hw5
    have m5' : MBox w5 w3.heap.size R R (.slice A3 (R * R) c3) := by rw [hw5]; exact m5.alloc _
    have m6' : MBox w5 w4.heap.size R R (.slice U (R * R) cu) := by rw [hw5]; exact MBox.mk_ _ _ _ _ _
    have g15 : Grows w1 w5 := by rw [hw5]; exact bel2 g4 g13
    have hA : ∀ g, (Value.slice A3 (R * R) c3).ownBlock = some g → w2.heap.size ≤ g ∧ g < w3.heap.size := fun g h => World.ownsRow.lt o3 g h
    have hU : ∀ g, (Value.slice U (R * R) cu).ownBlock = some g → w3.heap.size + 1 ≤ g ∧ g < w4.heap.size := fun g h => World.ownsRow.lt o4' g h
    have pr5 : Pr w5 w1.heap.size A3 U (R * R) c3 (R * R) cu l (idL R) := ⟨by rw [hw5]; exact ((o3.grows (w' := w4) (by exact bel1 g4)).alloc _).less (by omega), by rw [hw5]; exact (o4'.alloc _).less (by omega), fun g h h2 => by have := hA g h; have := hU g h2; omega⟩
    have HA := Lib.hid hA
    have HU := Lib.hid hU
    clear hw5 m5 o3 o4 o4' hA hU
    have hs1 := HS1.out
    go_wp2_with fail
    rw [← HW5.out]
    go_loopw [8, 9] (fun k st wr => ∃ (K S : Nat) (s : LL), k = .int .i64 K ∧ st = .int .i64 S ∧ 1 ≤ K ∧ (K ≤ R ∨ K ≤ 1) ∧ S ≤ 200 ∧ Ok2 R R s ∧ RES = (rdgF R (200 - S) (s, K)).map (fun s => ((⟨R, R, s.1⟩ : MX), (⟨R, R, s.2⟩ : MX))) ∧ Pr wr w1.heap.size A3 U (R * R) c3 (R * R) cu s.1 s.2 ∧ MBox wr w3.heap.size R R (.slice A3 (R * R) c3) ∧ MBox wr w4.heap.size R R (.slice U (R * R) cu) ∧ Grows w1 wr ∧ w5.heap.size ≤ wr.heap.size) (fun _ st _ => 201 - (intOf st).toNat)
    case atStart => exact ⟨1, 0, (l, idL R), rfl, rfl, Nat.le_refl _, .inr (Nat.le_refl _), Nat.zero_le _, OK0.out, HR.out, pr5, m5', m6', g15, Nat.le_refl _⟩
    case round =>
      clear pr5 m5' m6'
      obtain ⟨K, S, s, rfl, rfl, hK1, hKR, hS, ok, hF, pr, mA, mU, hg, hsz⟩ := hrel
      have HF := Lib.hid hF
      have HOK := Lib.hid ok
      have HPR := Lib.hid pr
      clear hF
      by_cases hlt : K < R
      · have hlt' : (K : Int) < (R : Int) := by omega
        have CM := Lib.hid fun W h => sAcc_c R A3 s.1 (R * R) c3 W ok.l1 ok.l1 hR h
        obtain ⟨b0, b1, b2⟩ := mA.cells
        have hrA := pr.oa.rd'
        clear ok
        go_wp2_with fail
        refine (CM.out _ (by exact (Rd.grows hrA (by exact bel0)))).mono ?_; rintro e w7 hmr
        obtain ⟨Am, cm, As, cs, mu, sq, rfl, rdm, rds, hx, g7⟩ := muRet_out hmr
        clear hmr b0 b1 b2
        have G17 : Grows w1 w7 := by exact bel2 g7 hg
        cases hacc : accF R s.1 R with
        | none =>
          obtain rfl : RES = none := rdg_none HF.out (rdgF_acc hlt hacc)
          clear hacc hx
          (have z2 := m2.grows (w' := w7) (by exact bel1 G17); have z3 := m3.grows (w' := w7) (by exact bel1 G17); obtain ⟨zr0, zr1, zr2⟩ := z2.cells; have zrf := z2.fz; have zrl := z2.lt; obtain ⟨yr0, yr1, yr2⟩ := z3.cells; have yrf := z3.fz; have yrl := z3.lt; go_wp2_with fail; refine bodyPost_ret (v := .tuple #[.agg #[.int .i64 0, .int .i64 0, .slice none 0 0], .agg #[.int .i64 0, .int .i64 0, .slice none 0 0], .bool false]) ?_ rfl ?_; (simp [results, Try.results32, go_sem, zr0, zr1, zr2, zrf, zrl, yr0, yr1, yr2, yrf, yrl]); exact ⟨_, _, rfl, Own.nil _ _, Own.nil _ _, by simp [Value.ownBlock], by exact bel2 G17 g01⟩)
        | some ms =>
          have hms := hx ms hacc
          have hinv := accF_inv hacc
          rw [hms] at hacc hinv
          have HACC := Lib.hid hacc
          have hI1 : mu.length = R := hinv.l1
          have hI2 : sq.length = R := hinv.l2
          have hI3 : ∀ j, j < R → (mu.getD j []).length = j := hinv.row
          clear hx hms hacc hinv
          have hI4 := hI3 K hlt
          by_cases hS2 : S = 200
          · subst hS2
            obtain rfl : RES = none := rdg_none HF.out (rdgF_out hlt)
            (have z2 := m2.grows (w' := w7) (by exact bel1 G17); have z3 := m3.grows (w' := w7) (by exact bel1 G17); obtain ⟨zr0, zr1, zr2⟩ := z2.cells; have zrf := z2.fz; have zrl := z2.lt; obtain ⟨yr0, yr1, yr2⟩ := z3.cells; have yrf := z3.fz; have yrl := z3.lt; go_wp2_with fail; refine bodyPost_ret (v := .tuple #[.agg #[.int .i64 0, .int .i64 0, .slice none 0 0], .agg #[.int .i64 0, .int .i64 0, .slice none 0 0], .bool false]) ?_ rfl ?_; (simp [results, Try.results32, go_sem, zr0, zr1, zr2, zrf, zrl, yr0, yr1, yr2, yrf, yrl]); exact ⟨_, _, rfl, Own.nil _ _, Own.nil _ _, by simp [Value.ownBlock], by exact bel2 G17 g01⟩)
          · have hS3 : ¬ (200 : Int) ≤ (S : Int) := by omega
            have hS4 : (S : Int) < 200 := by omega
            obtain ⟨P, hP⟩ : ∃ P, K = P + 1 := ⟨K - 1, by omega⟩
            obtain ⟨F, hFu⟩ : ∃ F, 200 - S = F + 1 := ⟨200 - S - 1, by omega⟩
            have HFE : RowKit.Hid (200 - (S + 1) = F) := Lib.hid (by omega)
            have hF2 := HF.out
            rw [hFu] at hF2
            have HF2 := Lib.hid hF2
            have HP := Lib.hid hP
            have k0 : IntKind.i64.wrap ((K : Int) - 1) = (P : Int) := by rw [show (K : Int) - 1 = (P : Int) by omega]; exact IntWalk.i64_in _ (by omega)
            have hPK : (P : Int) < (K : Int) := by omega
            have hr7 := rdm
            obtain ⟨bm, om, Ar, cr, rfl, hbm, hcm, rdr, _⟩ := rdm.rowQ K (by rw [hI1]; exact hlt)
            rw [hI4] at hcm
            have hmK : (K : Int) < (mu.length : Int) := by rw [hI1]; exact hlt'
            have HROW := Lib.hid (show mu.getD K [] = mu.getD K [] from rfl)
            obtain ⟨row, hrow⟩ : ∃ x, x = mu.getD K [] := ⟨_, rfl⟩
            rw [← hrow] at rdr hI4
            have HRW := Lib.hid hrow
            clear hF2 hFu hP HROW hrow hI3
            have CIR := Lib.hid fun (q : Q2) W => sIsRatio_c q.1 q.2 W
            change RowKit.Hid (∀ (q : Q2) W, Calls Try.prog 82 #[.agg #[.int .i64 q.1, .int .i64 q.2]] W fun e w' => e = .returned (.bool (okQ q)) ∧ Grows W w') at CIR
            have CRQ := Lib.hid fun (q : Q2) W => sRoundQ_c q W
            go_upto_block 2 with fail
            go_cut [13] (fun j wx => ∃ jj : Int, j = .int .i64 jj ∧ ((jj = -1 ∧ fstJ row K = none) ∨ (∃ J : Nat, jj = (J : Int) ∧ fstJ row K = some J)) ∧ Grows w7 wx)
            case first =>
              go_wp2_with fail
              go_loopw [13] (fun j wr => ∃ q : Nat, j = .int .i64 ((q : Int) - 1) ∧ q ≤ K ∧ fstJ row K = fstJ row q ∧ Grows w7 wr) (fun j _ => (intOf j + 1).toNat)
              case atStart => exact ⟨K, by rw [show (P : Int) = (K : Int) - 1 by (have := HP.out; omega)], Nat.le_refl _, rfl, by exact bel0⟩
              case round =>
                obtain ⟨q, rfl, hqK, hfq, hg8⟩ := hrel
                have HFQ := Lib.hid hfq
                clear hfq
                rcases q with _ | p
                · have e0 : ((0 : Nat) : Int) - 1 = -1 := rfl
                  have HQ0 := Lib.hid (HFQ.out.trans (show fstJ row 0 = none from rfl))
                  rw [e0]
                  go_wp2_with fail
                  go_meet
                  exact ⟨-1, rfl, .inl ⟨rfl, HQ0.out⟩, hg8⟩
                · have e0 : ((p + 1 : Nat) : Int) - 1 = (p : Int) := by omega
                  rw [e0]
                  have hpr : p < row.length := by rw [hI4]; omega
                  have hpi : (p : Int) < (K : Int) := by omega
                  have hp0 : (0 : Int) ≤ (p : Int) := by omega
                  have hpr' : (p : Int) < (row.length : Int) := by omega
                  obtain ⟨br, orr, rfl, hbr, y0, y1⟩ := (rdr.grows hg8) p hpr
                  have hcm8 := (hg8.cell (p := ⟨bm, om + K, none⟩) hbm).trans hcm
                  have HB1 := Lib.hid fun h => fstJ_bad (row := row) (j := p) h
                  have HB2 := Lib.hid fun h h2 => fstJ_next (row := row) (j := p) h h2
                  have HB3 := Lib.hid fun h h2 => fstJ_here (row := row) (j := p) h h2
                  have C1 := CIR.out (nthQ row p)
                  have C2 := Lib.hid fun W => CRQ.out (nthQ row p) W
                  have k1 : IntKind.i64.wrap ((p : Int) - 1) = (p : Int) - 1 := IntWalk.i64_in _ (by omega)
                  generalize nthQ row p = qq at *
                  have HI4 := Lib.hid hI4
                  cases hok : okQ qq
                  · have HT := Lib.hid (HFQ.out.trans (HB1.out hok))
                    rw [hok] at C1
                    have C1' := Lib.hid C1
                    clear C1 hok hI4
                    go_wp2_with fail
                    refine (C1'.out _).mono ?_; rintro e w9 ⟨rfl, g9⟩
                    go_wp2_with fail
                    go_meet
                    exact ⟨(p : Int), rfl, .inr ⟨p, rfl, HT.out⟩, by exact bel2 g9 hg8⟩
                  · rw [hok] at C1
                    have C1' := Lib.hid C1
                    by_cases hz : roundQ qq = 0
                    · have HT := Lib.hid (HFQ.out.trans (HB2.out hok hz))
                      have C2' := C2.out
                      rw [hz] at C2'
                      have C2'' := Lib.hid C2'
                      clear C1 C2' hok hz hI4
                      go_wp2_with fail
                      refine (C1'.out _).mono ?_; rintro e w9 ⟨rfl, g9⟩
                      have y09 := (g9.cell (p := ⟨br, orr + p * 2, none⟩) (by omega)).trans y0
                      have y19 := (g9.cell (p := ⟨br, orr + p * 2 + 1, none⟩) (by omega)).trans y1
                      have hcm9 := (g9.cell (p := ⟨bm, om + K, none⟩) (Nat.lt_of_lt_of_le hbm (Below.size hg8))).trans hcm8
                      go_wp2_with fail
                      refine (C2''.out _).mono ?_; rintro e w10 ⟨rfl, g10⟩
                      go_wp2_with fail
                      go_round
                      case rel => exact ⟨p, rfl, by omega, HT.out, by exact bel3 g10 g9 hg8⟩
                      case measure => simp [intOf]
                    · have HT := Lib.hid (HFQ.out.trans (HB3.out hok hz))
                      have hzb : (roundQ qq == 0) = false := by simpa using hz
                      generalize roundQ qq = rq at *
                      clear C1 hok hI4
                      go_wp2_with fail
                      refine (C1'.out _).mono ?_; rintro e w9 ⟨rfl, g9⟩
                      have y09 := (g9.cell (p := ⟨br, orr + p * 2, none⟩) (by omega)).trans y0
                      have y19 := (g9.cell (p := ⟨br, orr + p * 2 + 1, none⟩) (by omega)).trans y1
                      have hcm9 := (g9.cell (p := ⟨bm, om + K, none⟩) (Nat.lt_of_lt_of_le hbm (Below.size hg8))).trans hcm8
                      go_wp2_with fail
                      refine (C2.out _).mono ?_; rintro e w10 ⟨rfl, g10⟩
                      go_wp2_with fail
                      go_meet
                      exact ⟨(p : Int), rfl, .inr ⟨p, rfl, HT.out⟩, by exact bel3 g10 g9 hg8⟩
            case rest =>
              obtain ⟨jj, rfl, hj, g78⟩ := hcut
              obtain ⟨w8, rfl⟩ : ∃ x : World, x = wc := ⟨_, rfl⟩
              have G18 : Grows w1 w8 := by exact bel2 g78 G17
              have pr8 := (HPR.out.grows (w' := w8) (by exact bel2 g78 g7))
              have mA8 := mA.grows (w' := w8) (by exact bel2 g78 g7)
              have mU8 := mU.grows (w' := w8) (by exact bel2 g78 g7)
              rcases hj with ⟨rfl, hfj⟩ | ⟨J, rfl, hfj⟩
              · -- all before are nearest to 0: the order
                obtain ⟨as_, os_, rfl, has, u0, u1⟩ := (rds.grows g78) P (by rw [hI2]; omega)
                obtain ⟨as2, os2, e2, _, v0, v1⟩ := (rds.grows g78) K (by rw [hI2]; exact hlt)
                simp only [Option.some.injEq, Addr.mk.injEq, and_true] at e2
                obtain ⟨rfl, rfl⟩ := e2
                obtain ⟨br, orr, rfl, hbr, y0, y1⟩ := (rdr.grows g78) P (by rw [hI4]; omega)
                have hcm8 := (g78.cell (p := ⟨bm, om + K, none⟩) hbm).trans hcm
                have x0 := ext_is y0; have x1 := ext_is y1; have x2 := ext_is u0; have x3 := ext_is u1; have x4 := ext_is v0; have x5 := ext_is v1; have x6 := ext_is hcm8
                have hsK : (K : Int) < (sq.length : Int) := by rw [hI2]; exact hlt'
                have hsP : (P : Int) < (sq.length : Int) := by omega
                have hp0 : (0 : Int) ≤ (P : Int) := by omega
                have hPr : (P : Int) < (row.length : Int) := by rw [hI4]; exact hPK
                have hoS : ordS (mu, sq) K = ordQ (nthQ row P) (nthQ sq P) (nthQ sq K) := by
                  unfold ordS
                  simp only
                  rw [← HRW.out, show K - 1 = P by (have := HP.out; omega)]
                have CG := fun W => l19Good_c (nthQ row P) (nthQ sq P) (nthQ sq K) W
                rw [← hoS] at CG
                have hR1 := Lib.hid fun (h : fstJ row K = none) h2 => redS_unknown (R := R) (s := s) (mu := (mu, sq)) (k := K) (by simp only; rw [← HRW.out]; exact h) h2
                have hR2 := Lib.hid fun (h : fstJ row K = none) h2 => redS_good (R := R) (s := s) (mu := (mu, sq)) (k := K) (by simp only; rw [← HRW.out]; exact h) h2
                have hR3 := Lib.hid fun (h : fstJ row K = none) h2 h3 => redS_swap (R := R) (s := s) (mu := (mu, sq)) (k := K) (by simp only; rw [← HRW.out]; exact h) h2 h3
                have HFJ := Lib.hid hfj
                generalize nthQ row P = qa at *
                generalize nthQ sq P = qb at *
                generalize nthQ sq K = qc at *
                have hI4' := Lib.hid hI4
                generalize ordS (mu, sq) K = OO at *
                clear hoS hfj hI4
                by_cases h2 : OO = 2
                · have hgd : (OO == 0 || OO == 1) = false := by rw [h2]; rfl
                  have hkn : (OO != 2) = false := by rw [h2]; rfl
                  rw [hgd, hkn] at CG
                  have CG' := Lib.hid CG
                  obtain rfl : RES = none := rdg_none HF2.out (redS_none_next hlt HACC.out (hR1.out HFJ.out h2))
                  clear CG hgd hkn h2
                  go_wp2_with fail
                  ((refine wp_region_ext (by kernel_rfl) (by kernel_rfl) ?_); (repeat (go_big_quiet_step ((go_at_call 84; with_reducible exact extC (CG'.out _))))); refine wpQuiet_nil ?_; rintro w9 ⟨w90, hw90⟩; have g9 := grows_of_ext hw90; clear hw90 w90)
                  (have z2 := m2.grows (w' := w9) (by exact bel2 g9 G18); have z3 := m3.grows (w' := w9) (by exact bel2 g9 G18); obtain ⟨zr0, zr1, zr2⟩ := z2.cells; have zrf := z2.fz; have zrl := z2.lt; obtain ⟨yr0, yr1, yr2⟩ := z3.cells; have yrf := z3.fz; have yrl := z3.lt; go_wp2_with fail; refine bodyPost_ret (v := .tuple #[.agg #[.int .i64 0, .int .i64 0, .slice none 0 0], .agg #[.int .i64 0, .int .i64 0, .slice none 0 0], .bool false]) ?_ rfl ?_; (simp [results, Try.results32, go_sem, zr0, zr1, zr2, zrf, zrl, yr0, yr1, yr2, yrf, yrl]); exact ⟨_, _, rfl, Own.nil _ _, Own.nil _ _, by simp [Value.ownBlock], by exact bel3 g9 G18 g01⟩)
                · by_cases h3 : OO = 0 ∨ OO = 1
                  · have hgd : (OO == 0 || OO == 1) = true := by rcases h3 with h | h <;> rw [h] <;> rfl
                    have hkn : (OO != 2) = true := by simpa using h2
                    rw [hgd, hkn] at CG
                    have CG' := Lib.hid CG
                    have HNX := Lib.hid (redS_some_next (F := F) hlt HACC.out (hR2.out HFJ.out h3))
                    have hok := HOK.out
                    have CBa := fun W h => l1Bads_c A3 s.1 (R * R) c3 W hok.l1 h (by omega)
                    have CBu := fun W h => l1Bads_c U s.2 (R * R) cu W hok.l2 h (by omega)
                    rw [anyBad_mkd (mkd_of hok.n1), hok.n1] at CBa
                    rw [anyBad_mkd (mkd_of hok.n2), hok.n2] at CBu
                    have CBa' := Lib.hid CBa
                    have CBu' := Lib.hid CBu
                    clear CG hgd hkn h2 h3 CBa CBu hok
                    go_wp2_with fail
                    ((refine wp_region_ext (by kernel_rfl) (by kernel_rfl) ?_); (repeat (go_big_quiet_step ((go_at_call 84; with_reducible exact extC (CG'.out _))))); refine wpQuiet_nil ?_; rintro w9 ⟨w90, hw90⟩; have g9 := grows_of_ext hw90; clear hw90 w90)
                    have pr9 := pr8.grows g9
                    have mA9 := mA8.grows g9
                    have mU9 := mU8.grows g9
                    obtain ⟨b0, b1, b2⟩ := mA9.cells
                    obtain ⟨d0, d1, d2⟩ := mU9.cells
                    go_wp2_with fail
                    refine (CBa'.out _ pr9.oa.rd').mono ?_; rintro e w' ⟨rfl, rfl⟩
                    go_wp2_with fail
                    refine (CBu'.out _ pr9.ou.rd').mono ?_; rintro e w' ⟨rfl, rfl⟩
                    go_wp2_with fail
                    go_round
                    case rel => exact ⟨K + 1, S + 1, s, by go_num, by go_num, by omega, .inl (by omega), by omega, HOK.out, by rw [HFE.out, HF2.out, HNX.out], pr9, mA9, mU9, by exact bel2 g9 G18, by have := Below.size g9; have := Below.size g78; have := Below.size g7; omega⟩
                    case measure => simp [intOf]; omega
                  · have hgd : (OO == 0 || OO == 1) = false := by simpa using h3
                    have hkn : (OO != 2) = true := by simpa using h2
                    rw [hgd, hkn] at CG
                    have CG' := Lib.hid CG
                    have HNX := Lib.hid (redS_some_next (F := F) hlt HACC.out (hR3.out HFJ.out h2 h3))
                    have hok := HOK.out
                    have hok2 := bothW_ok hok hlt (show K - 1 < R by omega)
                    have HOK2 := Lib.hid hok2
                    have CBW := Lib.hid fun W pr => bothSwp_c R A3 U (R * R) c3 (R * R) cu w1.heap.size K P s.1 s.2 W pr hok.l1 hok.l2 rfl rfl hR hlt (by have := HP.out; omega) (by have := HP.out; omega)
                    have hPK1 : K - 1 = P := by have := HP.out; omega
                    rw [hPK1] at HNX HOK2 hok2
                    have CBa := fun W h => l1Bads_c A3 (bothW R K P s).1 (R * R) c3 W hok2.l1 h (by omega)
                    have CBu := fun W h => l1Bads_c U (bothW R K P s).2 (R * R) cu W hok2.l2 h (by omega)
                    rw [anyBad_mkd (mkd_of hok2.n1), hok2.n1] at CBa
                    rw [anyBad_mkd (mkd_of hok2.n2), hok2.n2] at CBu
                    have CBa' := Lib.hid CBa
                    have CBu' := Lib.hid CBu
                    have HPK1 := Lib.hid hPK1
                    clear CG hgd hkn h2 h3 CBa CBu hok hok2 hPK1
                    go_wp2_with fail
                    ((refine wp_region_ext (by kernel_rfl) (by kernel_rfl) ?_); (repeat (go_big_quiet_step ((go_at_call 84; with_reducible exact extC (CG'.out _))))); refine wpQuiet_nil ?_; rintro w9 ⟨w90, hw90⟩; have g9 := grows_of_ext hw90; clear hw90 w90)
                    have pr9 := pr8.grows g9
                    have mA9 := mA8.grows g9
                    have mU9 := mU8.grows g9
                    obtain ⟨b0, b1, b2⟩ := mA9.cells
                    obtain ⟨d0, d1, d2⟩ := mU9.cells
                    have hs79 : w5.heap.size ≤ w9.heap.size := by have := Below.size g9; have := Below.size g78; have := Below.size g7; omega
                    go_wp2_with fail
                    refine (CBW.out _ pr9).mono ?_; rintro e w10 ⟨rfl, pr10, g10⟩
                    have mA10 := mA9.two g10 (fun g h => by have := HA.out g h; omega) (fun g h => by have := HU.out g h; omega)
                    have mU10 := mU9.two g10 (fun g h => by have := HA.out g h; omega) (fun g h => by have := HU.out g h; omega)
                    have b10 : Below w1.heap.size w9 w10 := g10.below (Below.size (show Grows w1 w9 by exact bel2 g9 G18)) (fun g h => by have := HA.out g h; omega) (fun g h => by have := HU.out g h; omega)
                    have g110 : Grows w1 w10 := Below.trans (show Grows w1 w9 by exact bel2 g9 G18) b10
                    have hs910 := g10.size
                    clear b0 b1 b2 d0 d1 d2 g10
                    obtain ⟨b0, b1, b2⟩ := mA10.cells
                    obtain ⟨d0, d1, d2⟩ := mU10.cells
                    have HPV := Lib.hid (show P < R by have := HP.out; omega)
                    go_wp2_with fail
                    all_goals
                      refine (CBa'.out _ pr10.oa.rd').mono ?_; rintro e w' ⟨rfl, rfl⟩
                      go_wp2_with fail
                      refine (CBu'.out _ pr10.ou.rd').mono ?_; rintro e w' ⟨rfl, rfl⟩
                      go_wp2_with fail
                      go_round
                      case rel => exact ⟨max 1 P, S + 1, bothW R K P s, by (have hpv := HPV.out; first | rfl | (congr 1; omega) | (simp; omega)), by go_num, by omega, .inl (by have := HPV.out; omega), by omega, HOK2.out, by rw [HFE.out, HF2.out, HNX.out], pr10, mA10, mU10, g110, by omega⟩
                      case measure => simp [intOf]; omega
              · -- the last one that is not
                have hJK := fstJ_lt hfj
                have hJP : J < row.length := by rw [hI4]; exact hJK
                obtain ⟨br, orr, rfl, hbr, y0, y1⟩ := (rdr.grows g78) J hJP
                have hcm8 := (g78.cell (p := ⟨bm, om + K, none⟩) hbm).trans hcm
                have hj0 : (0 : Int) ≤ (J : Int) := by omega
                have hjr : (J : Int) < (row.length : Int) := by omega
                have hjk : (J : Int) < (K : Int) := by omega
                have C1 := CIR.out (nthQ row J)
                have C2 := Lib.hid fun W => CRQ.out (nthQ row J) W
                have hR1 := Lib.hid fun h2 => redS_bad (R := R) (s := s) (mu := (mu, sq)) (k := K) (j := J) (by simp only; rw [← HRW.out]; exact hfj) h2
                have hR2 := Lib.hid fun h2 => redS_add (R := R) (s := s) (mu := (mu, sq)) (k := K) (j := J) (by simp only; rw [← HRW.out]; exact hfj) h2
                simp only at hR1 hR2
                rw [← HRW.out] at hR1 hR2
                have HRN := Lib.hid fun h => round_num (q := nthQ row J) h
                generalize nthQ row J = qq at *
                have HI4 := Lib.hid hI4
                clear hfj hI4
                cases hok : okQ qq
                · obtain rfl : RES = none := rdg_none HF2.out (redS_none_next hlt HACC.out (hR1.out hok))
                  rw [hok] at C1
                  have C1' := Lib.hid C1
                  clear C1 hok
                  go_wp2_with fail
                  refine (C1'.out _).mono ?_; rintro e w9 ⟨rfl, g9⟩
                  (have z2 := m2.grows (w' := w9) (by exact bel2 g9 G18); have z3 := m3.grows (w' := w9) (by exact bel2 g9 G18); obtain ⟨zr0, zr1, zr2⟩ := z2.cells; have zrf := z2.fz; have zrl := z2.lt; obtain ⟨yr0, yr1, yr2⟩ := z3.cells; have yrf := z3.fz; have yrl := z3.lt; go_wp2_with fail; refine bodyPost_ret (v := .tuple #[.agg #[.int .i64 0, .int .i64 0, .slice none 0 0], .agg #[.int .i64 0, .int .i64 0, .slice none 0 0], .bool false]) ?_ rfl ?_; (simp [results, Try.results32, go_sem, zr0, zr1, zr2, zrf, zrl, yr0, yr1, yr2, yrf, yrl]); exact ⟨_, _, rfl, Own.nil _ _, Own.nil _ _, by simp [Value.ownBlock], by exact bel3 g9 G18 g01⟩)
                · have HS2 := hR2.out hok
                  have hrn := HRN.out hok
                  rw [hok] at C1
                  have C1' := Lib.hid C1
                  clear C1 hok HRN hR1 hR2
                  generalize roundQ qq = rq at *
                  have hnb := (isNum_iff rq).1 hrn
                  have hnn : isNum (-rq) = true := (isNum_iff _).2 (by omega)
                  have kn : IntKind.i64.wrap (-rq) = -rq := IntWalk.i64_in _ (by omega)
                  have hsk := HOK.out
                  rw [bothA_two hsk] at HS2
                  have CBA := Lib.hid fun W pr => bothAdd_c R A3 U (R * R) c3 (R * R) cu w1.heap.size K J (-rq) s.1 s.2 W pr hsk.l1 hsk.l2 rfl rfl hR (mkd_of hsk.n1) (mkd_of hsk.n2) hlt (by omega) hnn
                  have hml1 := addCT_mkd (i := K) (j := J) (t := -rq) (addT_length R R K J (-rq) s.1) (addT_mkd hsk.l1 (mkd_of hsk.n1))
                  have hml2 := addT_mkd (i := K) (j := J) (t := -rq) hsk.l2 (mkd_of hsk.n2)
                  have CBa := fun W h => l1Bads_c A3 (addCT R R K J (-rq) (addT R R K J (-rq) s.1)) (R * R) c3 W (addCT_length _ _ _ _ _ _) h (by omega)
                  have CBu := fun W h => l1Bads_c U (addT R R K J (-rq) s.2) (R * R) cu W (addT_length _ _ _ _ _ _) h (by omega)
                  rw [anyBad_mkd hml1] at CBa
                  rw [anyBad_mkd hml2] at CBu
                  have HAL := Lib.hid (addCT_length R R K J (-rq) (addT R R K J (-rq) s.1))
                  have HUL := Lib.hid (addT_length R R K J (-rq) s.2)
                  generalize addCT R R K J (-rq) (addT R R K J (-rq) s.1) = a2 at *
                  generalize addT R R K J (-rq) s.2 = u2 at *
                  have HS2' := Lib.hid HS2
                  clear HS2 hml1 hml2 hsk hrn hnn
                  go_wp2_with fail
                  refine (C1'.out _).mono ?_; rintro e w9 ⟨rfl, g9⟩
                  have y09 := (g9.cell (p := ⟨br, orr + J * 2, none⟩) hbr).trans y0
                  have y19 := (g9.cell (p := ⟨br, orr + J * 2 + 1, none⟩) hbr).trans y1
                  have hcm9 := (g9.cell (p := ⟨bm, om + K, none⟩) (Nat.lt_of_lt_of_le hbm (Below.size g78))).trans hcm8
                  have pr9 := pr8.grows g9
                  have mA9 := mA8.grows g9
                  have mU9 := mU8.grows g9
                  have hs79 : w5.heap.size ≤ w9.heap.size := by have := Below.size g9; have := Below.size g78; have := Below.size g7; omega
                  have x0 := ext_is y09; have x1 := ext_is y19; have x6 := ext_is hcm9
                  have e0 := mA9.ext.1; have e1 := mA9.ext.2.1; have e2 := mA9.ext.2.2
                  have f0 := mU9.ext.1; have f1 := mU9.ext.2.1; have f2 := mU9.ext.2.2
                  go_wp2_with fail
                  ((refine wp_region_tail 14 (by kernel_rfl) (by kernel_rfl) ?_; simp only [List.take_succ_cons, List.take_zero, List.drop_succ_cons, List.drop_zero]); (repeat (go_big_quiet_step ((go_at_call 53; with_reducible exact extC (C2.out _))))); refine wpQuiet_nil ?_; rintro w10 ⟨w100, hw100⟩; have g10 := grows_of_ext hw100; clear hw100 w100)
                  have pr10 := pr9.grows g10
                  have mA10 := mA9.grows g10
                  have mU10 := mU9.grows g10
                  have hs910 := Below.size g10
                  have G110 : Grows w1 w10 := by exact bel3 g10 g9 G18
                  clear x0 x1 x6 e0 e1 e2 f0 f1 f2 y09 y19 hcm9
                  go_wp2_with fail
                  refine (CBA.out _ pr10).mono ?_; rintro e w11 ⟨rfl, pr11, g11⟩
                  have mA11 := mA10.two g11 (fun g h => by have := HA.out g h; omega) (fun g h => by have := HU.out g h; omega)
                  have mU11 := mU10.two g11 (fun g h => by have := HA.out g h; omega) (fun g h => by have := HU.out g h; omega)
                  have b11 : Below w1.heap.size w10 w11 := g11.below (Below.size G110) (fun g h => by have := HA.out g h; omega) (fun g h => by have := HU.out g h; omega)
                  have g111 : Grows w1 w11 := Below.trans G110 b11
                  have hs1011 := g11.size
                  clear g11 y0 y1 hcm8
                  obtain ⟨b0, b1, b2⟩ := mA11.cells
                  obtain ⟨d0, d1, d2⟩ := mU11.cells
                  cases hn1 : allNum a2
                  · obtain rfl : RES = none := rdg_none HF2.out (redS_none_next hlt HACC.out (by rw [HS2'.out, none_two (.inl hn1)]; rfl))
                    rw [hn1] at CBa
                    have CBa' := Lib.hid CBa
                    clear CBa CBu hn1
                    go_wp2_with fail
                    refine (CBa'.out _ pr11.oa.rd').mono ?_; rintro e w' ⟨rfl, rfl⟩
                    (have z2 := m2.grows (w' := w11) (by exact bel1 g111); have z3 := m3.grows (w' := w11) (by exact bel1 g111); obtain ⟨zr0, zr1, zr2⟩ := z2.cells; have zrf := z2.fz; have zrl := z2.lt; obtain ⟨yr0, yr1, yr2⟩ := z3.cells; have yrf := z3.fz; have yrl := z3.lt; go_wp2_with fail; refine bodyPost_ret (v := .tuple #[.agg #[.int .i64 0, .int .i64 0, .slice none 0 0], .agg #[.int .i64 0, .int .i64 0, .slice none 0 0], .bool false]) ?_ rfl ?_; (simp [results, Try.results32, go_sem, zr0, zr1, zr2, zrf, zrl, yr0, yr1, yr2, yrf, yrl]); exact ⟨_, _, rfl, Own.nil _ _, Own.nil _ _, by simp [Value.ownBlock], by exact bel2 g111 g01⟩)
                  · cases hn2 : allNum u2
                    · obtain rfl : RES = none := rdg_none HF2.out (redS_none_next hlt HACC.out (by rw [HS2'.out, none_two (.inr hn2)]; rfl))
                      rw [hn1] at CBa
                      rw [hn2] at CBu
                      have CBa' := Lib.hid CBa
                      have CBu' := Lib.hid CBu
                      clear CBa CBu hn1 hn2
                      go_wp2_with fail
                      refine (CBa'.out _ pr11.oa.rd').mono ?_; rintro e w' ⟨rfl, rfl⟩
                      go_wp2_with fail
                      refine (CBu'.out _ pr11.ou.rd').mono ?_; rintro e w' ⟨rfl, rfl⟩
                      (have z2 := m2.grows (w' := w11) (by exact bel1 g111); have z3 := m3.grows (w' := w11) (by exact bel1 g111); obtain ⟨zr0, zr1, zr2⟩ := z2.cells; have zrf := z2.fz; have zrl := z2.lt; obtain ⟨yr0, yr1, yr2⟩ := z3.cells; have yrf := z3.fz; have yrl := z3.lt; go_wp2_with fail; refine bodyPost_ret (v := .tuple #[.agg #[.int .i64 0, .int .i64 0, .slice none 0 0], .agg #[.int .i64 0, .int .i64 0, .slice none 0 0], .bool false]) ?_ rfl ?_; (simp [results, Try.results32, go_sem, zr0, zr1, zr2, zrf, zrl, yr0, yr1, yr2, yrf, yrl]); exact ⟨_, _, rfl, Own.nil _ _, Own.nil _ _, by simp [Value.ownBlock], by exact bel2 g111 g01⟩)
                    · have HNX := Lib.hid (redS_some_next (F := F) (y := ((a2, u2), K)) hlt HACC.out (by rw [HS2'.out]; unfold two; rw [hn1, hn2]; rfl))
                      have HOK2 := Lib.hid (show Ok2 R R ((a2, u2) : LL) from ⟨HAL.out, HUL.out, hn1, hn2⟩)
                      rw [hn1] at CBa
                      rw [hn2] at CBu
                      have CBa' := Lib.hid CBa
                      have CBu' := Lib.hid CBu
                      clear CBa CBu hn1 hn2
                      go_wp2_with fail
                      refine (CBa'.out _ pr11.oa.rd').mono ?_; rintro e w' ⟨rfl, rfl⟩
                      go_wp2_with fail
                      refine (CBu'.out _ pr11.ou.rd').mono ?_; rintro e w' ⟨rfl, rfl⟩
                      go_wp2_with fail
                      go_round
                      case rel => exact ⟨K, S + 1, (a2, u2), rfl, by go_num, hK1, hKR, by omega, HOK2.out, by rw [HFE.out, HF2.out, HNX.out], pr11, mA11, mU11, g111, by omega⟩
                      case measure => simp [intOf]; omega
      · obtain rfl : RES = some ((⟨R, R, s.1⟩ : MX), (⟨R, R, s.2⟩ : MX)) := by rw [HF.out, rdgF_end (x := (s, K)) hlt]; rfl
        have hle : (R : Int) ≤ (K : Int) := by omega
        have z2 := m2.grows hg; have z3 := m3.grows hg
        obtain ⟨zr0, zr1, zr2⟩ := z2.cells; have zrf := z2.fz; have zrl := z2.lt
        obtain ⟨yr0, yr1, yr2⟩ := z3.cells; have yrf := z3.fz; have yrl := z3.lt
        have hs5 := Below.size g15
        obtain ⟨b0, b1, b2⟩ := mA.cells
        clear HOK ok HF
        go_wp2_with fail
        (refine wp_region_heldL (fun W => W.cell? ⟨w3.heap.size, 0, none⟩ = some (.int .i64 R) ∧ W.cell? ⟨w3.heap.size, 1, none⟩ = some (.int .i64 R) ∧ W.cell? ⟨w3.heap.size, 2, none⟩ = some (.slice A3 (R * R) c3) ∧ W.cell? ⟨w4.heap.size, 0, none⟩ = some (.int .i64 R) ∧ W.cell? ⟨w4.heap.size, 1, none⟩ = some (.int .i64 R) ∧ W.cell? ⟨w4.heap.size, 2, none⟩ = some (.slice U (R * R) cu)) (by kernel_rfl) (by ((try dsimp only); (exact two_boxes2 (v := .slice A3 (R * R) c3) (v' := .slice U (R * R) cu) (by ((repeat' (first | with_reducible exact mA | with_reducible refine MBox.alloc ?_ _ | with_reducible refine MBox.drew_ ?_ | with_reducible refine MBox.far ?_ ?_ _)); all_goals (first | omega | (simp; done) | (simp; omega)))) (by ((repeat' (first | with_reducible exact mU | with_reducible refine MBox.alloc ?_ _ | with_reducible refine MBox.drew_ ?_ | with_reducible refine MBox.far ?_ ?_ _)); all_goals (first | omega | (simp; done) | (simp; omega))))))) (fun hHeld => ?_); refine heldL_take (i := 0) (v := _) (by rfl) (by kernel_rfl) (by kernel_rfl) (by kernel_rfl) (fun _ _ _ h => h) (Or.inl ⟨by rfl, fun wS hSw => by ((try dsimp only at hSw); go_simp; (try with_reducible rfl))⟩) (by assumption) ?_; simp only [Act.put, List.setIfInBounds_toArray, List.set_cons_zero, List.set_cons_succ]; refine heldL_take (i := 1) (v := _) (by rfl) (by kernel_rfl) (by kernel_rfl) (by kernel_rfl) (fun _ _ _ h => h) (Or.inl ⟨by rfl, fun wS hSw => by ((try dsimp only at hSw); go_simp; (try with_reducible rfl))⟩) (by assumption) ?_; simp only [Act.put, List.setIfInBounds_toArray, List.set_cons_zero, List.set_cons_succ]; refine heldL_step (i := 2) (by kernel_rfl) (by rfl) (fun K hK => ?_); go_simp; refine hK.out _ _ (by ((try dsimp only); (exact two_boxes2 (v := .slice A3 (R * R) c3) (v' := .slice U (R * R) cu) (by ((repeat' (first | with_reducible exact mA | with_reducible refine MBox.alloc ?_ _ | with_reducible refine MBox.drew_ ?_ | with_reducible refine MBox.far ?_ ?_ _)); all_goals (first | omega | (simp; done) | (simp; omega)))) (by ((repeat' (first | with_reducible exact mU | with_reducible refine MBox.alloc ?_ _ | with_reducible refine MBox.drew_ ?_ | with_reducible refine MBox.far ?_ ?_ _)); all_goals (first | omega | (simp; done) | (simp; omega))))))) (fun hHeld => ?_); clear hK K; (try simp only [Act.put, List.setIfInBounds_toArray, List.set_cons_zero, List.set_cons_succ]); refine heldL_step (i := 3) (by kernel_rfl) (by rfl) (fun K hK => ?_); go_simp; refine hK.out _ _ (by ((try dsimp only); (exact two_boxes2 (v := .slice A3 (R * R) c3) (v' := .slice U (R * R) cu) (by ((repeat' (first | with_reducible exact mA | with_reducible refine MBox.alloc ?_ _ | with_reducible refine MBox.drew_ ?_ | with_reducible refine MBox.far ?_ ?_ _)); all_goals (first | omega | (simp; done) | (simp; omega)))) (by ((repeat' (first | with_reducible exact mU | with_reducible refine MBox.alloc ?_ _ | with_reducible refine MBox.drew_ ?_ | with_reducible refine MBox.far ?_ ?_ _)); all_goals (first | omega | (simp; done) | (simp; omega))))))) (fun hHeld => ?_); clear hK K; (try simp only [Act.put, List.setIfInBounds_toArray, List.set_cons_zero, List.set_cons_succ]); refine heldL_take (i := 4) (v := _) (by rfl) (by kernel_rfl) (by kernel_rfl) (by kernel_rfl) (fun _ _ _ h => h) (Or.inl ⟨by rfl, fun wS hSw => by ((try dsimp only at hSw); go_simp; (try with_reducible rfl))⟩) (by assumption) ?_; simp only [Act.put, List.setIfInBounds_toArray, List.set_cons_zero, List.set_cons_succ]; refine wpAnyH_done (by kernel_rfl) ?_ _; refine NoPanic.normal ?_)
        go_wp2_with fail
        refine bodyPost_ret (v := .tuple #[.agg #[.int .i64 R, .int .i64 R, .slice A3 (R * R) c3], .agg #[.int .i64 R, .int .i64 R, .slice U (R * R) cu], .bool true]) ?_ rfl ?_
        · simp [results, Try.results32, go_sem, zr0, zr1, zr2, zrf, zrl, yr0, yr1, yr2, yrf, yrl]
        · have hoA : Own wr w1.heap.size (.slice A3 (R * R) c3) (oM2 (some ((⟨(R : Int), (R : Int), s.1⟩ : MX), (⟨(R : Int), (R : Int), s.2⟩ : MX)))).1.l := pr.oa
          have hoU : Own wr w1.heap.size (.slice U (R * R) cu) (oM2 (some ((⟨(R : Int), (R : Int), s.1⟩ : MX), (⟨(R : Int), (R : Int), s.2⟩ : MX)))).2.l := pr.ou
          exact ⟨_, _, rfl, by exact ownl hoA, by exact ownl hoU, pr.ne, by exact bel2 hg g01⟩
end
end Go.Proofs.Ytpgoefdeodoacaa
