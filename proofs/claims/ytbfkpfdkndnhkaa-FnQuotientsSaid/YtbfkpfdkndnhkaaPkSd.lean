/- Contracts and lemmas, put together. -/
import Derived.Test.YtbfkpfdkndnhkaaPkGh
import Derived.Test.YtbfkpfdkndnhkaaPkSb
import Derived.Test.YtbfkpfdkndnhkaaPkSc
/- Contract: all rounds of the Smith form, the reference's. -/
namespace Go.Proofs.Ytbfkpfdkndnhkaa
set_option linter.unusedSimpArgs false
set_option linter.unusedVariables false
open Go.RowKit

/-- what the rounds answer -/
def SmiS (R C B : Nat) (A U V : Option Addr) (n cap m cap2 k cap3 : Nat) (s0 : L3) (w : World) (e : Ending) (w' : World) : Prop := ∃ (o : Option L3) (x : L3), e = .returned (.bool o.isSome) ∧ RowKit.Hid (SmF R C 0 s0 o) ∧ RowKit.Hid (∀ y, o = some y → y = x) ∧ Tr w' B A U V n cap m cap2 k cap3 x ∧ GrownP (TB A U V n cap m cap2 k cap3) w w'
section
set_option maxHeartbeats 40000000
set_option maxRecDepth 100000
theorem l13Smith_c (R C : Nat) (A U V : Option Addr) (n cap m cap2 k cap3 B : Nat) (s0 : L3) (w : World) (hn : n = R * C) (hm : m = R * R) (hk : k = C * C) (hR : R ≤ 24) (hC : C ≤ 24) (ok : Ok3 R C s0) (tr : Tr w B A U V n cap m cap2 k cap3 s0) :
    Calls Try.prog 167 #[.agg #[.int .i64 R, .int .i64 C, .slice A n cap], .agg #[.int .i64 R, .int .i64 R, .slice U m cap2], .agg #[.int .i64 C, .int .i64 C, .slice V k cap3]] w (SmiS R C B A U V n cap m cap2 k cap3 s0 w) := by
  obtain ⟨w1, hw1, mbA1, mbU1, mbV1, g01⟩ := three_box w R C R R C C (.slice A n cap) (.slice U m cap2) (.slice V k cap3)
  have hlo := tr.lo
  have MA := Lib.hid fun wr (g : GrownP (TB A U V n cap m cap2 k cap3) w1 wr) => mbA1.farP g (fun h => by have := (hlo _ h).2; omega)
  have MU := Lib.hid fun wr (g : GrownP (TB A U V n cap m cap2 k cap3) w1 wr) => mbU1.farP g (fun h => by have := (hlo _ h).2; omega)
  have MV := Lib.hid fun wr (g : GrownP (TB A U V n cap m cap2 k cap3) w1 wr) => mbV1.farP g (fun h => by have := (hlo _ h).2; omega)
  have tr1 := tr.grows g01
  have HW1 := Lib.hid hw1
  have G01 := Lib.hid g01
  have OK0 := Lib.hid ok
  have hRC : R * C ≤ 576 := Nat.mul_le_mul hR hC
  have hRR : R * R ≤ 576 := Nat.mul_le_mul hR hR
  have hCC : C * C ≤ 576 := Nat.mul_le_mul hC hC
  have hIC : ∀ i, i < R → i * C ≤ 576 := fun i hi => by have := Nat.mul_le_mul_right C (Nat.le_of_lt hi); omega
  have CC := Lib.hid fun (z : L3) (mk : Mk3 R C z) (i J : Nat) (hi : i < R) (hJ : J < C) W h => l12Cell_c R C A z.1 n cap i J W (mk.l1.trans hn.symm) h (castMul i C) (by have := castMulLe (hIC i hi); omega) (castPos i C J) (castLt (by rw [mk.l1]; exact idx_lt hi hJ)) (by rw [mk.l1]; omega)
  have CL := Lib.hid fun T (y : L3) (h1 : T < R) (h2 : T < C) (ok : Ok3 R C y) W h => l13Least_c R C T A y.1 n cap W (ok.l1.trans hn.symm) hn hR hC (Nat.le_of_lt h1) (Nat.le_of_lt h2) (fun i hi => (allNum_iff _).1 ok.n1 i (by rw [ok.l1, ← hn]; exact hi)) h
  have CS := Lib.hid fun i j (z : L3) W (hi : i < R) (hj : j < R) (hij : i ≠ j) (mk : Mk3 R C z) (tr : Tr W B A U V n cap m cap2 k cap3 z) => opSwp3_c hn hm hR hC hi hj hij mk tr
  have CN := Lib.hid fun i (z : L3) W (hi : i < R) (mk : Mk3 R C z) (tr : Tr W B A U V n cap m cap2 k cap3 z) => opNeg3_c hn hm hR hC hi mk tr
  have CA := Lib.hid fun i j (z : L3) W (hi : i < C) (hj : j < C) (hij : i ≠ j) (mk : Mk3 R C z) (tr : Tr W B A U V n cap m cap2 k cap3 z) => colSwpA_c hn hR hC hi hj hij (mk.l1.trans hn.symm) tr
  have CV := Lib.hid fun i j (z : L3) W (hi : i < C) (hj : j < C) (hij : i ≠ j) (h3 : z.2.2.length = C * C) (tr : Tr W B A U V n cap m cap2 k cap3 z) => colSwpV_c hk hC hi hj hij (h3.trans hk.symm) tr
  have CR := Lib.hid fun T (z : L3) W (ok : Ok3 R C z) (h1 : T < R) (h2 : T < C) (hne : nth z.1 (T * C + T) ≠ 0) (tr : Tr W B A U V n cap m cap2 k cap3 z) => l13Round_c R C T A U V n cap m cap2 k cap3 B z W hn hm hk hR hC ok h1 h2 hne tr
  have B1 := Lib.hid fun (z : L3) (mk : Mk3 R C z) W h => l1Bads_c A z.1 n cap W (mk.l1.trans hn.symm) h (by omega)
  have B2 := Lib.hid fun (z : L3) (mk : Mk3 R C z) W h => l1Bads_c U z.2.1 m cap2 W (mk.l2.trans hm.symm) h (by omega)
  have B3 := Lib.hid fun (z : L3) (mk : Mk3 R C z) W h => l1Bads_c V z.2.2 k cap3 W (mk.l3.trans hk.symm) h (by omega)
  obtain ⟨M, hMR, hMC, hM2⟩ : ∃ M : Nat, M ≤ R ∧ M ≤ C ∧ (M = R ∨ M = C) := ⟨min R C, by omega, by omega, by omega⟩
  have HMC := Lib.hid fun (T : Nat) (h : T < M) => (⟨by omega, by omega⟩ : T < R ∧ T < C)
  have HMN := Lib.hid fun (T : Nat) (h : ¬ T < M) => (fun h2 => by omega : ¬ (T < R ∧ T < C))
  clear hw1 hn hm hk hlo mbA1 mbU1 mbV1 hIC hRC hRR hCC tr ok g01 hM2
  go_enter Try.func167, Try.ntmps167
  go_wp2_with fail
  rw [← HW1.out]
  go_loopw [7] (fun tv wr => ∃ (T : Nat) (s : L3), tv = .int .i64 T ∧ T ≤ M ∧ RowKit.Hid (Ok3 R C s ∧ ∀ r, SmF R C T s r → SmF R C 0 s0 r) ∧ Tr wr B A U V n cap m cap2 k cap3 s ∧ GrownP (TB A U V n cap m cap2 k cap3) w1 wr) (fun tv _ => M - (intOf tv).toNat)
  case atStart => exact ⟨0, s0, rfl, Nat.zero_le _, Lib.hid ⟨OK0.out, fun r h => h⟩, tr1, GrownP.refl _⟩
  case round =>
    clear tr1
    obtain ⟨T, s, rfl, hT, HF, tr, gr⟩ := hrel
    obtain ⟨wh, rfl⟩ : ∃ wo : World, wo = wr := ⟨_, rfl⟩
    by_cases hCR : C < R
    all_goals (
      obtain ⟨a0, a1, a2⟩ := (MA.out wh gr).cells
      by_cases hlt : T < M
      · have hlt' : (T : Int) < (M : Int) := by omega
        obtain ⟨hTR, hTC⟩ := HMC.out T hlt
        have hTR' : (T : Int) < (R : Int) := by omega
        have hTC' : (T : Int) < (C : Int) := by omega
        have OKS := Lib.hid HF.out.1
        have HGO := Lib.hid HF.out.2
        clear HF
        go_wp2_with fail
        go_loopg [8] (smu R C T s.1 + 2) (fun gk d wr => ∃ (dn : Bool) (y : L3), d = .bool dn ∧ RowKit.Hid (Ok3 R C y ∧ (dn = false → (∀ r, SmT R C T y r → SmT R C T s r) ∧ (y = s ∨ (lst R C T s.1 ≠ none ∧ lst R C T y.1 ≠ none)) ∧ smu R C T y.1 + 2 ≤ gk) ∧ (dn = true → lst R C T s.1 ≠ none ∧ SmT R C T s (some (ngv R C T y)))) ∧ Tr wr B A U V n cap m cap2 k cap3 y ∧ GrownP (TB A U V n cap m cap2 k cap3) w1 wr)
        case atStart => exact ⟨false, s, rfl, Lib.hid ⟨OKS.out, fun _ => ⟨fun r h => h, .inl rfl, Nat.le_refl _⟩, (fun h => by cases h)⟩, tr, gr⟩
        case round =>
          clear tr gr a0 a1 a2
          obtain ⟨dn, y, rfl, HY, tr, gr⟩ := hrel
          obtain ⟨a0, a1, a2⟩ := (MA.out wr gr).cells
          obtain ⟨u0, u1, u2⟩ := (MU.out wr gr).cells
          obtain ⟨v0, v1, v2⟩ := (MV.out wr gr).cells
          have OKY := Lib.hid HY.out.1
          cases dn with
          | true =>
            have hd : lst R C T s.1 ≠ none ∧ SmT R C T s (some (ngv R C T y)) := by first | exact HY.out.2.2 rfl | exact HY.out.2.2 trivial
            have HD := Lib.hid hd
            have C2 := fun W h => CC.out y OKY.out.mk3 T T hTR hTC W h
            rw [castIdx] at C2
            have HSX := Lib.hid fun r h => HGO.out r (SmF.step hTR hTC HD.out.1 HD.out.2 h)
            have HNX := Lib.hid (show Ok3 R C (ngv R C T y) from ngv_ok OKY.out hTR)
            clear hd HY
            by_cases hneg : nth y.1 (T * C + T) < 0
            · have HX := Lib.hid (show ngv R C T y = negR3 R C T y by unfold ngv; rw [if_pos hneg])
              have CN1 := Lib.hid fun W tr => CN.out T y W hTR OKY.out.mk3 tr
              generalize nth y.1 (T * C + T) = x1 at *
              have C2' := Lib.hid C2
              clear C2
              go_wp2_with fail
              refine (C2'.out _ tr.oa.rd').mono ?_; rintro e w5 ⟨rfl, g5⟩
              replace tr := tr.grows g5
              replace gr := gr.right g5
              clear a0 a1 a2 u0 u1 u2 v0 v1 v2 g5
              obtain ⟨a0, a1, a2⟩ := (MA.out w5 gr).cells
              obtain ⟨u0, u1, u2⟩ := (MU.out w5 gr).cells
              go_wp2_with fail
              refine (CN1.out _ tr).mono ?_; rintro e w6 ⟨rfl, tr6, g6⟩
              replace gr := gr.trans g6
              clear tr g6 a0 a1 a2 u0 u1 u2
              go_wp2_with fail
              go_round
              case rel => exact ⟨T + 1, ngv R C T y, by go_num, by omega, Lib.hid ⟨HNX.out, HSX.out⟩, by rw [HX.out]; exact tr6, gr⟩
              case measure => simp [intOf]; omega
            · have HX := Lib.hid (show ngv R C T y = y by unfold ngv; rw [if_neg hneg])
              generalize nth y.1 (T * C + T) = x1 at *
              have C2' := Lib.hid C2
              clear C2
              go_wp2_with fail
              refine (C2'.out _ tr.oa.rd').mono ?_; rintro e w5 ⟨rfl, g5⟩
              go_wp2_with fail
              go_round
              case rel => exact ⟨T + 1, ngv R C T y, by go_num, by omega, Lib.hid ⟨HNX.out, HSX.out⟩, by rw [HX.out]; exact tr.grows g5, gr.right g5⟩
              case measure => simp [intOf]; omega
          | false =>
            have hd : (∀ r, SmT R C T y r → SmT R C T s r) ∧ (y = s ∨ (lst R C T s.1 ≠ none ∧ lst R C T y.1 ≠ none)) ∧ smu R C T y.1 + 2 ≤ gk := by first | exact HY.out.2.1 rfl | exact HY.out.2.1 trivial
            obtain ⟨hgo, hys, hmu⟩ := hd
            have HYG := Lib.hid hgo
            have HYS := Lib.hid hys
            have C1 := fun W h => CL.out T y hTR hTC OKY.out W h
            clear hgo hys HY
            cases hq : lst R C T y.1 with
            | none =>
              rw [hq] at C1
              have C1' := Lib.hid C1
              obtain rfl : y = s := by rcases HYS.out with h | h; exact h; exact absurd hq h.2
              have HX := Lib.hid (HGO.out _ (SmF.stop (.inr hq)))
              clear C1 hq
              go_wp2_with fail
              refine (C1'.out _ tr.oa.rd').mono ?_; rintro e w5 ⟨rfl, g5⟩
              go_wp2_with fail
              go_ret
              exact ⟨some y, y, rfl, HX, Lib.hid (fun y h => by cases h; rfl), tr.grows g5, GrownP.left G01.out (gr.right g5)⟩
            | some q =>
              obtain ⟨q1, q2⟩ := q
              rw [hq] at C1
              obtain ⟨⟨hq1, hq2, hq3, hq4⟩, hqn, _⟩ := (lst_LI R C T y.1).yes _ hq
              simp only at hq1 hq2 hq3 hq4 hqn
              have e1 : encR (some (q1, q2)) = (q1 : Int) := rfl
              have e2 : encC (some (q1, q2)) = (q2 : Int) := rfl
              rw [e1, e2] at C1
              have C1' := Lib.hid C1
              have HQ := Lib.hid hq
              have okr := Lib.hid (pivR_ok (q := (q1, q2)) OKY.out hTR hq2)
              have okp := Lib.hid (piv_ok (q := (q1, q2)) OKY.out hTR hTC hq2 hq4)
              have HPN := Lib.hid (show nth (piv R C T (q1, q2) y).1 (T * C + T) ≠ 0 by rw [piv_cell hTR hTC hq2 hq4]; exact hqn)
              have HSN := Lib.hid (show lst R C T s.1 ≠ none by
                rcases HYS.out with h | h
                · rw [← h, hq]; simp
                · exact h.1)
              clear C1 e1 e2 hq hqn
              obtain ⟨D1, hD1⟩ : ∃ x, x = ((q1 : Int) != (T : Int)) := ⟨_, rfl⟩
              obtain ⟨D2, hD2⟩ : ∃ x, x = ((q2 : Int) != (T : Int)) := ⟨_, rfl⟩
              have HD1 := Lib.hid hD1
              have HD2 := Lib.hid hD2
              clear hD1 hD2
              go_wp2_with fail
              refine (C1'.out _ tr.oa.rd').mono ?_; rintro e w5 ⟨rfl, g5⟩
              replace tr := tr.grows g5
              replace gr := gr.right g5
              clear a0 a1 a2 u0 u1 u2 v0 v1 v2 g5
              obtain ⟨a0, a1, a2⟩ := (MA.out w5 gr).cells
              obtain ⟨u0, u1, u2⟩ := (MU.out w5 gr).cells
              go_upto_if 32 with fail
              rw [← HD1.out]
              go_cut [] (fun wx => Tr wx B A U V n cap m cap2 k cap3 (pivR R C T (q1, q2) y) ∧ GrownP (TB A U V n cap m cap2 k cap3) w1 wx)
              case first =>
                cases hd : D1
                · have e : q1 = T := by have h := HD1.out; rw [hd] at h; have h2 := h.symm; simp at h2; omega
                  have HEP := Lib.hid (show pivR R C T (q1, q2) y = y by unfold pivR; rw [if_pos e])
                  clear e
                  go_wp2_with fail
                  go_meet
                  exact ⟨by rw [HEP.out]; exact tr, gr⟩
                · have e : ¬ q1 = T := by have h := HD1.out; rw [hd] at h; have h2 := h.symm; simp at h2; omega
                  have HEP := Lib.hid (show pivR R C T (q1, q2) y = swpR3 R C q1 T y by unfold pivR; rw [if_neg e])
                  have CS1 := Lib.hid fun W tr => CS.out q1 T y W hq2 hTR e OKY.out.mk3 tr
                  clear e
                  go_wp2_with fail
                  refine (CS1.out _ tr).mono ?_; rintro e w6 ⟨rfl, tr6, g6⟩
                  go_wp2_with fail
                  go_meet
                  exact ⟨by rw [HEP.out]; exact tr6, gr.trans g6⟩
              case rest =>
                clear tr gr a0 a1 a2 u0 u1 u2
                obtain ⟨tr, gr⟩ := hcut
                obtain ⟨w6, rfl⟩ : ∃ x : World, x = wc := ⟨_, rfl⟩
                obtain ⟨a0, a1, a2⟩ := (MA.out w6 gr).cells
                obtain ⟨v0, v1, v2⟩ := (MV.out w6 gr).cells
                go_upto_if 41 with fail
                rw [← HD2.out]
                go_cut [] (fun wx => Tr wx B A U V n cap m cap2 k cap3 (piv R C T (q1, q2) y) ∧ GrownP (TB A U V n cap m cap2 k cap3) w1 wx)
                case first =>
                  cases hd : D2
                  · have e : q2 = T := by have h := HD2.out; rw [hd] at h; have h2 := h.symm; simp at h2; omega
                    have HEP := Lib.hid (show piv R C T (q1, q2) y = pivR R C T (q1, q2) y by rw [piv_eq, if_pos e])
                    clear e
                    go_wp2_with fail
                    go_meet
                    exact ⟨by rw [HEP.out]; exact tr, gr⟩
                  · have e : ¬ q2 = T := by have h := HD2.out; rw [hd] at h; have h2 := h.symm; simp at h2; omega
                    have HEP := Lib.hid (show piv R C T (q1, q2) y = swpC3 R C q2 T (pivR R C T (q1, q2) y) by rw [piv_eq, if_neg e])
                    have CA1 := Lib.hid fun W tr => CA.out q2 T (pivR R C T (q1, q2) y) W hq4 hTC e okr.out.mk3 tr
                    have CV1 := Lib.hid fun a u W tr => CV.out q2 T (a, u, (pivR R C T (q1, q2) y).2.2) W hq4 hTC e okr.out.l3 tr
                    clear e
                    go_wp2_with fail
                    refine (CA1.out _ tr).mono ?_; rintro e w7 ⟨rfl, tr7, g7⟩
                    replace gr := gr.trans g7
                    clear g7 tr a0 a1 a2 v0 v1 v2
                    obtain ⟨v0, v1, v2⟩ := (MV.out w7 gr).cells
                    go_wp2_with fail
                    refine (CV1.out _ _ _ tr7).mono ?_; rintro e w8 ⟨rfl, tr8, g8⟩
                    go_wp2_with fail
                    go_meet
                    exact ⟨by rw [HEP.out]; exact tr8, gr.trans g8⟩
                case rest =>
                  clear tr gr a0 a1 a2 v0 v1 v2
                  obtain ⟨tr, gr⟩ := hcut
                  obtain ⟨w7, rfl⟩ : ∃ x : World, x = wc := ⟨_, rfl⟩
                  obtain ⟨a0, a1, a2⟩ := (MA.out w7 gr).cells
                  obtain ⟨u0, u1, u2⟩ := (MU.out w7 gr).cells
                  obtain ⟨v0, v1, v2⟩ := (MV.out w7 gr).cells
                  have CR1 := Lib.hid fun W tr => CR.out T (piv R C T (q1, q2) y) W okp.out hTR hTC HPN.out tr
                  rw [← smRound_eq HQ.out] at CR1
                  obtain ⟨o2, ho2⟩ : ∃ o2, o2 = smRound R C T y := ⟨_, rfl⟩
                  rw [← ho2] at CR1
                  have HO2 := Lib.hid ho2
                  clear ho2
                  go_wp2_with fail
                  refine (CR1.out _ tr).mono ?_; rintro e w8 ⟨x, b, rfl, HO, tr8, g8⟩
                  replace gr := gr.trans g8
                  clear g8 tr a0 a1 a2 u0 u1 u2 v0 v1 v2
                  obtain ⟨a0, a1, a2⟩ := (MA.out w8 gr).cells
                  obtain ⟨u0, u1, u2⟩ := (MU.out w8 gr).cells
                  obtain ⟨v0, v1, v2⟩ := (MV.out w8 gr).cells
                  have hbad := anyBad_three HO.out.1
                  have X1 := fun W h => B1.out x HO.out.1.1 W h
                  have X2 := fun W h => B2.out x HO.out.1.1 W h
                  have X3 := fun W h => B3.out x HO.out.1.1 W h
                  cases o2 with
                  | none =>
                    have HX := Lib.hid (HGO.out _ (SmF.bad hTR hTC HSN.out (HYG.out _ (SmT.bad HO2.out.symm))))
                    simp only [Option.map_none, Option.isSome_none, Bool.not_false] at hbad
                    cases hb1 : anyBad x.1 with
                    | true =>
                      rw [hb1] at X1
                      have X1' := Lib.hid X1
                      clear X1 X2 X3 hbad hb1
                      go_wp2_with fail
                      refine (X1'.out _ (tr8.oa.rd')).mono ?_; rintro e w9 ⟨rfl, rfl⟩
                      go_wp2_with fail
                      go_ret
                      exact ⟨none, x, rfl, HX, Lib.hid (fun y h => by cases h), tr8, GrownP.left G01.out gr⟩
                    | false =>
                      rw [hb1] at X1 hbad
                      rw [Bool.false_or] at hbad
                      cases hb2 : anyBad x.2.1 with
                      | true =>
                        rw [hb2] at X2
                        have X1' := Lib.hid X1
                        have X2' := Lib.hid X2
                        clear X1 X2 X3 hbad hb1 hb2
                        go_wp2_with fail
                        refine (X1'.out _ (tr8.oa.rd')).mono ?_; rintro e w9 ⟨rfl, rfl⟩
                        go_wp2_with fail
                        refine (X2'.out _ (tr8.ou.rd')).mono ?_; rintro e w9 ⟨rfl, rfl⟩
                        go_wp2_with fail
                        go_ret
                        exact ⟨none, x, rfl, HX, Lib.hid (fun y h => by cases h), tr8, GrownP.left G01.out gr⟩
                      | false =>
                        rw [hb2] at X2 hbad
                        rw [Bool.false_or] at hbad
                        rw [hbad] at X3
                        have X1' := Lib.hid X1
                        have X2' := Lib.hid X2
                        have X3' := Lib.hid X3
                        clear X1 X2 X3 hbad hb1 hb2
                        go_wp2_with fail
                        refine (X1'.out _ (tr8.oa.rd')).mono ?_; rintro e w9 ⟨rfl, rfl⟩
                        go_wp2_with fail
                        refine (X2'.out _ (tr8.ou.rd')).mono ?_; rintro e w9 ⟨rfl, rfl⟩
                        go_wp2_with fail
                        refine (X3'.out _ (tr8.ov.rd')).mono ?_; rintro e w9 ⟨rfl, rfl⟩
                        go_wp2_with fail
                        go_ret
                        exact ⟨none, x, rfl, HX, Lib.hid (fun y h => by cases h), tr8, GrownP.left G01.out gr⟩
                  | some zk =>
                    obtain ⟨z, kq⟩ := zk
                    obtain ⟨hz1, _⟩ := Stands3.some_eq HO.out.1
                    obtain rfl : x = z := hz1
                    obtain rfl : b = !kq := HO.out.2 _ _ rfl
                    simp only [Option.map_some, Option.isSome_some, Bool.not_true, Bool.or_eq_false_iff] at hbad
                    rw [hbad.1] at X1
                    rw [hbad.2.1] at X2
                    rw [hbad.2.2] at X3
                    have X1' := Lib.hid X1
                    have X2' := Lib.hid X2
                    have X3' := Lib.hid X3
                    clear X1 X2 X3 hbad HO
                    go_wp2_with fail
                    refine (X1'.out _ (tr8.oa.rd')).mono ?_; rintro e w9 ⟨rfl, rfl⟩
                    go_wp2_with fail
                    refine (X2'.out _ (tr8.ou.rd')).mono ?_; rintro e w9 ⟨rfl, rfl⟩
                    go_wp2_with fail
                    refine (X3'.out _ (tr8.ov.rd')).mono ?_; rintro e w9 ⟨rfl, rfl⟩
                    go_wp2_with fail
                    cases kq with
                    | true =>
                      obtain ⟨okz, hqz, hmz⟩ := round_again OKY.out hTR hTC HO2.out.symm
                      go_roundg (smu R C T x.1 + 2)
                      case measure => omega
                      case rel => exact ⟨false, x, rfl, Lib.hid ⟨okz, fun _ => ⟨fun r h => HYG.out r (SmT.again HO2.out.symm h), (by obtain ⟨q, hq⟩ := hqz; exact .inr ⟨HSN.out, by rw [hq]; simp⟩), Nat.le_refl _⟩, (fun h => by cases h)⟩, tr8, gr⟩
                    | false =>
                      have okz := round_done OKY.out hTR hTC HO2.out.symm
                      go_roundg 0
                      case measure => omega
                      case rel => exact ⟨true, x, rfl, Lib.hid ⟨okz, (fun h => by cases h), fun _ => ⟨HSN.out, HYG.out _ (SmT.done HO2.out.symm)⟩⟩, tr8, gr⟩
      · have HX := Lib.hid (HF.out.2 _ (SmF.stop (.inl (HMN.out T hlt))))
        have hmn : ¬ (T < R ∧ T < C) := HMN.out T hlt
        have hE : (C < R → ¬ (T : Int) < (C : Int)) ∧ (¬ C < R → ¬ (T : Int) < (R : Int)) := ⟨fun h => by omega, fun h => by omega⟩
        first | have hx := hE.1 hCR | have hx := hE.2 hCR
        clear hE hmn
        go_wp2_with fail
        go_ret
        exact ⟨some s, s, rfl, HX, Lib.hid (fun y h => by cases h; rfl), tr, GrownP.left G01.out gr⟩)
end
end Go.Proofs.Ytbfkpfdkndnhkaa

/- Contract: the Smith form, the reference's. -/
namespace Go.Proofs.Ytbfkpfdkndnhkaa
set_option linter.unusedSimpArgs false
set_option linter.unusedVariables false
open Go.RowKit

theorem three_boxes2 {W : World} {b b' b2 : Nat} {r c r' c' r2 c2 : Int} {v v' v2 : Value} (h : MBox W b r c v) (h' : MBox W b' r' c' v') (h2 : MBox W b2 r2 c2 v2) :
    W.cell? ⟨b, 0, none⟩ = some (.int .i64 r) ∧ W.cell? ⟨b, 1, none⟩ = some (.int .i64 c) ∧ W.cell? ⟨b, 2, none⟩ = some v ∧
    W.cell? ⟨b', 0, none⟩ = some (.int .i64 r') ∧ W.cell? ⟨b', 1, none⟩ = some (.int .i64 c') ∧ W.cell? ⟨b', 2, none⟩ = some v' ∧
    W.cell? ⟨b2, 0, none⟩ = some (.int .i64 r2) ∧ W.cell? ⟨b2, 1, none⟩ = some (.int .i64 c2) ∧ W.cell? ⟨b2, 2, none⟩ = some v2 := ⟨h.c0, h.c1, h.c2, h'.c0, h'.c1, h'.c2, h2.c0, h2.c1, h2.c2⟩
section
set_option maxHeartbeats 40000000
set_option maxRecDepth 100000
theorem sSmith_c (r c : Int) (A : Option Addr) (l : List Int) (n cap : Nat) (w : World) (hn : l.length = n) (ha : Rd w A l) (hl : n ≤ 1099511627776) :
    Calls Try.prog 123 #[.agg #[.int .i64 r, .int .i64 c, .slice A n cap]] w (SmRet (smD ⟨r, c, l⟩) w) := by
  have HS := fun w h => sIsMatrix_c r c A l n cap w hn h hl
  obtain ⟨w1, hw1, mg, m2, m3, m4, hs1, g01⟩ := four_mats w r c (.slice A n cap)
  have HW1 := Lib.hid hw1
  have HS1 := Lib.hid hs1
  have ha1 : Rd w1 A l := ha.grows g01
  clear hw1 hs1
  obtain ⟨RES, hRES⟩ : ∃ x, x = smD ⟨r, c, l⟩ := ⟨_, rfl⟩
  rw [← hRES]
  cases hq : isMat r c l
  · rw [smD_no (m := ⟨r, c, l⟩) hq] at hRES
    rw [hq] at HS
    have HS' := Lib.hid HS
    subst hRES
    clear HS hq hn
    go_enter Try.func123, Try.ntmps123
    go_wp2_with fail
    refine (HS'.out _ (by exact (Rd.grows ha (by exact bel0)))).mono ?_; rintro e w2 ⟨rfl, g2⟩
    rw [← HW1.out] at g2
    (have z2 := m2.grows (w' := w2) (by exact bel1 g2); have z3 := m3.grows (w' := w2) (by exact bel1 g2); have z4 := m4.grows (w' := w2) (by exact bel1 g2); obtain ⟨zr0, zr1, zr2⟩ := z2.cells; have zrf := z2.fz; have zrl := z2.lt; obtain ⟨yr0, yr1, yr2⟩ := z3.cells; have yrf := z3.fz; have yrl := z3.lt; obtain ⟨xr0, xr1, xr2⟩ := z4.cells; have xrf := z4.fz; have xrl := z4.lt; go_wp2_with fail; refine bodyPost_ret (v := .tuple #[.agg #[.int .i64 0, .int .i64 0, .slice none 0 0], .agg #[.int .i64 0, .int .i64 0, .slice none 0 0], .agg #[.int .i64 0, .int .i64 0, .slice none 0 0], .bool false]) ?_ rfl ?_; (simp [results, Try.results123, go_sem, zr0, zr1, zr2, zrf, zrl, yr0, yr1, yr2, yrf, yrl, xr0, xr1, xr2, xrf, xrl]); exact ⟨_, 0, 0, none, 0, 0, 0, 0, none, 0, 0, rfl, Own.nil _ _, by exact bel2 g2 g01⟩)
  · rw [hq] at HS
    have HS' := Lib.hid HS
    obtain ⟨R, C, rfl, rfl, hR, hC, hlen, hnum⟩ := isMat_nat hq
    rw [smD_nat hq] at hRES
    have HR := Lib.hid hRES
    have ok : Ok3 R C (l, idL R, idL C) := ⟨hlen, idL_length R, idL_length C, (allNum_iff _).2 hnum, idL_num R, idL_num C⟩
    have CP := Lib.hid fun W h => copyS_c R C A l n cap W hn h hl
    have CI := Lib.hid fun W => sIdent_c R W hR
    have CJ := Lib.hid fun W => sIdent_c C W hC
    have HLEN := Lib.hid hlen
    have HOK := Lib.hid ok
    clear HS hq hRES ok hlen hnum hn
    go_enter Try.func123, Try.ntmps123
    go_wp2_with fail
    refine (HS'.out _ (by exact (Rd.grows ha (by exact bel0)))).mono ?_; rintro e w2 ⟨rfl, g2⟩
    rw [← HW1.out] at g2
    obtain ⟨b0, b1, b2⟩ := (mg.grows g2).cells
    go_wp2_with fail
    refine (CP.out _ (by exact (Rd.grows ha1 (by exact bel1 g2)))).mono ?_; rintro e w3 hop; obtain ⟨v3, rfl, o3, g3⟩ := mat1_out hop; clear hop
    obtain ⟨A3, c3, rfl, _, _⟩ := o3.val
    simp only at o3 ⊢
    rw [HLEN.out] at o3 ⊢
    clear b0 b1 b2
    have g13 : Grows w1 w3 := by exact bel2 g3 g2
    obtain ⟨b0, b1, b2⟩ := (mg.grows g13).cells
    have bl := (mg.grows g13).lt
    have hs2 := Below.size g2
    have hs3 := Below.size g3
    go_wp2_with fail
    refine (CI.out _).mono ?_; rintro e w4 ⟨v4, rfl, o4, g4⟩
    obtain ⟨U, cu, rfl, _, _⟩ := o4.val
    rw [idL_length] at o4 ⊢
    clear b0 b1 b2 bl
    have hs4 := Below.size g4
    simp at hs4
    have g14 : Grows w1 w4 := by exact bel2 g4 g13
    obtain ⟨b0, b1, b2⟩ := (mg.grows g14).cells
    have bl := (mg.grows g14).lt
    have m5 : MBox w4 w3.heap.size R C (.slice A3 (R * C) c3) := (MBox.mk_ w3 R C (.slice A3 (R * C) c3) 26).grows g4
    have o4' : Own w4 (w3.heap.size + 1) (.slice U (R * R) cu) (idL R) := by have := o4; simpa using this
    go_wp2_with fail
    refine (CJ.out _).mono ?_; rintro e w5 ⟨v5, rfl, o5, g5⟩
    obtain ⟨V, cv, rfl, _, _⟩ := o5.val
    rw [idL_length] at o5 ⊢
    clear b0 b1 b2 bl
    have hs5 := Below.size g5
    simp at hs5
    have o5' : Own w5 (w4.heap.size + 1) (.slice V (C * C) cv) (idL C) := by have := o5; simpa using this
    have g45 : Grows w4 w5 := by exact bel1 g5
    have m6 : MBox w5 w4.heap.size R R (.slice U (R * R) cu) := (MBox.mk_ w4 R R (.slice U (R * R) cu) 26).grows g5
    have m5a := m5.grows g45
    obtain ⟨w6, hw6⟩ : ∃ w6, w6 = w5.alloc (.cells #[.int .i64 C, .int .i64 C, .slice V (C * C) cv] 26) := ⟨_, rfl⟩
    have HW6 := Lib.hid hw6
    have g56 : Grows w5 w6 := by rw [hw6]; exact bel0
    have n5 : MBox w6 w3.heap.size R C (.slice A3 (R * C) c3) := m5a.grows g56
    have n6 : MBox w6 w4.heap.size R R (.slice U (R * R) cu) := m6.grows g56
    have n7 : MBox w6 w5.heap.size C C (.slice V (C * C) cv) := by rw [hw6]; exact MBox.mk_ _ _ _ _ _
    have g16 : Grows w1 w6 := by exact bel3 g56 g45 g14
    have hA : ∀ g, (Value.slice A3 (R * C) c3).ownBlock = some g → w2.heap.size ≤ g ∧ g < w3.heap.size := fun g h => World.ownsRow.lt o3 g h
    have hU : ∀ g, (Value.slice U (R * R) cu).ownBlock = some g → w3.heap.size + 1 ≤ g ∧ g < w4.heap.size := fun g h => World.ownsRow.lt o4' g h
    have hV : ∀ g, (Value.slice V (C * C) cv).ownBlock = some g → w4.heap.size + 1 ≤ g ∧ g < w5.heap.size := fun g h => World.ownsRow.lt o5' g h
    have oA6 : Own w6 w1.heap.size (.slice A3 (R * C) c3) l := ((o3.grows (w' := w4) (by exact bel1 g4)).grows (w' := w6) (by exact bel2 g56 g45)).less (by omega)
    have oU6 : Own w6 w1.heap.size (.slice U (R * R) cu) (idL R) := (o4'.grows (w' := w6) (by exact bel2 g56 g45)).less (by omega)
    have oV6 : Own w6 w1.heap.size (.slice V (C * C) cv) (idL C) := (o5'.grows g56).less (by omega)
    have tr6 : Tr w6 w1.heap.size A3 U V (R * C) c3 (R * R) cu (C * C) cv (l, idL R, idL C) := ⟨oA6, oU6, oV6, fun g h h2 => by have := hA g h; have := hU g h2; omega, fun g h h2 => by have := hA g h; have := hV g h2; omega, fun g h h2 => by have := hU g h; have := hV g h2; omega⟩
    have CH := Lib.hid (l13Smith_c R C A3 U V (R * C) c3 (R * R) cu (C * C) cv w1.heap.size (l, idL R, idL C) w6 rfl rfl rfl hR hC HOK.out tr6)
    have NTB := Lib.hid fun b (hb : b = w3.heap.size ∨ b = w4.heap.size ∨ b = w5.heap.size) (h : TB A3 U V (R * C) c3 (R * R) cu (C * C) cv b) => (by
      rcases h with h | h | h
      · have := hA b h; omega
      · have := hU b h; omega
      · have := hV b h; omega : False)
    have LTB := Lib.hid fun g (h : TB A3 U V (R * C) c3 (R * R) cu (C * C) cv g) => (by
      rcases h with h | h | h
      · have := hA g h; omega
      · have := hU g h; omega
      · have := hV g h; omega : w1.heap.size ≤ g)
    obtain ⟨b0, b1, b2⟩ := m5a.cells
    have bl := m5a.lt
    obtain ⟨d0, d1, d2⟩ := m6.cells
    have dl := m6.lt
    clear hw6 m5 o3 o4 o4' o5 o5' hA hU hV tr6 oA6 oU6 oV6
    go_wp2_with fail
    rw [← HW6.out]
    refine CH.out.mono ?_; rintro e w7 ⟨o, x, rfl, HF, HX, tr7, g7⟩
    clear b0 b1 b2 bl d0 d1 d2 dl
    have mt5 := n5.farP g7 (NTB.out _ (.inl rfl))
    have mt6 := n6.farP g7 (NTB.out _ (.inr (.inl rfl)))
    have mt7 := n7.farP g7 (NTB.out _ (.inr (.inr rfl)))
    have b17 : Below w1.heap.size w6 w7 := g7.below (Below.size g16) LTB.out
    have g17 : Grows w1 w7 := Below.trans g16 b17
    have z2 := m2.grows g17; have z3 := m3.grows g17; have z4 := m4.grows g17
    obtain ⟨zr0, zr1, zr2⟩ := z2.cells; have zrf := z2.fz; have zrl := z2.lt
    obtain ⟨yr0, yr1, yr2⟩ := z3.cells; have yrf := z3.fz; have yrl := z3.lt
    obtain ⟨xr0, xr1, xr2⟩ := z4.cells; have xrf := z4.fz; have xrl := z4.lt
    cases o with
    | none =>
      obtain rfl : RES = none := by rw [HR.out, smF_eq HF.out]; rfl
      go_wp2_with fail
      refine bodyPost_ret (v := .tuple #[.agg #[.int .i64 0, .int .i64 0, .slice none 0 0], .agg #[.int .i64 0, .int .i64 0, .slice none 0 0], .agg #[.int .i64 0, .int .i64 0, .slice none 0 0], .bool false]) ?_ rfl ?_
      · simp [results, Try.results123, go_sem, zr0, zr1, zr2, zrf, zrl, yr0, yr1, yr2, yrf, yrl, xr0, xr1, xr2, xrf, xrl]
      · exact ⟨_, 0, 0, none, 0, 0, 0, 0, none, 0, 0, rfl, Own.nil _ _, by exact bel2 g17 g01⟩
    | some y =>
      have hxy := HX.out y rfl
      obtain rfl : RES = some ⟨R, C, y.1⟩ := by rw [HR.out, smF_eq HF.out]; rfl
      have hs1 := HS1.out
      have hs7 := g7.size
      have hs6 := Below.size g16
      have hs56 := Below.size g56
      clear HF HX
      go_wp2_with fail
      (refine wp_region_heldL (fun W => W.cell? ⟨w3.heap.size, 0, none⟩ = some (.int .i64 R) ∧ W.cell? ⟨w3.heap.size, 1, none⟩ = some (.int .i64 C) ∧ W.cell? ⟨w3.heap.size, 2, none⟩ = some (.slice A3 (R * C) c3) ∧ W.cell? ⟨w4.heap.size, 0, none⟩ = some (.int .i64 R) ∧ W.cell? ⟨w4.heap.size, 1, none⟩ = some (.int .i64 R) ∧ W.cell? ⟨w4.heap.size, 2, none⟩ = some (.slice U (R * R) cu) ∧ W.cell? ⟨w5.heap.size, 0, none⟩ = some (.int .i64 C) ∧ W.cell? ⟨w5.heap.size, 1, none⟩ = some (.int .i64 C) ∧ W.cell? ⟨w5.heap.size, 2, none⟩ = some (.slice V (C * C) cv)) (by kernel_rfl) (by ((try dsimp only); (exact three_boxes2 (v := .slice A3 (R * C) c3) (v' := .slice U (R * R) cu) (v2 := .slice V (C * C) cv) (by ((repeat' (first | with_reducible exact mt5 | with_reducible refine MBox.alloc ?_ _ | with_reducible refine MBox.drew_ ?_ | with_reducible refine MBox.far ?_ ?_ _)); all_goals (first | omega | (simp; done) | (simp; omega)))) (by ((repeat' (first | with_reducible exact mt6 | with_reducible refine MBox.alloc ?_ _ | with_reducible refine MBox.drew_ ?_ | with_reducible refine MBox.far ?_ ?_ _)); all_goals (first | omega | (simp; done) | (simp; omega)))) (by ((repeat' (first | with_reducible exact mt7 | with_reducible refine MBox.alloc ?_ _ | with_reducible refine MBox.drew_ ?_ | with_reducible refine MBox.far ?_ ?_ _)); all_goals (first | omega | (simp; done) | (simp; omega))))))) (fun hHeld => ?_); refine heldL_take (i := 0) (v := _) (by rfl) (by kernel_rfl) (by kernel_rfl) (by kernel_rfl) (fun _ _ _ h => h) (Or.inl ⟨by rfl, fun wS hSw => by ((try dsimp only at hSw); go_simp; (try with_reducible rfl))⟩) (by assumption) ?_; simp only [Act.put, List.setIfInBounds_toArray, List.set_cons_zero, List.set_cons_succ]; refine heldL_take (i := 1) (v := _) (by rfl) (by kernel_rfl) (by kernel_rfl) (by kernel_rfl) (fun _ _ _ h => h) (Or.inl ⟨by rfl, fun wS hSw => by ((try dsimp only at hSw); go_simp; (try with_reducible rfl))⟩) (by assumption) ?_; simp only [Act.put, List.setIfInBounds_toArray, List.set_cons_zero, List.set_cons_succ]; refine heldL_take (i := 2) (v := _) (by rfl) (by kernel_rfl) (by kernel_rfl) (by kernel_rfl) (fun _ _ _ h => h) (Or.inl ⟨by rfl, fun wS hSw => by ((try dsimp only at hSw); go_simp; (try with_reducible rfl))⟩) (by assumption) ?_; simp only [Act.put, List.setIfInBounds_toArray, List.set_cons_zero, List.set_cons_succ]; refine heldL_step (i := 3) (by kernel_rfl) (by rfl) (fun K hK => ?_); go_simp; refine hK.out _ _ (by ((try dsimp only); (exact three_boxes2 (v := .slice A3 (R * C) c3) (v' := .slice U (R * R) cu) (v2 := .slice V (C * C) cv) (by ((repeat' (first | with_reducible exact mt5 | with_reducible refine MBox.alloc ?_ _ | with_reducible refine MBox.drew_ ?_ | with_reducible refine MBox.far ?_ ?_ _)); all_goals (first | omega | (simp; done) | (simp; omega)))) (by ((repeat' (first | with_reducible exact mt6 | with_reducible refine MBox.alloc ?_ _ | with_reducible refine MBox.drew_ ?_ | with_reducible refine MBox.far ?_ ?_ _)); all_goals (first | omega | (simp; done) | (simp; omega)))) (by ((repeat' (first | with_reducible exact mt7 | with_reducible refine MBox.alloc ?_ _ | with_reducible refine MBox.drew_ ?_ | with_reducible refine MBox.far ?_ ?_ _)); all_goals (first | omega | (simp; done) | (simp; omega))))))) (fun hHeld => ?_); clear hK K; (try simp only [Act.put, List.setIfInBounds_toArray, List.set_cons_zero, List.set_cons_succ]); refine heldL_step (i := 4) (by kernel_rfl) (by rfl) (fun K hK => ?_); go_simp; refine hK.out _ _ (by ((try dsimp only); (exact three_boxes2 (v := .slice A3 (R * C) c3) (v' := .slice U (R * R) cu) (v2 := .slice V (C * C) cv) (by ((repeat' (first | with_reducible exact mt5 | with_reducible refine MBox.alloc ?_ _ | with_reducible refine MBox.drew_ ?_ | with_reducible refine MBox.far ?_ ?_ _)); all_goals (first | omega | (simp; done) | (simp; omega)))) (by ((repeat' (first | with_reducible exact mt6 | with_reducible refine MBox.alloc ?_ _ | with_reducible refine MBox.drew_ ?_ | with_reducible refine MBox.far ?_ ?_ _)); all_goals (first | omega | (simp; done) | (simp; omega)))) (by ((repeat' (first | with_reducible exact mt7 | with_reducible refine MBox.alloc ?_ _ | with_reducible refine MBox.drew_ ?_ | with_reducible refine MBox.far ?_ ?_ _)); all_goals (first | omega | (simp; done) | (simp; omega))))))) (fun hHeld => ?_); clear hK K; (try simp only [Act.put, List.setIfInBounds_toArray, List.set_cons_zero, List.set_cons_succ]); refine heldL_step (i := 5) (by kernel_rfl) (by rfl) (fun K hK => ?_); go_simp; refine hK.out _ _ (by ((try dsimp only); (exact three_boxes2 (v := .slice A3 (R * C) c3) (v' := .slice U (R * R) cu) (v2 := .slice V (C * C) cv) (by ((repeat' (first | with_reducible exact mt5 | with_reducible refine MBox.alloc ?_ _ | with_reducible refine MBox.drew_ ?_ | with_reducible refine MBox.far ?_ ?_ _)); all_goals (first | omega | (simp; done) | (simp; omega)))) (by ((repeat' (first | with_reducible exact mt6 | with_reducible refine MBox.alloc ?_ _ | with_reducible refine MBox.drew_ ?_ | with_reducible refine MBox.far ?_ ?_ _)); all_goals (first | omega | (simp; done) | (simp; omega)))) (by ((repeat' (first | with_reducible exact mt7 | with_reducible refine MBox.alloc ?_ _ | with_reducible refine MBox.drew_ ?_ | with_reducible refine MBox.far ?_ ?_ _)); all_goals (first | omega | (simp; done) | (simp; omega))))))) (fun hHeld => ?_); clear hK K; (try simp only [Act.put, List.setIfInBounds_toArray, List.set_cons_zero, List.set_cons_succ]); refine heldL_take (i := 6) (v := _) (by rfl) (by kernel_rfl) (by kernel_rfl) (by kernel_rfl) (fun _ _ _ h => h) (Or.inl ⟨by rfl, fun wS hSw => by ((try dsimp only at hSw); go_simp; (try with_reducible rfl))⟩) (by assumption) ?_; simp only [Act.put, List.setIfInBounds_toArray, List.set_cons_zero, List.set_cons_succ]; refine wpAnyH_done (by kernel_rfl) ?_ _; refine NoPanic.normal ?_)
      go_wp2_with fail
      refine bodyPost_ret (v := .tuple #[.agg #[.int .i64 R, .int .i64 C, .slice A3 (R * C) c3], .agg #[.int .i64 R, .int .i64 R, .slice U (R * R) cu], .agg #[.int .i64 C, .int .i64 C, .slice V (C * C) cv], .bool true]) ?_ rfl ?_
      · simp [results, Try.results123, go_sem, zr0, zr1, zr2, zrf, zrl, yr0, yr1, yr2, yrf, yrl, xr0, xr1, xr2, xrf, xrl]
      · have hoA : Own w7 w1.heap.size (.slice A3 (R * C) c3) (oM (some (⟨(R : Int), (C : Int), y.1⟩ : MX))).l := by rw [hxy]; exact tr7.oa
        exact ⟨_, _, _, _, _, _, _, _, _, _, _, rfl, by exact ownl hoA, by exact bel2 g17 g01⟩
end
end Go.Proofs.Ytbfkpfdkndnhkaa
