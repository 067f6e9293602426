/- Contracts and lemmas, put together. -/
import Derived.Test.YtpgoefdeodoacaaQHermI0
import Derived.Test.YtpgoefdeodoacaaQRgS
import Derived.Test.YtpgoefdeodoacaaQStepI
/- Contract: a form is reduced, the program's. -/
namespace Go.Proofs.Ytpgoefdeodoacaa
set_option linter.unusedSimpArgs false
set_option linter.unusedVariables false
open Go.RowKit

theorem rdgO_len1 {g : MX} : (oM2 (rdgO g)).1.l.length ≤ 576 := by
  cases h : rdgO g with
  | none => exact Nat.zero_le _
  | some x =>
    obtain ⟨R, s, _, _, hR, rfl, ok⟩ := rdgO_ok h
    show s.1.length ≤ 576
    rw [ok.l1]; exact Nat.mul_le_mul hR hR
theorem rdgO_len2 {g : MX} : (oM2 (rdgO g)).2.l.length ≤ 576 := by
  cases h : rdgO g with
  | none => exact Nat.zero_le _
  | some x =>
    obtain ⟨R, s, _, _, hR, rfl, ok⟩ := rdgO_ok h
    show s.2.length ≤ 576
    rw [ok.l2]; exact Nat.mul_le_mul hR hR
theorem wkF_start {w w4 : World} {B b R n ca cu cv : Nat} {A U V : Option Addr} {l : List Int} (wk : Wk w B b R R n (R * R) (R * R) A U V ca cu cv l (idL R) (idL R) false) (hn : n = R * R) (g : Grows w w4) : WkF w4 B b R w.heap.size (l, idL R) := by
  subst hn
  have hb := wk.bx.lt
  refine ⟨A, U, V, ca, cu, cv, by simp only; rw [trL_id]; exact wk.grows g, by omega, fun h => ?_, fun h => ?_, fun h => ?_⟩
  · have := (World.ownsRow.lt wk.oa _ h).2; omega
  · have := (World.ownsRow.lt wk.ou _ h).2; omega
  · have := (World.ownsRow.lt wk.ov _ h).2; omega
section
set_option maxHeartbeats 40000000
set_option maxRecDepth 100000
theorem iRg_c (r c : Int) (A : Option Addr) (l : List Int) (n cap : Nat) (w : World) (hn : l.length = n) (hcap : n ≤ cap) (hcap2 : cap ≤ 9223372036854775807) (ha : Rd w A l) (hl : n ≤ 1099511627776) :
    Calls Try.prog 33 #[.agg #[.int .i64 r, .int .i64 c, .slice A n cap]] w (Mat2Ret (rdgO ⟨r, c, l⟩) w) := by
  have HS := fun W h => iIsDef_c r c A l n cap W hn hcap hcap2 h hl
  obtain ⟨w1, hw1, mg, m2, m3, hs1, g01⟩ := three_mats w r c (.slice A n cap)
  have HW1 := Lib.hid hw1
  have HS1 := Lib.hid hs1
  have ha1 : Rd w1 A l := ha.grows g01
  clear hw1 hs1
  obtain ⟨RES, hRES⟩ : ∃ x, x = rdgO ⟨r, c, l⟩ := ⟨_, rfl⟩
  rw [← hRES]
  cases hq : isDef r c l
  · rw [rdgO_no (g := ⟨r, c, l⟩) hq] at hRES
    rw [hq] at HS
    have HS' := Lib.hid HS
    subst hRES
    clear HS hq hn
    go_enter Try.func33, Try.ntmps33
    go_wp2_with fail
    rw [← HW1.out]
    refine (HS'.out _ (by exact (Rd.grows ha1 (by exact bel0)))).mono ?_; rintro e w2 ⟨rfl, g2⟩
    (have z2 := m2.grows (w' := w2) (by exact bel1 g2); have z3 := m3.grows (w' := w2) (by exact bel1 g2); obtain ⟨zr0, zr1, zr2⟩ := z2.cells; have zrf := z2.fz; have zrl := z2.lt; obtain ⟨yr0, yr1, yr2⟩ := z3.cells; have yrf := z3.fz; have yrl := z3.lt; go_wp2_with fail; refine bodyPost_ret (v := .tuple #[.agg #[.int .i64 0, .int .i64 0, .slice none 0 0], .agg #[.int .i64 0, .int .i64 0, .slice none 0 0], .bool false]) ?_ rfl ?_; (simp [results, Try.results33, go_sem, zr0, zr1, zr2, zrf, zrl, yr0, yr1, yr2, yrf, yrl]); exact ⟨_, _, rfl, Own.nil _ _, Own.nil _ _, by simp [Value.ownBlock], by exact bel2 g2 g01⟩)
  · rw [hq] at HS
    have HS' := Lib.hid HS
    obtain ⟨hmt, R, rfl, rfl, hR6, hlen, hnum⟩ := isSq_nat (isDef_sq hq)
    rw [rdgO_yes hq] at hRES
    have HR := Lib.hid hRES
    have hR : R ≤ 24 := by omega
    have ok0 : Ok2 R R ((l, idL R) : LL) := ⟨hlen, idL_length R, (allNum_iff _).2 hnum, idL_num R⟩
    have OK0 := Lib.hid ok0
    have HNR := Lib.hid (hn.symm.trans hlen)
    have CW := Lib.hid fun W h => newWork_c R R n A l cap W hn hR hR h hl
    clear HS hq hRES ok0 hlen hnum hn hmt
    go_enter Try.func33, Try.ntmps33
    go_wp2_with fail
    rw [← HW1.out]
    refine (HS'.out _ (by exact (Rd.grows ha1 (by exact bel0)))).mono ?_; rintro e w2 ⟨rfl, g2⟩
    obtain ⟨a0, a1, a2⟩ := (mg.grows g2).cells
    go_wp2_with fail
    refine (CW.out _ (by exact (Rd.grows ha1 (by exact bel1 g2)))).mono ?_; rintro e w3 ⟨b, A', U, V, ca, cu, cv, rfl, wk3, g3⟩
    have hs2 := Below.size g2
    have HS2 := Lib.hid hs2
    have MG := Lib.hid fun wr (h : Below w2.heap.size w2 wr) => (mg.grows g2).keep h (mg.grows g2).lt
    have M2 := Lib.hid fun wr (h : Below w2.heap.size w2 wr) => (m2.grows g2).keep h (m2.grows g2).lt
    have M3 := Lib.hid fun wr (h : Below w2.heap.size w2 wr) => (m3.grows g2).keep h (m3.grows g2).lt
    have hs3 := Below.size g3
    obtain ⟨w4, hw4⟩ : ∃ w4, w4 = w3.alloc (.cells #[.int .i64 1] 3) := ⟨_, rfl⟩
    have g34 : Grows w3 w4 := by rw [hw4]; exact bel0
    have ck4 : w4.cell? ⟨w3.heap.size, 0, none⟩ = some (.int .i64 ((1 : Nat) : Int)) := by rw [hw4]; simp [go_sem]
    have fk4 : w4.frozen? ⟨w3.heap.size, 0, none⟩ = false := by rw [hw4]; simp [go_sem]
    have hk4 : w3.heap.size < w4.heap.size := by rw [hw4]; simp
    have wf4 := wkF_start wk3 HNR.out g34
    have hb4 : Below w2.heap.size w2 w4 := by exact bel2 g34 g3
    have HW4 := Lib.hid hw4
    clear a0 a1 a2 mg m2 m3 wk3 hs2 CW ha1 hw4
    go_wp2_with fail
    rw [← HW4.out]
    go_loopw [7] (fun st wr => ∃ (S K : Nat) (s : LL), st = .int .i64 S ∧ S ≤ 200 ∧ 1 ≤ K ∧ (K ≤ R ∨ K ≤ 1) ∧ Ok2 R R s ∧ RES = (rdgF R (200 - S) (s, K)).map (fun s => ((⟨R, R, s.1⟩ : MX), (⟨R, R, s.2⟩ : MX))) ∧ WkF wr w2.heap.size b R w3.heap.size s ∧ wr.cell? ⟨w3.heap.size, 0, none⟩ = some (.int .i64 K) ∧ wr.frozen? ⟨w3.heap.size, 0, none⟩ = false ∧ w3.heap.size < wr.heap.size ∧ Below w2.heap.size w2 wr) (fun j _ => (200 - intOf j).toNat)
    case atStart => exact ⟨0, 1, (l, idL R), rfl, Nat.zero_le _, Nat.le_refl _, .inr (Nat.le_refl _), OK0.out, HR.out, wf4, ck4, fk4, hk4, hb4⟩
    case round =>
      clear wf4 ck4 fk4 hk4 hb4
      obtain ⟨S, K, s, rfl, hS, hK1, hKR, ok, hF, wf, ck, fk, hk, hb⟩ := hrel
      have HF := Lib.hid hF
      have HOK := Lib.hid ok
      have hwf := wf
      obtain ⟨A2, U2, V2, ca2, cu2, cv2, wk, hn1, hn2, hn3, hn4⟩ := hwf
      obtain ⟨b0, b1, b2, b3, b4, b5, b6, b7, b8, b9⟩ := wk.bx.cells
      have bl := wk.bx.lt
      obtain ⟨a0, a1, a2⟩ := (MG.out wr hb).cells
      clear hF hn1 hn2 hn3 hn4
      by_cases hlt : K < R
      · have hlt' : (K : Int) < (R : Int) := by omega
        have CM := Lib.hid fun W h => (iAcc_c R A2 s.1 (R * R) ca2 W ok.l1 ok.l1 hR h).mono fun _ _ h => accRet_out h
        have hrA := wk.oa.rd'
        clear ok
        go_wp2_with fail
        refine (CM.out _ (by exact (Rd.grows hrA (by exact bel0)))).mono ?_; rintro e w6 ⟨Am, cm, As, cs, rfl, rdm, rds, g6⟩
        have hb6 : Below w2.heap.size w2 w6 := by exact bel2 g6 hb
        cases hacc : accF R s.1 R with
        | none =>
          obtain rfl : RES = none := rdg_none HF.out (rdgF_acc hlt hacc)
          rw [hacc] at rdm rds
          have e1 : (oA none).1 = [] := rfl
          (have z2 := M2.out w6 hb6; have z3 := M3.out w6 hb6; obtain ⟨zr0, zr1, zr2⟩ := z2.cells; have zrf := z2.fz; have zrl := z2.lt; obtain ⟨yr0, yr1, yr2⟩ := z3.cells; have yrf := z3.fz; have yrl := z3.lt; go_wp2_with fail; refine bodyPost_ret (v := .tuple #[.agg #[.int .i64 0, .int .i64 0, .slice none 0 0], .agg #[.int .i64 0, .int .i64 0, .slice none 0 0], .bool false]) ?_ rfl ?_; (simp [results, Try.results33, go_sem, zr0, zr1, zr2, zrf, zrl, yr0, yr1, yr2, yrf, yrl]); exact ⟨_, _, rfl, Own.nil _ _, Own.nil _ _, by simp [Value.ownBlock], by exact bel3 hb6 g2 g01⟩)
        | some ms =>
          have hinv := accF_inv hacc
          obtain ⟨mu, sq⟩ := ms
          have HACC := Lib.hid hacc
          rw [hacc] at rdm rds
          have hI1 : mu.length = R := hinv.l1
          have hI2 : sq.length = R := hinv.l2
          have hI3 : ∀ j, j < R → (mu.getD j []).length = j := hinv.row
          have e1 : (oA (some (mu, sq))).1 = mu := rfl
          have e2 : (oA (some (mu, sq))).2 = sq := rfl
          rw [e1] at rdm
          rw [e2] at rds
          rw [e1, e2, hI1, hI2]
          clear e1 e2 hacc hinv
          have hsb := Below.size hb
          have hs6 := Below.size g6
          obtain ⟨w7, hw7⟩ : ∃ w7, w7 = w6.alloc (.cells #[.slice Am R cm, .slice As R cs] 85) := ⟨_, rfl⟩
          have g67 : Grows w6 w7 := by rw [hw7]; exact bel0
          have HW7 := Lib.hid hw7
          have G7 : Grows wr w7 := by exact bel2 g67 g6
          have hb7 : Below w2.heap.size w2 w7 := by exact bel3 g67 g6 hb
          have HI1 := Lib.hid hI1
          have HI2 := Lib.hid hI2
          clear hw7
          by_cases hS2 : S = 200
          · subst hS2
            obtain rfl : RES = none := rdg_none HF.out (rdgF_out hlt)
            clear hI1 hI2
            clear hb7 G7 g67
            (have z2 := M2.out w6 hb6; have z3 := M3.out w6 hb6; obtain ⟨zr0, zr1, zr2⟩ := z2.cells; have zrf := z2.fz; have zrl := z2.lt; obtain ⟨yr0, yr1, yr2⟩ := z3.cells; have yrf := z3.fz; have yrl := z3.lt; go_wp2_with fail; refine bodyPost_ret (v := .tuple #[.agg #[.int .i64 0, .int .i64 0, .slice none 0 0], .agg #[.int .i64 0, .int .i64 0, .slice none 0 0], .bool false]) ?_ rfl ?_; (simp [results, Try.results33, go_sem, zr0, zr1, zr2, zrf, zrl, yr0, yr1, yr2, yrf, yrl]); exact ⟨_, _, rfl, Own.nil _ _, Own.nil _ _, by simp [Value.ownBlock], by exact bel3 hb6 g2 g01⟩)
          · have hSn : ¬ (S : Int) = 200 := by omega
            have hSb : ((S : Int) == 200) = false := by rw [beq_eq_false_iff_ne]; omega
            obtain ⟨F, hFu⟩ : ∃ F, 200 - S = F + 1 := ⟨200 - S - 1, by omega⟩
            have HFE : RowKit.Hid (200 - (S + 1) = F) := Lib.hid (by omega)
            have hF2 := HF.out
            rw [hFu] at hF2
            have HF2 := Lib.hid hF2
            have CS := Lib.hid (step_c R w2.heap.size b w3.heap.size K s mu sq Am As cm cs w7 hR (wf.grows G7) HOK.out hK1 hlt (by have := Below.size G7; omega) hs3 ((G7.cell (p := ⟨w3.heap.size, 0, none⟩) hk).trans ck) ((G7.frozen (p := ⟨w3.heap.size, 0, none⟩) hk).trans fk) hI1 hI2 hI3 (rdm.grows RSQ.good g67) (rds.grows g67))
            clear hI1 hI2 hI3 hFu hF2
            go_wp2_with fail
            rw [← HW7.out]
            refine CS.out.mono ?_; rintro e w8 ⟨rfl, b8', h8⟩
            have hb8 : Below w2.heap.size w2 w8 := Below.trans hb7 b8'
            cases hred : redS R (mu, sq) (s, K) with
            | none =>
              obtain rfl : RES = none := rdg_none HF2.out (redS_none_next hlt HACC.out hred)
              clear hred h8
              (have z2 := M2.out w8 hb8; have z3 := M3.out w8 hb8; obtain ⟨zr0, zr1, zr2⟩ := z2.cells; have zrf := z2.fz; have zrl := z2.lt; obtain ⟨yr0, yr1, yr2⟩ := z3.cells; have yrf := z3.fz; have yrl := z3.lt; go_wp2_with fail; refine bodyPost_ret (v := .tuple #[.agg #[.int .i64 0, .int .i64 0, .slice none 0 0], .agg #[.int .i64 0, .int .i64 0, .slice none 0 0], .bool false]) ?_ rfl ?_; (simp [results, Try.results33, go_sem, zr0, zr1, zr2, zrf, zrl, yr0, yr1, yr2, yrf, yrl]); exact ⟨_, _, rfl, Own.nil _ _, Own.nil _ _, by simp [Value.ownBlock], by exact bel3 hb8 g2 g01⟩)
            | some y =>
              obtain ⟨s', K'⟩ := y
              obtain ⟨wf8, ck8, fk8, hk8⟩ := h8 _ hred
              obtain ⟨ok8, hK8, hR8⟩ := redS_ok HOK.out hK1 hlt hred
              have HNX := Lib.hid (redS_some_next (F := F) hlt HACC.out hred)
              have HOK8 := Lib.hid ok8
              clear hred h8 ok8
              go_wp2_with fail
              go_round
              case rel => exact ⟨S + 1, K', s', by go_num, by omega, hK8, .inl hR8, HOK8.out, by rw [HFE.out, HF2.out, HNX.out], wf8, ck8, fk8, hk8, hb8⟩
              case measure => simp [intOf]; omega
      · obtain rfl : RES = some ((⟨R, R, s.1⟩ : MX), (⟨R, R, s.2⟩ : MX)) := by rw [HF.out, rdgF_end (x := (s, K)) hlt]; rfl
        have hle : ¬ (K : Int) < (R : Int) := by omega
        have z2 := M2.out wr hb; have z3 := M3.out wr hb
        obtain ⟨zr0, zr1, zr2⟩ := z2.cells; have zrf := z2.fz; have zrl := z2.lt
        obtain ⟨yr0, yr1, yr2⟩ := z3.cells; have yrf := z3.fz; have yrl := z3.lt
        have hbB := wk.lo
        have hsB := HS1.out
        have hs2 := HS2.out
        clear HOK ok HF
        go_wp2_with fail
        (refine wp_region_heldL (fun W => W.cell? ⟨b, 0, none⟩ = some (.int .i64 R) ∧ W.cell? ⟨b, 1, none⟩ = some (.int .i64 R) ∧ W.cell? ⟨b, 2, none⟩ = some (.slice A2 (R * R) ca2) ∧ W.cell? ⟨b, 3, none⟩ = some (.int .i64 R) ∧ W.cell? ⟨b, 4, none⟩ = some (.int .i64 R) ∧ W.cell? ⟨b, 5, none⟩ = some (.slice U2 (R * R) cu2)) (by kernel_rfl) (by ((try dsimp only); (refine wk6 (A := .slice A2 (R * R) ca2) (U := .slice U2 (R * R) cu2) (V := .slice V2 (R * R) cv2) (bd := false) ?_; ((repeat' (first | with_reducible exact wk.bx | with_reducible refine WBox.drew_ ?_ | with_reducible refine WBox.far ?_ ?_ _)); all_goals (first | omega | (simp; done) | (simp; omega)))))) (fun hHeld => ?_); refine heldL_take (i := 0) (v := _) (by rfl) (by kernel_rfl) (by kernel_rfl) (by kernel_rfl) (fun _ _ _ h => h) (Or.inl ⟨by rfl, fun wS hSw => by ((try dsimp only at hSw); go_simp; (try with_reducible rfl))⟩) (by assumption) ?_; simp only [Act.put, List.setIfInBounds_toArray, List.set_cons_zero, List.set_cons_succ]; refine heldL_take (i := 1) (v := _) (by rfl) (by kernel_rfl) (by kernel_rfl) (by kernel_rfl) (fun _ _ _ h => h) (Or.inl ⟨by rfl, fun wS hSw => by ((try dsimp only at hSw); go_simp; (try with_reducible rfl))⟩) (by assumption) ?_; simp only [Act.put, List.setIfInBounds_toArray, List.set_cons_zero, List.set_cons_succ]; refine heldL_take (i := 2) (v := _) (by rfl) (by kernel_rfl) (by kernel_rfl) (by kernel_rfl) (fun _ _ _ h => h) (Or.inl ⟨by rfl, fun wS hSw => by ((try dsimp only at hSw); go_simp; (try with_reducible rfl))⟩) (by assumption) ?_; simp only [Act.put, List.setIfInBounds_toArray, List.set_cons_zero, List.set_cons_succ]; refine heldL_take (i := 3) (v := _) (by rfl) (by kernel_rfl) (by kernel_rfl) (by kernel_rfl) (fun _ _ _ h => h) (Or.inl ⟨by rfl, fun wS hSw => by ((try dsimp only at hSw); go_simp; (try with_reducible rfl))⟩) (by assumption) ?_; simp only [Act.put, List.setIfInBounds_toArray, List.set_cons_zero, List.set_cons_succ]; refine heldL_take (i := 4) (v := _) (by rfl) (by kernel_rfl) (by kernel_rfl) (by kernel_rfl) (fun _ _ _ h => h) (Or.inl ⟨by rfl, fun wS hSw => by ((try dsimp only at hSw); go_simp; (try with_reducible rfl))⟩) (by assumption) ?_; simp only [Act.put, List.setIfInBounds_toArray, List.set_cons_zero, List.set_cons_succ]; refine heldL_take (i := 5) (v := _) (by rfl) (by kernel_rfl) (by kernel_rfl) (by kernel_rfl) (fun _ _ _ h => h) (Or.inl ⟨by rfl, fun wS hSw => by ((try dsimp only at hSw); go_simp; (try with_reducible rfl))⟩) (by assumption) ?_; simp only [Act.put, List.setIfInBounds_toArray, List.set_cons_zero, List.set_cons_succ]; refine heldL_take (i := 6) (v := _) (by rfl) (by kernel_rfl) (by kernel_rfl) (by kernel_rfl) (fun _ _ _ h => h) (Or.inl ⟨by rfl, fun wS hSw => by ((try dsimp only at hSw); go_simp; (try with_reducible rfl))⟩) (by assumption) ?_; simp only [Act.put, List.setIfInBounds_toArray, List.set_cons_zero, List.set_cons_succ]; refine heldL_take (i := 7) (v := _) (by rfl) (by kernel_rfl) (by kernel_rfl) (by kernel_rfl) (fun _ _ _ h => h) (Or.inl ⟨by rfl, fun wS hSw => by ((try dsimp only at hSw); go_simp; (try with_reducible rfl))⟩) (by assumption) ?_; simp only [Act.put, List.setIfInBounds_toArray, List.set_cons_zero, List.set_cons_succ]; refine heldL_step (i := 8) (by kernel_rfl) (by rfl) (fun K hK => ?_); go_simp; refine hK.out _ _ (by ((try dsimp only); (refine wk6 (A := .slice A2 (R * R) ca2) (U := .slice U2 (R * R) cu2) (V := .slice V2 (R * R) cv2) (bd := false) ?_; ((repeat' (first | with_reducible exact wk.bx | with_reducible refine WBox.drew_ ?_ | with_reducible refine WBox.far ?_ ?_ _)); all_goals (first | omega | (simp; done) | (simp; omega)))))) (fun hHeld => ?_); clear hK K; (try simp only [Act.put, List.setIfInBounds_toArray, List.set_cons_zero, List.set_cons_succ]); refine heldL_step (i := 9) (by kernel_rfl) (by rfl) (fun K hK => ?_); go_simp; refine hK.out _ _ (by ((try dsimp only); (refine wk6 (A := .slice A2 (R * R) ca2) (U := .slice U2 (R * R) cu2) (V := .slice V2 (R * R) cv2) (bd := false) ?_; ((repeat' (first | with_reducible exact wk.bx | with_reducible refine WBox.drew_ ?_ | with_reducible refine WBox.far ?_ ?_ _)); all_goals (first | omega | (simp; done) | (simp; omega)))))) (fun hHeld => ?_); clear hK K; (try simp only [Act.put, List.setIfInBounds_toArray, List.set_cons_zero, List.set_cons_succ]); refine heldL_take (i := 10) (v := _) (by rfl) (by kernel_rfl) (by kernel_rfl) (by kernel_rfl) (fun _ _ _ h => h) (Or.inl ⟨by rfl, fun wS hSw => by ((try dsimp only at hSw); go_simp; (try with_reducible rfl))⟩) (by assumption) ?_; simp only [Act.put, List.setIfInBounds_toArray, List.set_cons_zero, List.set_cons_succ]; refine wpAnyH_done (by kernel_rfl) ?_ _; refine NoPanic.normal ?_)
        go_wp2_with fail
        refine bodyPost_ret (v := .tuple #[.agg #[.int .i64 R, .int .i64 R, .slice A2 (R * R) ca2], .agg #[.int .i64 R, .int .i64 R, .slice U2 (R * R) cu2], .bool true]) ?_ rfl ?_
        · simp [results, Try.results33, go_sem, zr0, zr1, zr2, zrf, zrl, yr0, yr1, yr2, yrf, yrl]
        · have hoA : Own wr w2.heap.size (.slice A2 (R * R) ca2) (oM2 (some ((⟨(R : Int), (R : Int), s.1⟩ : MX), (⟨(R : Int), (R : Int), s.2⟩ : MX)))).1.l := wk.oa
          have hoU : Own wr w2.heap.size (.slice U2 (R * R) cu2) (oM2 (some ((⟨(R : Int), (R : Int), s.1⟩ : MX), (⟨(R : Int), (R : Int), s.2⟩ : MX)))).2.l := wk.ou
          exact ⟨_, _, rfl, by exact ownl hoA, by exact ownl hoU, wk.au, by exact bel3 hb g2 g01⟩
end
end Go.Proofs.Ytpgoefdeodoacaa
