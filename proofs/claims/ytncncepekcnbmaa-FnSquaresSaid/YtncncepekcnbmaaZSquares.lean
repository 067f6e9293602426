/- The row of FnSquares: proved for every input, no condition beyond those of the row. -/
import Derived.Test.YtncncepekcnbmaaPkDr
import Derived.Test.YtncncepekcnbmaaQFacts
import Derived.Test.YtncncepekcnbmaaQSqsP

namespace Go.Proofs.Ytncncepekcnbmaa
set_option linter.unusedSimpArgs false
set_option linter.unusedVariables false
open Go.RowKit
set_option linter.unusedVariables false

theorem QBox.set2 {w : World} {b : Nat} {q : Q2} (h : QBox w b q) (z : Q2) : QBox ((w.setCell ⟨b, 0, none⟩ (.int .i64 z.1)).setCell ⟨b, 1, none⟩ (.int .i64 z.2)) b z := by
  have h0 := h.c0; have h1 := h.c1; have hf := h.fz; have hl := h.lt
  exact ⟨by simp; exact hl, by simp [go_sem, h0], by simp [go_sem, h1], fun o => by simp [go_sem, hf]⟩
section
set_option maxHeartbeats 4000000
set_option maxRecDepth 10000
/-- a matrix drawn from a code -/
def DCode (w : World) (e : Ending) (w' : World) : Prop := ∃ (r c : Int) (V : Option Addr) (cv : Nat) (l : List Int), e = .returned (.agg #[.int .i64 r, .int .i64 c, .slice V l.length cv]) ∧ l.length ≤ 10 ∧ Own w' w.heap.size (.slice V l.length cv) l ∧ Grows w w'
theorem drawSq_c (A : Option Addr) (n cap : Nat) (w : World) (hr : CodeR w w.heap.size A n) (hn : n ≤ 1048576) :
    Calls Try.prog 11 #[.slice A n cap] w (DCode w) := by
  obtain ⟨w1, hw1⟩ : ∃ w1, w1 = w.alloc (.cells #[.int .i64 0, .int .i64 0, .slice none 0 0] 26) := ⟨_, rfl⟩
  have mbr : MBox w1 w.heap.size 0 0 (.slice none 0 0) := by rw [hw1]; exact MBox.mk_ _ _ _ _ _
  have g01 : Grows w w1 := by rw [hw1]; exact bel0
  have hs1 : w1.heap.size = w.heap.size + 1 := by rw [hw1]; simp
  have CN := Lib.hid (l1New_c w.heap.size A n cap w1 (by omega) (hr.keep g01) hn)
  have CG := Lib.hid fun b W h => l18Gram_c w.heap.size b A n cap W h
  have HW1 := Lib.hid hw1
  have HS1 := Lib.hid hs1
  clear hw1 hs1
  go_enter Try.func11, Try.ntmps11
  go_wp2_with fail
  rw [← HW1.out]
  refine CN.out.mono ?_; rintro e w2 ⟨b, rfl, c2, g2⟩
  have hs2 := Below.size g2
  go_wp2_with fail
  refine (CG.out b _ c2).mono ?_; rintro e w3 ⟨r, c, V, cv, l, rfl, hl, o3, c3, g3⟩
  have hs3 := g3.size
  have hs1 := HS1.out
  have k3 : Below w.heap.size w2 w3 := c2.below g3
  have g13 : Below w.heap.size w1 w3 := Below.trans (Below.mono g2 (by omega)) k3
  have G : Grows w w3 := Below.trans g01 g13
  have hb : w.heap.size ≠ b := by
    intro e
    obtain ⟨i, h, _, c⟩ := c2
    have h1 := c.c0
    rw [← e, (mbr.grows g2).c0] at h1
    cases h1
  have mb3 := (mbr.grows g2).by_ g3 hb
  have hvl := fun g e => World.ownsRow.lt o3 g e
  clear hs1 g3 k3 g13 mbr
  obtain ⟨d0, d1, d2⟩ := mb3.cells
  have df := mb3.fz
  have dl := mb3.lt
  have hlt2 : w.heap.size < w2.heap.size := by have := HS1.out; omega
  go_wp2_with fail
  refine bodyPost_ret (v := .agg #[.int .i64 r, .int .i64 c, .slice V l.length cv]) ?_ rfl ?_
  · simp [results, Try.results11, go_sem, d0, d1, d2, df, dl]
  · refine ⟨r, c, V, cv, l, rfl, hl, ?_, by exact bel1 G⟩
    refine Own.less (B := w2.heap.size) ?_ (by omega)
    ((repeat' (first | with_reducible exact o3 | with_reducible refine Own.far ?_ ?_ _)); all_goals (intro g hg; have := hvl g hg; (try simp only); omega))
theorem lawSqs_c (A : Option Addr) (lc : List Int) (cap : Nat) (w : World) (hi : InCode w A lc cap) :
    Calls Try.prog 3 #[.slice A lc.length cap] w fun e w' => e = .returned (.bool true) ∧ Grows w w' := by
  obtain ⟨hr, hc1, hc2⟩ := hi
  simp only [maxLen] at hc2
  have CB := big_c A lc.length cap w (by omega)
  by_cases hn : lc.length ≤ 1048576
  rotate_left
  · rw [decide_eq_true (by omega)] at CB
    have CB' := Lib.hid CB
    clear CB
    go_enter Try.func3, Try.ntmps3
    go_wp2_with fail
    refine CB'.out.mono ?_; rintro e w' ⟨rfl, rfl⟩
    go_wp2_with fail
    go_ret
    exact ⟨rfl, by exact bel0⟩
  · rw [decide_eq_false (by omega)] at CB
    have CB' := Lib.hid CB
    have CD := Lib.hid (drawSq_c A lc.length cap w hr hn)
    clear CB
    go_enter Try.func3, Try.ntmps3
    go_wp2_with fail
    refine CB'.out.mono ?_; rintro e w' ⟨rfl, rfl⟩
    go_wp2_with fail
    refine CD.out.mono ?_; rintro e w2 ⟨r, c, V, cv, l, rfl, hl, o2, g2⟩
    obtain ⟨_, hcv, hcv2⟩ := o2.caps
    have rd2 := o2.rd'
    have CS := fun W h => iSq_c r c V l l.length cv W rfl hcv hcv2 h (by omega)
    have CI := fun W h => sIsDef_c r c V l l.length cv W rfl h (by omega)
    have CJ := fun W h => iIsDef_c r c V l l.length cv W rfl hcv hcv2 h (by omega)
    have CDT := fun W h => iDt_c r c V l l.length cv W rfl h (by omega)
    obtain ⟨w3, hw3⟩ : ∃ w3, w3 = w2.alloc (.cells #[.int .i64 r, .int .i64 c, .slice V l.length cv] 26) := ⟨_, rfl⟩
    have mg : MBox w3 w2.heap.size r c (.slice V l.length cv) := by rw [hw3]; exact MBox.mk_ _ _ _ _ _
    have g23 : Grows w2 w3 := by rw [hw3]; exact bel0
    have rd3 := rd2.grows g23
    have G3 : Grows w' w3 := by exact bel2 g23 g2
    have HW3 := Lib.hid hw3
    clear hw3 o2 CD hr hc1 hc2 hn
    cases hd : isDef r c l with
    | false =>
      have e1 : sqO r c l = none := by unfold sqO; rw [hd]; rfl
      rw [e1] at CS
      rw [hd] at CI
      have CS' := Lib.hid CS
      have CI' := Lib.hid CI
      clear CS CI CJ CDT hd
      go_wp2_with fail
      rw [← HW3.out]
      refine (CS'.out _ rd3).mono ?_; rintro e w4 ⟨v4, rfl, o4, g4⟩
      obtain ⟨A4, c4, rfl, _, _⟩ := o4.val
      obtain ⟨d0, d1, d2⟩ := (mg.grows g4).cells
      have e2 : (oLQ (none : Option (List Q2))).length = 0 := rfl
      rw [e2]
      go_wp2_with fail
      refine (CI'.out _ (rd3.grows g4)).mono ?_; rintro e w5 ⟨rfl, g5⟩
      go_wp2_with fail
      go_ret
      exact ⟨rfl, by exact bel3 g5 g4 G3⟩
    | true =>
      obtain ⟨L, d, e1, hL6, hpos, e3, hd0, e4⟩ := def_facts hd
      rw [e1] at CS
      rw [hd] at CJ
      rw [e3] at CDT
      have CS' := Lib.hid CS
      have CJ' := Lib.hid CJ
      have CDT' := Lib.hid CDT
      have HPO := Lib.hid hpos
      have HE4 := Lib.hid e4
      have HSN := Lib.hid fun i (h : i < L.length) => sqP_nth L L.length i h
      have HLS := Lib.hid (sqP_length L L.length)
      clear CS CI CJ CDT hd e1 e3 hpos e4
      go_wp2_with fail
      rw [← HW3.out]
      refine (CS'.out _ rd3).mono ?_; rintro e w4 ⟨v4, rfl, o4, g4⟩
      obtain ⟨A4, c4, rfl, hr4, _⟩ := o4.val
      obtain ⟨d0, d1, d2⟩ := (mg.grows g4).cells
      have e5 : oLQ (some (sqP L L.length)) = sqP L L.length := rfl
      rw [e5] at hr4 ⊢
      rw [HLS.out]
      clear e5
      go_wp2_with fail
      refine (CDT'.out _ (rd3.grows g4)).mono ?_; rintro e w5 ⟨rfl, g5⟩
      have e6 : (some d : Option Int).getD 0 = d := rfl
      simp only [e6, Option.isSome_some]
      obtain ⟨w6, hw6⟩ : ∃ w6, w6 = w5.alloc (.cells #[.int .i64 1, .int .i64 1] 35) := ⟨_, rfl⟩
      have qb6 : QBox w6 w5.heap.size (1, 1) := by rw [hw6]; exact QBox.new_ _ (1, 1) _ rfl
      have g56 : Grows w5 w6 := by rw [hw6]; exact bel0
      have G6 : Grows w' w6 := by exact bel4 g56 g5 g4 G3
      have hr6 := (hr4.grows g5).grows g56
      have mg6 : MBox w6 w2.heap.size r c (.slice V l.length cv) := mg.grows (by exact bel3 g56 g5 g4)
      have rd6 : Rd w6 V l := rd3.grows (by exact bel3 g56 g5 g4)
      have hsz : w5.heap.size < w6.heap.size := by rw [hw6]; simp
      have HW6 := Lib.hid hw6
      clear hw6 d0 d1 d2 e6 CS' CDT'
      have hL6' : (L.length : Int) ≤ 6 := by omega
      go_wp2_with fail
      rw [← HW6.out]
      have mg5 : MBox w5 w2.heap.size r c (.slice V l.length cv) := mg.grows (by exact bel2 g5 g4)
      have rd5 : Rd w5 V l := rd3.grows (by exact bel2 g5 g4)
      have hr5 := hr4.grows g5
      have G5 : Grows w' w5 := by exact bel3 g5 g4 G3
      clear mg6 rd6 hr6 hr4 rd3 rd2 mg G3
      go_loopw [9] (fun i wr => ∃ (I : Nat) (q : Q2), i = .int .i64 I ∧ I ≤ L.length ∧ RowKit.Hid (q = prodP L I) ∧ QBox wr w5.heap.size q ∧ Grows w5 wr) (fun i _ => L.length - (intOf i).toNat)
      case atStart => exact ⟨0, (1, 1), rfl, Nat.zero_le _, Lib.hid rfl, qb6, g56⟩
      case round =>
        clear qb6 g56 G6 hsz
        obtain ⟨I, q, rfl, hI, HQ, qb, hg⟩ := hrel
        have hrq := hr5.grows hg
        by_cases hlt : I < L.length
        · have hlt' : (I : Int) < (L.length : Int) := by omega
          obtain ⟨bs, fs, rfl, hbs, s0, s1⟩ := hrq I (by rw [HLS.out]; exact hlt)
          rw [HSN.out I hlt] at s0 s1
          obtain ⟨z, hz⟩ : ∃ z, z = makeQ (nth L I) (befP L I) := ⟨_, rfl⟩
          rw [← hz] at s0 s1
          have HX := Lib.hid (show mulQ q z = prodP L (I + 1) by rw [prodP, ← HQ.out, hz])
          have HP := Lib.hid fun (h : okQ z = true) => (show 0 < z.1 by rw [hz] at h ⊢; exact sqQ_pos HPO.out hlt h)
          have CIR := fun W => sIsRatio_c z.1 z.2 W
          have CM := Lib.hid fun W => iMultiplyRatios_c q z W
          obtain ⟨q0, q1⟩ := qb.cells
          cases ho : okQ z
          · rw [show isRat z.1 z.2 = false from ho] at CIR
            have CIR' := Lib.hid CIR
            clear CIR hz ho
            go_wp2_with fail
            refine (CIR'.out _).mono ?_; rintro e w7 ⟨rfl, g7⟩
            have qb7 := qb.grows g7
            have hbs7 : bs < w7.heap.size := Nat.lt_of_lt_of_le hbs (Below.size g7)
            have t0 := (g7.cell (p := ⟨bs, fs + I * 2, none⟩) hbs).trans s0
            have t1 := (g7.cell (p := ⟨bs, fs + I * 2 + 1, none⟩) hbs).trans s1
            clear s0 s1 q0 q1
            go_wp2_with fail
            (refine wp_region_held_last 6 (fun W => W.cell? ⟨w5.heap.size, 0, none⟩ = some (.int .i64 q.1) ∧ W.cell? ⟨w5.heap.size, 1, none⟩ = some (.int .i64 q.2) ∧ W.cell? ⟨bs, fs + I * 2, none⟩ = some (.int .i64 z.1) ∧ W.cell? ⟨bs, fs + I * 2 + 1, none⟩ = some (.int .i64 z.2)) (by rfl) (by kernel_rfl) (by kernel_rfl) (by ((try dsimp only); (first | exact ⟨qb8.c0, qb8.c1, u0, u1⟩ | exact ⟨(qb7.grows (by exact bel0)).c0, (qb7.grows (by exact bel0)).c1, ((show Grows w7 w7.drew by exact bel0).cell (p := ⟨bs, fs + I * 2, none⟩) hbs7).trans t0, ((show Grows w7 w7.drew by exact bel0).cell (p := ⟨bs, fs + I * 2 + 1, none⟩) hbs7).trans t1⟩))) (fun hHeld => ?_); simp only [List.take_succ_cons, List.take_zero]; refine heldL_take (i := 0) (v := _) (by rfl) (by kernel_rfl) (by kernel_rfl) (by kernel_rfl) (fun _ _ _ h => h) (Or.inl ⟨by rfl, fun wS hSw => by ((try dsimp only at hSw); go_simp; (try with_reducible rfl))⟩) (by assumption) ?_; simp only [Act.put, List.setIfInBounds_toArray, List.set_cons_zero, List.set_cons_succ]; refine heldL_take (i := 1) (v := _) (by rfl) (by kernel_rfl) (by kernel_rfl) (by kernel_rfl) (fun _ _ _ h => h) (Or.inl ⟨by rfl, fun wS hSw => by ((try dsimp only at hSw); go_simp; (try with_reducible rfl))⟩) (by assumption) ?_; simp only [Act.put, List.setIfInBounds_toArray, List.set_cons_zero, List.set_cons_succ]; refine heldL_take (i := 2) (v := _) (by rfl) (by kernel_rfl) (by kernel_rfl) (by kernel_rfl) (fun _ _ _ h => h) (Or.inl ⟨by rfl, fun wS hSw => by ((try dsimp only at hSw); go_simp; (try with_reducible rfl))⟩) (by assumption) ?_; simp only [Act.put, List.setIfInBounds_toArray, List.set_cons_zero, List.set_cons_succ]; refine heldL_take (i := 3) (v := _) (by rfl) (by kernel_rfl) (by kernel_rfl) (by kernel_rfl) (fun _ _ _ h => h) (Or.inl ⟨by rfl, fun wS hSw => by ((try dsimp only at hSw); go_simp; (try with_reducible rfl))⟩) (by assumption) ?_; simp only [Act.put, List.setIfInBounds_toArray, List.set_cons_zero, List.set_cons_succ]; refine heldL_take (i := 4) (v := _) (by rfl) (by kernel_rfl) (by kernel_rfl) (by kernel_rfl) (fun _ _ _ h => h) (Or.inl ⟨by rfl, fun wS hSw => by ((try dsimp only at hSw); go_simp; (try with_reducible rfl))⟩) (by assumption) ?_; simp only [Act.put, List.setIfInBounds_toArray, List.set_cons_zero, List.set_cons_succ]; refine heldL_step (i := 5) (by kernel_rfl) (by rfl) (fun K hK => ?_); go_simp; (refine (CM.out _).mono ?_; rintro e w8 ⟨rfl, g8⟩; have g78 : Grows w7 w8 := (by exact bel1 g8); have qb8 := qb7.grows g78; have u0 := (g78.cell (p := ⟨bs, fs + I * 2, none⟩) hbs7).trans t0; have u1 := (g78.cell (p := ⟨bs, fs + I * 2 + 1, none⟩) hbs7).trans t1); (try (go_wp2_with fail)); refine hK.out _ _ (by ((try dsimp only); (first | exact ⟨qb8.c0, qb8.c1, u0, u1⟩ | exact ⟨(qb7.grows (by exact bel0)).c0, (qb7.grows (by exact bel0)).c1, ((show Grows w7 w7.drew by exact bel0).cell (p := ⟨bs, fs + I * 2, none⟩) hbs7).trans t0, ((show Grows w7 w7.drew by exact bel0).cell (p := ⟨bs, fs + I * 2 + 1, none⟩) hbs7).trans t1⟩))) (fun hHeld => ?_); clear hK K; (try simp only [Act.put, List.setIfInBounds_toArray, List.set_cons_zero, List.set_cons_succ]); refine wpAnyH_done (by kernel_rfl) ?_ _; refine lastQ_go ?_)
            have qs := qb8.set2 (mulQ q z)
            obtain ⟨q0, q1⟩ := qb8.cells
            have qf := qb8.fz
            have ql := qb8.lt
            go_wp2_with fail
            go_round
            case rel => exact ⟨I + 1, mulQ q z, by go_num, by omega, HX, qs, by exact bel3 g78 g7 hg⟩
            case measure => first | (simp [intOf]; done) | (simp [intOf]; omega)
          · have hpz : ¬ (z.1 ≤ 0) := by have := HP.out ho; omega
            rw [show isRat z.1 z.2 = true from ho] at CIR
            have CIR' := Lib.hid CIR
            clear CIR hz ho
            go_wp2_with fail
            refine (CIR'.out _).mono ?_; rintro e w7 ⟨rfl, g7⟩
            have qb7 := qb.grows g7
            have hbs7 : bs < w7.heap.size := Nat.lt_of_lt_of_le hbs (Below.size g7)
            have t0 := (g7.cell (p := ⟨bs, fs + I * 2, none⟩) hbs).trans s0
            have t1 := (g7.cell (p := ⟨bs, fs + I * 2 + 1, none⟩) hbs).trans s1
            clear s0 s1 q0 q1
            go_wp2_with fail
            (refine wp_region_held_last 6 (fun W => W.cell? ⟨w5.heap.size, 0, none⟩ = some (.int .i64 q.1) ∧ W.cell? ⟨w5.heap.size, 1, none⟩ = some (.int .i64 q.2) ∧ W.cell? ⟨bs, fs + I * 2, none⟩ = some (.int .i64 z.1) ∧ W.cell? ⟨bs, fs + I * 2 + 1, none⟩ = some (.int .i64 z.2)) (by rfl) (by kernel_rfl) (by kernel_rfl) (by ((try dsimp only); (first | exact ⟨qb8.c0, qb8.c1, u0, u1⟩ | exact ⟨(qb7.grows (by exact bel0)).c0, (qb7.grows (by exact bel0)).c1, ((show Grows w7 w7.drew by exact bel0).cell (p := ⟨bs, fs + I * 2, none⟩) hbs7).trans t0, ((show Grows w7 w7.drew by exact bel0).cell (p := ⟨bs, fs + I * 2 + 1, none⟩) hbs7).trans t1⟩))) (fun hHeld => ?_); simp only [List.take_succ_cons, List.take_zero]; refine heldL_take (i := 0) (v := _) (by rfl) (by kernel_rfl) (by kernel_rfl) (by kernel_rfl) (fun _ _ _ h => h) (Or.inl ⟨by rfl, fun wS hSw => by ((try dsimp only at hSw); go_simp; (try with_reducible rfl))⟩) (by assumption) ?_; simp only [Act.put, List.setIfInBounds_toArray, List.set_cons_zero, List.set_cons_succ]; refine heldL_take (i := 1) (v := _) (by rfl) (by kernel_rfl) (by kernel_rfl) (by kernel_rfl) (fun _ _ _ h => h) (Or.inl ⟨by rfl, fun wS hSw => by ((try dsimp only at hSw); go_simp; (try with_reducible rfl))⟩) (by assumption) ?_; simp only [Act.put, List.setIfInBounds_toArray, List.set_cons_zero, List.set_cons_succ]; refine heldL_take (i := 2) (v := _) (by rfl) (by kernel_rfl) (by kernel_rfl) (by kernel_rfl) (fun _ _ _ h => h) (Or.inl ⟨by rfl, fun wS hSw => by ((try dsimp only at hSw); go_simp; (try with_reducible rfl))⟩) (by assumption) ?_; simp only [Act.put, List.setIfInBounds_toArray, List.set_cons_zero, List.set_cons_succ]; refine heldL_take (i := 3) (v := _) (by rfl) (by kernel_rfl) (by kernel_rfl) (by kernel_rfl) (fun _ _ _ h => h) (Or.inl ⟨by rfl, fun wS hSw => by ((try dsimp only at hSw); go_simp; (try with_reducible rfl))⟩) (by assumption) ?_; simp only [Act.put, List.setIfInBounds_toArray, List.set_cons_zero, List.set_cons_succ]; refine heldL_take (i := 4) (v := _) (by rfl) (by kernel_rfl) (by kernel_rfl) (by kernel_rfl) (fun _ _ _ h => h) (Or.inl ⟨by rfl, fun wS hSw => by ((try dsimp only at hSw); go_simp; (try with_reducible rfl))⟩) (by assumption) ?_; simp only [Act.put, List.setIfInBounds_toArray, List.set_cons_zero, List.set_cons_succ]; refine heldL_step (i := 5) (by kernel_rfl) (by rfl) (fun K hK => ?_); go_simp; (refine (CM.out _).mono ?_; rintro e w8 ⟨rfl, g8⟩; have g78 : Grows w7 w8 := (by exact bel1 g8); have qb8 := qb7.grows g78; have u0 := (g78.cell (p := ⟨bs, fs + I * 2, none⟩) hbs7).trans t0; have u1 := (g78.cell (p := ⟨bs, fs + I * 2 + 1, none⟩) hbs7).trans t1); (try (go_wp2_with fail)); refine hK.out _ _ (by ((try dsimp only); (first | exact ⟨qb8.c0, qb8.c1, u0, u1⟩ | exact ⟨(qb7.grows (by exact bel0)).c0, (qb7.grows (by exact bel0)).c1, ((show Grows w7 w7.drew by exact bel0).cell (p := ⟨bs, fs + I * 2, none⟩) hbs7).trans t0, ((show Grows w7 w7.drew by exact bel0).cell (p := ⟨bs, fs + I * 2 + 1, none⟩) hbs7).trans t1⟩))) (fun hHeld => ?_); clear hK K; (try simp only [Act.put, List.setIfInBounds_toArray, List.set_cons_zero, List.set_cons_succ]); refine wpAnyH_done (by kernel_rfl) ?_ _; refine lastQ_go ?_)
            have qs := qb8.set2 (mulQ q z)
            obtain ⟨q0, q1⟩ := qb8.cells
            have qf := qb8.fz
            have ql := qb8.lt
            go_wp2_with fail
            go_round
            case rel => exact ⟨I + 1, mulQ q z, by go_num, by omega, HX, qs, by exact bel3 g78 g7 hg⟩
            case measure => first | (simp [intOf]; done) | (simp [intOf]; omega)
        · have hlt' : ¬ (I : Int) < (L.length : Int) := by omega
          have hqe : okQ q = true → q = (d, 1) := fun h => by
            have hIL : I = L.length := by omega
            have e := HQ.out
            rw [e] at h ⊢
            rw [prodP_ok HPO.out I (by omega) h, hIL, HE4.out]
          have CIR := fun W => sIsRatio_c q.1 q.2 W
          have hrd := rd5.grows hg
          obtain ⟨d0, d1, d2⟩ := (mg5.grows hg).cells
          cases ho : okQ q
          · rw [show isRat q.1 q.2 = false from ho] at CIR
            have CIR' := Lib.hid CIR
            clear CIR hqe ho
            go_wp2_with fail
            refine (CJ'.out _ hrd).mono ?_; rintro e w7 ⟨rfl, g7⟩
            obtain ⟨q0, q1⟩ := (qb.grows g7).cells
            clear d0 d1 d2
            go_wp2_with fail
            refine (CIR'.out _).mono ?_; rintro e w8 ⟨rfl, g8⟩
            go_wp2_with fail
            go_ret
            exact ⟨rfl, by exact bel4 g8 g7 hg G5⟩
          · obtain rfl := hqe ho
            rw [show isRat (d, (1 : Int)).1 (d, (1 : Int)).2 = true from ho] at CIR
            have CIR' := Lib.hid CIR
            clear CIR hqe ho
            go_wp2_with fail
            refine (CJ'.out _ hrd).mono ?_; rintro e w7 ⟨rfl, g7⟩
            obtain ⟨q0, q1⟩ := (qb.grows g7).cells
            clear d0 d1 d2
            go_wp2_with fail
            refine (CIR'.out _).mono ?_; rintro e w8 ⟨rfl, g8⟩
            have hs7 := Below.size g7
            have qb8 := (qb.grows g7).grows g8
            clear q0 q1
            obtain ⟨q0, q1⟩ := qb8.cells
            go_wp2_with fail
            go_ret
            exact ⟨rfl, by exact bel4 g8 g7 hg G5⟩
end
end Go.Proofs.Ytncncepekcnbmaa


namespace Go.Proofs.Ytncncepekcnbmaa
set_option linter.unusedSimpArgs false
set_option linter.unusedVariables false
open Go.ChangeShapes Go.WideShapes Go.ChangeAt Go.RowKit Go.Joins
set_option linter.unusedVariables false

set_option maxRecDepth 100000 in
theorem fnSquares_lifted (os : Os) (started : os.Started) (H : Type) (enc : TypeId × Value → H) :
    ReturnsInHanded {} Try.checked os 3 .any (Rows.fnSquaresSpec.pre6 enc Try.prog Try.f3 Rows.fnSquaresRow.domain false) (Rows.fnSquaresSpec.post enc Try.prog Try.f3 false true false false) := by
  refine returnsInHanded_of_change (C := Try.checked) own started (by kernel_rfl) Try.func3
    (ChangeSpec.witness6 (enc := enc) (C := Try.checked) false ⟨#[], #[.slice none 0 0], []⟩ 8 (by kernel_rfl) (by kernel_rfl) (by kernel_rfl) (by kernel_rfl)) ?_
  intro W base args ds gs before hval0 hW hcnd _
  have hval : ∀ (j : Nat) t v, Try.f3.params[j]? = some t → args[j]? = some v → Value.okWide Try.prog W .any base t v := hval0
  have hW' := hW
  obtain ⟨p, q, hA0, hV, rfl, hfz, hnd⟩ := hW
  have hA : DataW.TrodAll enc Try.prog W 0 (fun _ => true) true Try.f3.params.toList args.toList ds p := hA0
  rw [Try.params3] at hA hval
  obtain ⟨v0, vs0, d0, ds0, p0, q0, hargs, rfl, rfl, h0, r0⟩ := trodAll_cons hA
  obtain ⟨rfl, rfl, rfl⟩ := trodAll_nil r0
  obtain rfl : args = #[v0] := by cases args; simp_all
  obtain ⟨rfl, rfl⟩ := trodVars_none hV
  have k0 := h0
  have lt0 : ∀ x ∈ p0, x.block < W.heap.size := by obtain ⟨m, hm⟩ := k0; exact DataW.trod_lt m _ _ _ hm
  obtain ⟨a00, len0, cap0, rfl⟩ := okWide_slice Try.underlying22 (hval 0 22 v0 rfl rfl)
  obtain ⟨A0, l0, c0, e0, ir0⟩ : ∃ A l c, Value.slice a00 len0 cap0 = .slice A (List.length l) c ∧ InCode W A l c := by obtain ⟨fuel, hf⟩ := h0; simp only [Value.cells] at hf; exact open_code hf
  rw [e0] at hval hW' k0 ⊢
  clear hA0 hval0
  refine (lawSqs_c A0 l0 c0 W ir0).mono fun e W' ⟨he, bel⟩ => ?_
  subst he
  exact ⟨_, rfl, _, _, _, [], _, [], hW', trodAll_mk1 (shut_bool Try.underlying4 _), (trodAll_cons_mk (Below.trod laidOut (by kernel_rfl) (of_decide_eq_true (by kernel_rfl)) k0 bel lt0) trodAll_mk0), rfl, bel.frame _, fun h => by cases h⟩

theorem fnSquares_closed : joinedFacts Try.pinned.checked.prog 3 Try.f3 Rows.fnSquaresSpec Rows.fnSquaresRow = true := by
  unfold joinedFacts
  rw [fLaid, fRowed, fStops, fEnter, fLift, fMake]
  change _ = true
  kernel_rfl
/-- The statement. -/
theorem fnSquares_holds : Rows.FnSquaresSaid :=
  OpenClaim.holds_of_wide 3 Try.f3 rfl rfl rfl rfl rfl rfl rfl ⟨rfl, rfl, rfl, rfl, rfl⟩ rfl rfl rfl rfl rfl (by kernel_rfl) Try.func3 fnSquares_closed
    (of_decide_eq_true (by kernel_rfl)) (by unfold Func.isWrapper; first | (rw [if_pos (by decide +kernel)]; kernel_rfl) | (rw [if_neg (by decide +kernel)]; exact ⟨rfl, rfl⟩))
    (fun os started H enc _ => fnSquares_lifted os started H enc)
end Go.Proofs.Ytncncepekcnbmaa
