/- Contracts and lemmas, put together. -/
import Derived.Test.YtfilbjbogggaoaaGreatPkDr
/- The draws: a form and a bound. -/
namespace Go.Proofs.YtfilbjbogggaoaaGreat
set_option linter.unusedSimpArgs false
set_option linter.unusedVariables false
open Go.RowKit

/-- a matrix and a number drawn from a code -/
def DAsk (w : World) (e : Ending) (w' : World) : Prop := ∃ (r c : Int) (V : Option Addr) (cv : Nat) (l : List Int) (x : Int), e = .returned (.tuple #[.agg #[.int .i64 r, .int .i64 c, .slice V l.length cv], .int .i64 x]) ∧ (-1 ≤ r ∧ r ≤ 8) ∧ l.length ≤ 10 ∧ Own w' w.heap.size (.slice V l.length cv) l ∧ Grows w w'
theorem Mv.put3 {b : Nat} (w : World) (u v x : Value) : Mv (fun g => g = b) w (((w.setCell ⟨b, 0, none⟩ u).setCell ⟨b, 1, none⟩ v).setCell ⟨b, 2, none⟩ x) :=
  (((Mv.refl (S := fun g => g = b) w).put (p := ⟨b, 0, none⟩) (.inr rfl) _).put (p := ⟨b, 1, none⟩) (.inr rfl) _).put (p := ⟨b, 2, none⟩) (.inr rfl) _
section
set_option maxHeartbeats 4000000
set_option maxRecDepth 10000
theorem l20Ask_c (A : Option Addr) (n cap : Nat) (w : World) (hr : CodeR w w.heap.size A n) (hn : n ≤ 1048576) :
    Calls Tryz.prog 50 #[.slice A n cap] w (DAsk w) := by
  obtain ⟨w1, hw1⟩ : ∃ w1, w1 = w.alloc (.cells #[.int .i64 0, .int .i64 0, .slice none 0 0] 26) := ⟨_, rfl⟩
  have mbr : MBox w1 w.heap.size 0 0 (.slice none 0 0) := by rw [hw1]; exact MBox.mk_ _ _ _ _ _
  have g01 : Grows w w1 := by rw [hw1]; exact bel0
  have hs1 : w1.heap.size = w.heap.size + 1 := by rw [hw1]; simp
  have CN := Lib.hid (l1New_c w.heap.size A n cap w1 (by omega) (hr.keep g01) hn)
  have CG := Lib.hid fun b W h => l18Gram_c w.heap.size b A n cap W h
  have CO := Lib.hid fun b W h => l1Once_c w.heap.size b A n cap 16 W (by omega) h
  have C20 := Lib.hid fun b W h => l1Below_c w.heap.size b A n cap 20 W (by omega) h
  have HW1 := Lib.hid hw1
  have HS1 := Lib.hid hs1
  clear hw1
  go_enter Tryz.func50, Tryz.ntmps50
  go_wp2_with fail
  rw [← HW1.out]
  refine CN.out.mono ?_; rintro e w2 ⟨b, rfl, c2, g2⟩
  have hs2 := Below.size g2
  have hb : w.heap.size ≠ b := by
    intro e
    obtain ⟨i, h, _, c⟩ := c2
    have h1 := c.c0
    rw [← e, (mbr.grows g2).c0] at h1
    cases h1
  have hbl := c2.lt
  have hlo := c2.lo
  have hW2 : w.heap.size + 1 ≤ w2.heap.size := by omega
  have hW1 : w.heap.size ≤ w1.heap.size := by omega
  have mbr2 := mbr.grows g2
  clear mbr hs1
  go_wp2_with fail
  refine (CG.out b _ c2).mono ?_; rintro e w3 ⟨r, c, V, cv, l, rfl, hrb, hl, o3, c3, g3⟩
  have hs3 := g3.size
  have mbr3 := mbr2.by_ g3 hb
  have k3 : Below w.heap.size w2 w3 := c2.below g3
  have hvl := fun g e => World.ownsRow.lt o3 g e
  obtain ⟨w4, hw4⟩ : ∃ w4, w4 = w3.alloc (.cells #[.int .i64 r, .int .i64 c, .slice V l.length cv] 26) := ⟨_, rfl⟩
  have mbg4 : MBox w4 w3.heap.size r c (.slice V l.length cv) := by rw [hw4]; exact MBox.mk_ _ _ _ _ _
  have g34 : Grows w3 w4 := by rw [hw4]; exact bel0
  have HW4 := Lib.hid hw4
  have c4 := c3.grows g34
  have hs4 := Below.size g34
  have mbr4 := mbr3.grows g34
  have o4 := o3.grows g34
  clear hw4 c3 mbr3 o3 mbr2 g3 c2
  go_wp2_with fail
  rw [← HW4.out]
  refine (CO.out b _ c4).mono ?_; rintro e w5 ⟨t, rfl, c5, g5⟩
  have hs5 := g5.size
  have hvb : ∀ g, (Value.slice V l.length cv).ownBlock = some g → g ≠ b := fun g e => by have := hvl g e; omega
  have mbg5 := mbg4.by_ g5 (by omega)
  have mbr5 := mbr4.by_ g5 hb
  have o5 := o4.by_ g5 hvb
  have k5 : Below w.heap.size w4 w5 := c4.below g5
  have G5 : Grows w w5 := Below.trans g01 (Below.trans (Below.mono g2 (by omega)) (Below.trans k3 (Below.trans (Below.mono g34 (by omega)) k5)))
  have HVL := Lib.hid hvl
  have HVB := Lib.hid hvb
  clear hvl hvb c4 mbg4 mbr4 o4 g5 k5 k3 g34 g2 g01
  have ed : w5.drew.heap.size = w5.heap.size := rfl
  cases t
  · go_wp2_with fail
    (refine wp_region_heldL (fun W => W.cell? ⟨w3.heap.size, 0, none⟩ = some (.int .i64 r) ∧ W.cell? ⟨w3.heap.size, 1, none⟩ = some (.int .i64 c) ∧ W.cell? ⟨w3.heap.size, 2, none⟩ = some (.slice V l.length cv)) (by kernel_rfl) (by ((try dsimp only); (first | exact (mbg6.mv (Mv.put3 _ _ _ _) (by omega)).cells | exact mbg6.cells | exact (mbg5.grows (by exact bel0)).cells))) (fun hHeld => ?_); refine heldL_take (i := 0) (v := _) (by rfl) (by kernel_rfl) (by kernel_rfl) (by kernel_rfl) (fun _ _ _ h => h) (Or.inl ⟨by rfl, fun wS hSw => by ((try dsimp only at hSw); go_simp; (try with_reducible rfl))⟩) (by assumption) ?_; simp only [Act.put, List.setIfInBounds_toArray, List.set_cons_zero, List.set_cons_succ]; refine heldL_take (i := 1) (v := _) (by rfl) (by kernel_rfl) (by kernel_rfl) (by kernel_rfl) (fun _ _ _ h => h) (Or.inl ⟨by rfl, fun wS hSw => by ((try dsimp only at hSw); go_simp; (try with_reducible rfl))⟩) (by assumption) ?_; simp only [Act.put, List.setIfInBounds_toArray, List.set_cons_zero, List.set_cons_succ]; refine heldL_step (i := 2) (by kernel_rfl) (by rfl) (fun K hK => ?_); go_simp; (refine (C20.out b _ (c5.grows (by exact bel0))).mono ?_; rintro e w6 ⟨y, rfl, hy, c6, g6⟩; have mbg6 := (mbg5.grows (w' := w5.drew) (by exact bel0)).by_ g6 (by omega); have mbr6 := (mbr5.grows (w' := w5.drew) (by exact bel0)).by_ g6 hb; obtain ⟨e0, e1, e2⟩ := mbr6.cells; have ef := mbr6.fz; have el := mbr6.lt) ; (try (go_wp2_with fail)); refine hK.out _ _ (by ((try dsimp only); (first | exact (mbg6.mv (Mv.put3 _ _ _ _) (by omega)).cells | exact mbg6.cells | exact (mbg5.grows (by exact bel0)).cells))) (fun hHeld => ?_); clear hK K; (try simp only [Act.put, List.setIfInBounds_toArray, List.set_cons_zero, List.set_cons_succ]); refine heldL_step (i := 3) (by kernel_rfl) (by rfl) (fun K hK => ?_); go_simp; refine hK.out _ _ (by ((try dsimp only); (first | exact (mbg6.mv (Mv.put3 _ _ _ _) (by omega)).cells | exact mbg6.cells | exact (mbg5.grows (by exact bel0)).cells))) (fun hHeld => ?_); clear hK K; (try simp only [Act.put, List.setIfInBounds_toArray, List.set_cons_zero, List.set_cons_succ]); refine heldL_take (i := 4) (v := _) (by rfl) (by kernel_rfl) (by kernel_rfl) (by kernel_rfl) (fun _ _ _ h => h) (Or.inl ⟨by rfl, fun wS hSw => by ((try dsimp only at hSw); go_simp; (try with_reducible rfl))⟩) (by assumption) ?_; simp only [Act.put, List.setIfInBounds_toArray, List.set_cons_zero, List.set_cons_succ]; refine wpAnyH_done (by kernel_rfl) ?_ _; refine NoPanic.normal ?_)
    have o6 := (o5.grows (w' := w5.drew) (by exact bel0)).by_ g6 HVB.out
    have k6 : Below w.heap.size w5.drew w6 := (c5.grows (w' := w5.drew) (by exact bel0)).below g6
    have G6 : Grows w w6 := Below.trans (Below.trans G5 (show Below w.heap.size w5 w5.drew by exact bel0)) k6
    go_wp2_with fail
    refine bodyPost_ret (v := .tuple #[.agg #[.int .i64 r, .int .i64 c, .slice V l.length cv], .int .i64 y]) ?_ rfl ?_
    · simp [results, Tryz.results50, go_sem, e0, e1, e2, ef, el]
    · refine ⟨r, c, V, cv, l, y, rfl, hrb, hl, ?_, by exact bel1 G6⟩
      refine Own.less (B := w2.heap.size) ?_ (by omega)
      ((repeat' (first | with_reducible exact o6 | with_reducible refine Own.far ?_ ?_ _)); all_goals (intro g hg; have := HVL.out g hg; (try simp only); omega))
  · obtain ⟨w6, hw6⟩ : ∃ w6, w6 = (w5.alloc (.cells #[.int .i64 (-1), .int .i64 0, .int .i64 10000, .int .i64 10001] 3)).drew := ⟨_, rfl⟩
    have g56 : Grows w5 w6 := by rw [hw6]; exact bel0
    have hr6 : Rd w6 (some ⟨w5.heap.size, 0, none⟩) [-1, 0, 10000, 10001] := by
      rw [hw6]
      intro i hi
      refine ⟨w5.heap.size, 0, rfl, by simp, ?_⟩
      simp only [List.length_cons, List.length_nil] at hi
      rcases i with _ | _ | _ | _ | i <;> first | omega | simp [go_sem, nth]
    have CP := Lib.hid (l1PickInt_c w.heap.size b A n cap (some ⟨w5.heap.size, 0, none⟩) _ 4 4 w6 rfl (by omega) (by omega) hr6 (fun a e => by cases e; simp; omega) (c5.grows g56))
    have HW6 := Lib.hid hw6
    clear hw6 hr6
    go_wp2_with fail
    (refine wp_region_heldL (fun W => W.cell? ⟨w3.heap.size, 0, none⟩ = some (.int .i64 r) ∧ W.cell? ⟨w3.heap.size, 1, none⟩ = some (.int .i64 c) ∧ W.cell? ⟨w3.heap.size, 2, none⟩ = some (.slice V l.length cv)) (by kernel_rfl) (by ((try dsimp only); (first | exact (mbg7.mv (Mv.put3 _ _ _ _) (by omega)).cells | exact mbg7.cells | exact (mbg5.grows (by exact bel0)).cells))) (fun hHeld => ?_); refine heldL_take (i := 0) (v := _) (by rfl) (by kernel_rfl) (by kernel_rfl) (by kernel_rfl) (fun _ _ _ h => h) (Or.inl ⟨by rfl, fun wS hSw => by ((try dsimp only at hSw); go_simp; (try with_reducible rfl))⟩) (by assumption) ?_; simp only [Act.put, List.setIfInBounds_toArray, List.set_cons_zero, List.set_cons_succ]; refine heldL_take (i := 1) (v := _) (by rfl) (by kernel_rfl) (by kernel_rfl) (by kernel_rfl) (fun _ _ _ h => h) (Or.inl ⟨by rfl, fun wS hSw => by ((try dsimp only at hSw); go_simp; (try with_reducible rfl))⟩) (by assumption) ?_; simp only [Act.put, List.setIfInBounds_toArray, List.set_cons_zero, List.set_cons_succ]; refine heldL_step (i := 2) (by kernel_rfl) (by rfl) (fun K hK => ?_); go_simp; refine hK.out _ _ (by ((try dsimp only); (first | exact (mbg7.mv (Mv.put3 _ _ _ _) (by omega)).cells | exact mbg7.cells | exact (mbg5.grows (by exact bel0)).cells))) (fun hHeld => ?_); clear hK K; (try simp only [Act.put, List.setIfInBounds_toArray, List.set_cons_zero, List.set_cons_succ]); refine heldL_step (i := 3) (by kernel_rfl) (by rfl) (fun K hK => ?_); go_simp; (rw [← HW6.out]; refine CP.out.mono ?_; rintro e w7 ⟨yi, hyi, rfl, c7, g7⟩; have mbg7 := (mbg5.grows g56).by_ g7 (by omega); have mbr7 := (mbr5.grows g56).by_ g7 hb; obtain ⟨e0, e1, e2⟩ := mbr7.cells; have ef := mbr7.fz; have el := mbr7.lt) ; (try (go_wp2_with fail)); refine hK.out _ _ (by ((try dsimp only); (first | exact (mbg7.mv (Mv.put3 _ _ _ _) (by omega)).cells | exact mbg7.cells | exact (mbg5.grows (by exact bel0)).cells))) (fun hHeld => ?_); clear hK K; (try simp only [Act.put, List.setIfInBounds_toArray, List.set_cons_zero, List.set_cons_succ]); refine heldL_step (i := 4) (by kernel_rfl) (by rfl) (fun K hK => ?_); go_simp; refine hK.out _ _ (by ((try dsimp only); (first | exact (mbg7.mv (Mv.put3 _ _ _ _) (by omega)).cells | exact mbg7.cells | exact (mbg5.grows (by exact bel0)).cells))) (fun hHeld => ?_); clear hK K; (try simp only [Act.put, List.setIfInBounds_toArray, List.set_cons_zero, List.set_cons_succ]); refine heldL_take (i := 5) (v := _) (by rfl) (by kernel_rfl) (by kernel_rfl) (by kernel_rfl) (fun _ _ _ h => h) (Or.inl ⟨by rfl, fun wS hSw => by ((try dsimp only at hSw); go_simp; (try with_reducible rfl))⟩) (by assumption) ?_; simp only [Act.put, List.setIfInBounds_toArray, List.set_cons_zero, List.set_cons_succ]; refine wpAnyH_done (by kernel_rfl) ?_ _; refine NoPanic.normal ?_)
    have o7 := (o5.grows g56).by_ g7 HVB.out
    have k7 : Below w.heap.size w6 w7 := (c5.grows g56).below g7
    have G7 : Grows w w7 := Below.trans (Below.trans G5 (Below.mono g56 (by have := Below.size G5; omega))) k7
    go_wp2_with fail
    refine bodyPost_ret (v := .tuple #[.agg #[.int .i64 r, .int .i64 c, .slice V l.length cv], .int .i64 (nth [-1, 0, 10000, 10001] yi)]) ?_ rfl ?_
    · simp [results, Tryz.results50, go_sem, e0, e1, e2, ef, el]
    · refine ⟨r, c, V, cv, l, _, rfl, hrb, hl, ?_, by exact bel1 G7⟩
      refine Own.less (B := w2.heap.size) ?_ (by omega)
      ((repeat' (first | with_reducible exact o7 | with_reducible refine Own.far ?_ ?_ _)); all_goals (intro g hg; have := HVL.out g hg; (try simp only); omega))
theorem askDrawThetaOf_c (A : Option Addr) (n cap : Nat) (w : World) (hr : CodeR w w.heap.size A n) (hn : n ≤ 1048576) :
    Calls Tryz.prog 44 #[.slice A n cap] w (DAsk w) := by
  obtain ⟨w1, hw1⟩ : ∃ w1, w1 = w.alloc (.cells #[.int .i64 0, .int .i64 0, .slice none 0 0] 26) := ⟨_, rfl⟩
  have mbr : MBox w1 w.heap.size 0 0 (.slice none 0 0) := by rw [hw1]; exact MBox.mk_ _ _ _ _ _
  have g01 : Grows w w1 := by rw [hw1]; exact bel0
  have hs1 : w1.heap.size = w.heap.size + 1 := by rw [hw1]; simp
  have CA := Lib.hid (l20Ask_c A n cap w1 (fun i hi => by obtain ⟨b, off, x, h1, h2, h3⟩ := hr.keep g01 i hi; exact ⟨b, off, x, h1, by omega, h3⟩) hn)
  have HW1 := Lib.hid hw1
  have hlt : w.heap.size < w1.heap.size := by omega
  clear hw1 hs1
  go_enter Tryz.func44, Tryz.ntmps44
  go_wp2_with fail
  rw [← HW1.out]
  refine CA.out.mono ?_; rintro e w2 ⟨r, c, V, cv, l, x, rfl, hrb, hl, o2, g2⟩
  have mb2 := mbr.grows g2
  have hvl := fun g e => World.ownsRow.lt o2 g e
  obtain ⟨d0, d1, d2⟩ := mb2.cells
  have df := mb2.fz
  have dl := mb2.lt
  go_wp2_with fail
  refine bodyPost_ret (v := .tuple #[.agg #[.int .i64 r, .int .i64 c, .slice V l.length cv], .int .i64 x]) ?_ rfl ?_
  · simp [results, Tryz.results44, go_sem, d0, d1, d2, df, dl]
  · refine ⟨r, c, V, cv, l, x, rfl, hrb, hl, ?_, by exact bel2 g2 g01⟩
    refine Own.less (B := w1.heap.size) ?_ (by omega)
    ((repeat' (first | with_reducible exact o2 | with_reducible refine Own.far ?_ ?_ _)); all_goals (intro g hg; have := hvl g hg; (try simp only); omega))
theorem askDrawShortVectors_c (A : Option Addr) (n cap : Nat) (w : World) (hr : CodeR w w.heap.size A n) (hn : n ≤ 1048576) :
    Calls Tryz.prog 10 #[.slice A n cap] w (DAsk w) := by
  obtain ⟨w1, hw1⟩ : ∃ w1, w1 = w.alloc (.cells #[.int .i64 0, .int .i64 0, .slice none 0 0] 26) := ⟨_, rfl⟩
  have mbr : MBox w1 w.heap.size 0 0 (.slice none 0 0) := by rw [hw1]; exact MBox.mk_ _ _ _ _ _
  have g01 : Grows w w1 := by rw [hw1]; exact bel0
  have hs1 : w1.heap.size = w.heap.size + 1 := by rw [hw1]; simp
  have CA := Lib.hid (l20Ask_c A n cap w1 (fun i hi => by obtain ⟨b, off, x, h1, h2, h3⟩ := hr.keep g01 i hi; exact ⟨b, off, x, h1, by omega, h3⟩) hn)
  have HW1 := Lib.hid hw1
  have hlt : w.heap.size < w1.heap.size := by omega
  clear hw1 hs1
  go_enter Tryz.func10, Tryz.ntmps10
  go_wp2_with fail
  rw [← HW1.out]
  refine CA.out.mono ?_; rintro e w2 ⟨r, c, V, cv, l, x, rfl, hrb, hl, o2, g2⟩
  have mb2 := mbr.grows g2
  have hvl := fun g e => World.ownsRow.lt o2 g e
  obtain ⟨d0, d1, d2⟩ := mb2.cells
  have df := mb2.fz
  have dl := mb2.lt
  go_wp2_with fail
  refine bodyPost_ret (v := .tuple #[.agg #[.int .i64 r, .int .i64 c, .slice V l.length cv], .int .i64 x]) ?_ rfl ?_
  · simp [results, Tryz.results10, go_sem, d0, d1, d2, df, dl]
  · refine ⟨r, c, V, cv, l, x, rfl, hrb, hl, ?_, by exact bel2 g2 g01⟩
    refine Own.less (B := w1.heap.size) ?_ (by omega)
    ((repeat' (first | with_reducible exact o2 | with_reducible refine Own.far ?_ ?_ _)); all_goals (intro g hg; have := hvl g hg; (try simp only); omega))
end
end Go.Proofs.YtfilbjbogggaoaaGreat
