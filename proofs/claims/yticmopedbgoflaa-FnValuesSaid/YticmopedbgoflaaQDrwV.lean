/- Contracts and lemmas, put together. -/
import Derived.Test.YticmopedbgoflaaQDrw9
/- The draws: from a code, any matrix; a form; a form and a vector. -/
namespace Go.Proofs.Yticmopedbgoflaa
set_option linter.unusedSimpArgs false
set_option linter.unusedVariables false
open Go.RowKit

theorem Mv.putM {b : Nat} (w : World) (u v x : Value) : Mv (fun g => g = b) w (((w.setCell ⟨b, 0, none⟩ u).setCell ⟨b, 1, none⟩ v).setCell ⟨b, 2, none⟩ x) :=
  (((Mv.refl (S := fun g => g = b) w).put (p := ⟨b, 0, none⟩) (.inr rfl) _).put (p := ⟨b, 1, none⟩) (.inr rfl) _).put (p := ⟨b, 2, none⟩) (.inr rfl) _
section
set_option maxHeartbeats 4000000
set_option maxRecDepth 10000
theorem matDrawGramOf_c (A : Option Addr) (n cap : Nat) (w : World) (hr : CodeR w w.heap.size A n) (hn : n ≤ 1048576) :
    Calls Try.prog 21 #[.slice A n cap] w (DMatC 17 w) := by
  obtain ⟨w1, hw1⟩ : ∃ w1, w1 = w.alloc (.cells #[.int .i64 0, .int .i64 0, .slice none 0 0] 26) := ⟨_, rfl⟩
  have mbr : MBox w1 w.heap.size 0 0 (.slice none 0 0) := by rw [hw1]; exact MBox.mk_ _ _ _ _ _
  have g01 : Grows w w1 := by rw [hw1]; exact bel0
  have hs1 : w1.heap.size = w.heap.size + 1 := by rw [hw1]; simp
  have CN := Lib.hid (l1New_c w.heap.size A n cap w1 (by omega) (hr.keep g01) hn)
  have CG := Lib.hid fun b W h => l3Any_c w.heap.size b A n cap W h
  have HW1 := Lib.hid hw1
  have HS1 := Lib.hid hs1
  clear hw1 hs1
  go_enter Try.func21, Try.ntmps21
  go_wp2_with fail
  rw [← HW1.out]
  refine CN.out.mono ?_; rintro e w2 ⟨b, rfl, c2, g2⟩
  have hs2 := Below.size g2
  go_wp2_with fail
  refine (CG.out b _ c2).mono ?_; rintro e w3 ⟨r, c, V, cv, l, rfl, hrb, hl, o3, c3, g3⟩
  have hs3 := g3.size
  have hs1 := HS1.out
  have k3 : Below w.heap.size w2 w3 := c2.below g3
  have g13 : Below w.heap.size w1 w3 := Below.trans (Below.mono g2 (by omega)) k3
  have G : Grows w w3 := Below.trans g01 g13
  have hb : w.heap.size ≠ b := by
    intro e
    obtain ⟨i, h, _, c⟩ := c2
    have h1 := c.c0
    rw [← e, (mbr.grows g2).c0] at h1
    cases h1
  have mb3 := (mbr.grows g2).by_ g3 hb
  have hvl := fun g e => World.ownsRow.lt o3 g e
  clear hs1 g3 k3 g13 mbr
  obtain ⟨d0, d1, d2⟩ := mb3.cells
  have df := mb3.fz
  have dl := mb3.lt
  have hlt2 : w.heap.size < w2.heap.size := by have := HS1.out; omega
  go_wp2_with fail
  refine bodyPost_ret (v := .agg #[.int .i64 r, .int .i64 c, .slice V l.length cv]) ?_ rfl ?_
  · simp [results, Try.results21, go_sem, d0, d1, d2, df, dl]
  · refine ⟨r, c, V, cv, l, rfl, hrb, hl, ?_, by exact bel1 G⟩
    refine Own.less (B := w2.heap.size) ?_ (by omega)
    ((repeat' (first | with_reducible exact o3 | with_reducible refine Own.far ?_ ?_ _)); all_goals (intro g hg; have := hvl g hg; (try simp only); omega))
theorem matDrawKernelOf_c (A : Option Addr) (n cap : Nat) (w : World) (hr : CodeR w w.heap.size A n) (hn : n ≤ 1048576) :
    Calls Try.prog 29 #[.slice A n cap] w (DMatC 17 w) := by
  obtain ⟨w1, hw1⟩ : ∃ w1, w1 = w.alloc (.cells #[.int .i64 0, .int .i64 0, .slice none 0 0] 26) := ⟨_, rfl⟩
  have mbr : MBox w1 w.heap.size 0 0 (.slice none 0 0) := by rw [hw1]; exact MBox.mk_ _ _ _ _ _
  have g01 : Grows w w1 := by rw [hw1]; exact bel0
  have hs1 : w1.heap.size = w.heap.size + 1 := by rw [hw1]; simp
  have CN := Lib.hid (l1New_c w.heap.size A n cap w1 (by omega) (hr.keep g01) hn)
  have CG := Lib.hid fun b W h => l3Any_c w.heap.size b A n cap W h
  have HW1 := Lib.hid hw1
  have HS1 := Lib.hid hs1
  clear hw1 hs1
  go_enter Try.func29, Try.ntmps29
  go_wp2_with fail
  rw [← HW1.out]
  refine CN.out.mono ?_; rintro e w2 ⟨b, rfl, c2, g2⟩
  have hs2 := Below.size g2
  go_wp2_with fail
  refine (CG.out b _ c2).mono ?_; rintro e w3 ⟨r, c, V, cv, l, rfl, hrb, hl, o3, c3, g3⟩
  have hs3 := g3.size
  have hs1 := HS1.out
  have k3 : Below w.heap.size w2 w3 := c2.below g3
  have g13 : Below w.heap.size w1 w3 := Below.trans (Below.mono g2 (by omega)) k3
  have G : Grows w w3 := Below.trans g01 g13
  have hb : w.heap.size ≠ b := by
    intro e
    obtain ⟨i, h, _, c⟩ := c2
    have h1 := c.c0
    rw [← e, (mbr.grows g2).c0] at h1
    cases h1
  have mb3 := (mbr.grows g2).by_ g3 hb
  have hvl := fun g e => World.ownsRow.lt o3 g e
  clear hs1 g3 k3 g13 mbr
  obtain ⟨d0, d1, d2⟩ := mb3.cells
  have df := mb3.fz
  have dl := mb3.lt
  have hlt2 : w.heap.size < w2.heap.size := by have := HS1.out; omega
  go_wp2_with fail
  refine bodyPost_ret (v := .agg #[.int .i64 r, .int .i64 c, .slice V l.length cv]) ?_ rfl ?_
  · simp [results, Try.results29, go_sem, d0, d1, d2, df, dl]
  · refine ⟨r, c, V, cv, l, rfl, hrb, hl, ?_, by exact bel1 G⟩
    refine Own.less (B := w2.heap.size) ?_ (by omega)
    ((repeat' (first | with_reducible exact o3 | with_reducible refine Own.far ?_ ?_ _)); all_goals (intro g hg; have := hvl g hg; (try simp only); omega))
theorem matDrawValueAt_c (A : Option Addr) (n cap : Nat) (w : World) (hr : CodeR w w.heap.size A n) (hn : n ≤ 1048576) :
    Calls Try.prog 14 #[.slice A n cap] w (DMatV w) := by
  obtain ⟨w1, hw1⟩ : ∃ w1, w1 = w.alloc (.cells #[.int .i64 0, .int .i64 0, .slice none 0 0] 26) := ⟨_, rfl⟩
  have mbr : MBox w1 w.heap.size 0 0 (.slice none 0 0) := by rw [hw1]; exact MBox.mk_ _ _ _ _ _
  have g01 : Grows w w1 := by rw [hw1]; exact bel0
  have hs1 : w1.heap.size = w.heap.size + 1 := by rw [hw1]; simp
  have CN := Lib.hid (l1New_c w.heap.size A n cap w1 (by omega) (hr.keep g01) hn)
  have CG := Lib.hid fun b W h => l18Gram_c w.heap.size b A n cap W h
  have CV := Lib.hid fun b k W hk h => l18Vector_c w.heap.size b A n cap k W hk h
  have HW1 := Lib.hid hw1
  have HS1 := Lib.hid hs1
  clear hw1
  go_enter Try.func14, Try.ntmps14
  go_wp2_with fail
  rw [← HW1.out]
  refine CN.out.mono ?_; rintro e w2 ⟨b, rfl, c2, g2⟩
  have hs2 := Below.size g2
  have hb : w.heap.size ≠ b := by
    intro e
    obtain ⟨i, h, _, c⟩ := c2
    have h1 := c.c0
    rw [← e, (mbr.grows g2).c0] at h1
    cases h1
  have hbl := c2.lt
  have hlo := c2.lo
  have hW2 : w.heap.size + 1 ≤ w2.heap.size := by omega
  have hW1 : w.heap.size ≤ w1.heap.size := by omega
  have mbr2 := mbr.grows g2
  clear mbr hs1
  go_wp2_with fail
  refine (CG.out b _ c2).mono ?_; rintro e w3 ⟨r, c, V, cv, l, rfl, hrb, hl, o3, c3, g3⟩
  have hs3 := g3.size
  have mbr3 := mbr2.by_ g3 hb
  have k3 : Below w.heap.size w2 w3 := c2.below g3
  have hvl := fun g e => World.ownsRow.lt o3 g e
  obtain ⟨w4, hw4⟩ : ∃ w4, w4 = w3.alloc (.cells #[.int .i64 r, .int .i64 c, .slice V l.length cv] 26) := ⟨_, rfl⟩
  have mbg5 : MBox w4 w3.heap.size r c (.slice V l.length cv) := by rw [hw4]; exact MBox.mk_ _ _ _ _ _
  have g34 : Grows w3 w4 := by rw [hw4]; exact bel0
  have HW4 := Lib.hid hw4
  have c5 := c3.grows g34
  have hs4 := Below.size g34
  have mbr5 := mbr3.grows g34
  have o5 := o3.grows g34
  have hvb : ∀ g, (Value.slice V l.length cv).ownBlock = some g → g ≠ b := fun g e => by have := hvl g e; omega
  have G5 : Grows w w4 := Below.trans g01 (Below.trans (Below.mono g2 (by omega)) (Below.trans k3 (Below.mono g34 (by omega))))
  have HVL := Lib.hid hvl
  have HVB := Lib.hid hvb
  clear hw4 c3 mbr3 o3 mbr2 g3 c2 hvl hvb g34 k3 g2 g01
  have ed : w4.drew.heap.size = w4.heap.size := rfl
  go_wp2_with fail
  rw [← HW4.out]
  (refine wp_region_heldL (fun W => W.cell? ⟨w3.heap.size, 0, none⟩ = some (.int .i64 r) ∧ W.cell? ⟨w3.heap.size, 1, none⟩ = some (.int .i64 c) ∧ W.cell? ⟨w3.heap.size, 2, none⟩ = some (.slice V l.length cv)) (by kernel_rfl) (by ((try dsimp only); (first | exact (mbg6.mv (Mv.putM _ _ _ _) (by omega)).cells | exact mbg6.cells | exact (mbg5.grows (by exact bel0)).cells))) (fun hHeld => ?_); refine heldL_take (i := 0) (v := _) (by rfl) (by kernel_rfl) (by kernel_rfl) (by kernel_rfl) (fun _ _ _ h => h) (Or.inl ⟨by rfl, fun wS hSw => by ((try dsimp only at hSw); go_simp; (try with_reducible rfl))⟩) (by assumption) ?_; simp only [Act.put, List.setIfInBounds_toArray, List.set_cons_zero, List.set_cons_succ]; refine heldL_take (i := 1) (v := _) (by rfl) (by kernel_rfl) (by kernel_rfl) (by kernel_rfl) (fun _ _ _ h => h) (Or.inl ⟨by rfl, fun wS hSw => by ((try dsimp only at hSw); go_simp; (try with_reducible rfl))⟩) (by assumption) ?_; simp only [Act.put, List.setIfInBounds_toArray, List.set_cons_zero, List.set_cons_succ]; refine heldL_take (i := 2) (v := _) (by rfl) (by kernel_rfl) (by kernel_rfl) (by kernel_rfl) (fun _ _ _ h => h) (Or.inl ⟨by rfl, fun wS hSw => by ((try dsimp only at hSw); go_simp; (try with_reducible rfl))⟩) (by assumption) ?_; simp only [Act.put, List.setIfInBounds_toArray, List.set_cons_zero, List.set_cons_succ]; refine heldL_take (i := 3) (v := _) (by rfl) (by kernel_rfl) (by kernel_rfl) (by kernel_rfl) (fun _ _ _ h => h) (Or.inl ⟨by rfl, fun wS hSw => by ((try dsimp only at hSw); go_simp; (try with_reducible rfl))⟩) (by assumption) ?_; simp only [Act.put, List.setIfInBounds_toArray, List.set_cons_zero, List.set_cons_succ]; refine heldL_step (i := 4) (by kernel_rfl) (by rfl) (fun K hK => ?_); go_simp; (refine (CV.out b _ _ hrb (c5.grows (by exact bel0))).mono ?_; rintro e w6 ⟨V2, cv2, l2, rfl, hl2, o2, c6, g6⟩; have HLV := Lib.hid hl2; clear hl2; have mbg6 := (mbg5.grows (w' := w4.drew) (by exact bel0)).by_ g6 (by omega); have mbr6 := (mbr5.grows (w' := w4.drew) (by exact bel0)).by_ g6 hb; obtain ⟨e0, e1, e2⟩ := mbr6.cells; have ef := mbr6.fz; have el := mbr6.lt) ; (try (go_wp2_with fail)); refine hK.out _ _ (by ((try dsimp only); (first | exact (mbg6.mv (Mv.putM _ _ _ _) (by omega)).cells | exact mbg6.cells | exact (mbg5.grows (by exact bel0)).cells))) (fun hHeld => ?_); clear hK K; (try simp only [Act.put, List.setIfInBounds_toArray, List.set_cons_zero, List.set_cons_succ]); refine heldL_step (i := 5) (by kernel_rfl) (by rfl) (fun K hK => ?_); go_simp; refine hK.out _ _ (by ((try dsimp only); (first | exact (mbg6.mv (Mv.putM _ _ _ _) (by omega)).cells | exact mbg6.cells | exact (mbg5.grows (by exact bel0)).cells))) (fun hHeld => ?_); clear hK K; (try simp only [Act.put, List.setIfInBounds_toArray, List.set_cons_zero, List.set_cons_succ]); refine heldL_take (i := 6) (v := _) (by rfl) (by kernel_rfl) (by kernel_rfl) (by kernel_rfl) (fun _ _ _ h => h) (Or.inl ⟨by rfl, fun wS hSw => by ((try dsimp only at hSw); go_simp; (try with_reducible rfl))⟩) (by assumption) ?_; simp only [Act.put, List.setIfInBounds_toArray, List.set_cons_zero, List.set_cons_succ]; refine wpAnyH_done (by kernel_rfl) ?_ _; refine NoPanic.normal ?_)
  have o6 := (o5.grows (w' := w4.drew) (by exact bel0)).by_ g6 HVB.out
  have k6 : Below w.heap.size w4.drew w6 := (c5.grows (w' := w4.drew) (by exact bel0)).below g6
  have G6 : Grows w w6 := Below.trans (Below.trans G5 (show Below w.heap.size w4 w4.drew by exact bel0)) k6
  have hv2 := fun g e => World.ownsRow.lt o2 g e
  have hs6 := g6.size
  go_wp2_with fail
  refine bodyPost_ret (v := .tuple #[.agg #[.int .i64 r, .int .i64 c, .slice V l.length cv], .slice V2 l2.length cv2]) ?_ rfl ?_
  · simp [results, Try.results14, go_sem, e0, e1, e2, ef, el]
  · refine ⟨r, c, V, cv, l, V2, cv2, l2, rfl, hrb, hl, HLV.out, ?_, ?_, by exact bel1 G6⟩
    · refine Own.less (B := w2.heap.size) ?_ (by omega)
      ((repeat' (first | with_reducible exact o6 | with_reducible refine Own.far ?_ ?_ _)); all_goals (intro g hg; have := HVL.out g hg; (try simp only); omega))
    · refine Own.less (B := w4.drew.heap.size) ?_ (by omega)
      ((repeat' (first | with_reducible exact o2 | with_reducible refine Own.far ?_ ?_ _)); all_goals (intro g hg; have := hv2 g hg; (try simp only); omega))
end
end Go.Proofs.Yticmopedbgoflaa
