/- Contracts and lemmas, put together. -/
import Derived.Test.YticmopedbgoflaaQDrwU
/- The draws: two matrices. -/
namespace Go.Proofs.Yticmopedbgoflaa
set_option linter.unusedSimpArgs false
set_option linter.unusedVariables false
open Go.RowKit

/-- two matrices drawn from a code -/
def DMat2 (m1 m2 : Nat) (w : World) (e : Ending) (w' : World) : Prop := ∃ (r c : Int) (V : Option Addr) (cv : Nat) (l : List Int) (r2 c2 : Int) (V2 : Option Addr) (cv2 : Nat) (l2 : List Int), e = .returned (.tuple #[.agg #[.int .i64 r, .int .i64 c, .slice V l.length cv], .agg #[.int .i64 r2, .int .i64 c2, .slice V2 l2.length cv2]]) ∧ l.length ≤ m1 ∧ l2.length ≤ m2 ∧ Own w' w.heap.size (.slice V l.length cv) l ∧ Own w' w.heap.size (.slice V2 l2.length cv2) l2 ∧ Grows w w'
/-- two variables for results -/
theorem two_res (w : World) : ∃ w1, w1 = (w.alloc (.cells #[.int .i64 0, .int .i64 0, .slice none 0 0] 26)).alloc (.cells #[.int .i64 0, .int .i64 0, .slice none 0 0] 26) ∧
    MBox w1 w.heap.size 0 0 (.slice none 0 0) ∧ MBox w1 (w.heap.size + 1) 0 0 (.slice none 0 0) ∧ w1.heap.size = w.heap.size + 2 ∧ Grows w w1 :=
  ⟨_, rfl, (MBox.mk_ _ _ _ _ _).alloc _, MBox.new_ _ _ _ _ _ (by simp), by simp, by exact bel0⟩
section
set_option maxHeartbeats 4000000
set_option maxRecDepth 10000
theorem drawSml_c (A : Option Addr) (n cap : Nat) (w : World) (hr : CodeR w w.heap.size A n) (hn : n ≤ 1048576) :
    Calls Try.prog 23 #[.slice A n cap] w (DMat2 17 17 w) := by
  obtain ⟨w1, hw1, mr1, mr2, h_w1, g01⟩ := two_res w
  have CN := Lib.hid (l1New_c w1.heap.size A n cap w1 (Nat.le_refl _) (hr.up g01) hn)
  have CA := Lib.hid fun b W h => l3Any_c w1.heap.size b A n cap W h
  have C2 := Lib.hid fun b W h => l1Once_c w1.heap.size b A n cap 2 W (by omega) h
  have CU := Lib.hid fun b R W h1 h => l6Uni_c w1.heap.size b A n cap R W h1 h
  have HW1 := Lib.hid hw1
  clear hw1 hr
  go_enter Try.func23, Try.ntmps23
  go_wp2_with fail
  rw [← HW1.out]
  refine CN.out.mono ?_; rintro e w2 ⟨b, rfl, hc, g2⟩
  have hbl := hc.lt
  have hlo := hc.lo
  have s_w2 := Below.size g2
  replace mr1 := mr1.grows g2
  replace mr2 := mr2.grows g2
  have G2 : Grows w w2 := by exact bel2 g2 g01
  have hm : Mv (fun g => g = b) w2 w2 := Mv.refl _
  clear g2 g01
  have mr1_0 := mr1.c0; have mr1_1 := mr1.c1; have mr1_2 := mr1.c2; have mr1_l := mr1.lt; have mr1_f := mr1.fz
  have mr2_0 := mr2.c0; have mr2_1 := mr2.c1; have mr2_2 := mr2.c2; have mr2_l := mr2.lt; have mr2_f := mr2.fz
  go_wp2_with fail
  refine (CA.out b _ hc).mono ?_; rintro e w3 ⟨r, c, V, cv, l, rfl, hrb, hl, o3, c_w3, g_w3⟩
  have m_w3 : Mv (fun g => g = b) w2 w3 := Mv.left (by exact bel0) (Mv.by_ (S := fun g => g = b) g_w3 rfl)
  have s_w3 := m_w3.size
  clear mr1_0 mr1_1 mr1_2 mr1_l mr1_f
  replace mr1 := mr1.mv m_w3 (by omega)
  have mr1_0 := mr1.c0; have mr1_1 := mr1.c1; have mr1_2 := mr1.c2; have mr1_l := mr1.lt; have mr1_f := mr1.fz
  clear mr2_0 mr2_1 mr2_2 mr2_l mr2_f
  replace mr2 := mr2.mv m_w3 (by omega)
  have mr2_0 := mr2.c0; have mr2_1 := mr2.c1; have mr2_2 := mr2.c2; have mr2_l := mr2.lt; have mr2_f := mr2.fz
  clear hc; have hc := c_w3; clear c_w3
  replace hm := hm.trans m_w3
  have h_w3 := hm.size
  clear m_w3 g_w3
  have CM := fun W h => sIsMatrix_c r c V l l.length cv W rfl h (by omega)
  obtain ⟨ok, hok⟩ : ∃ ok, ok = isMat r c l := ⟨_, rfl⟩
  rw [← hok] at CM
  have HOK := Lib.hid hok
  have CM' := Lib.hid CM
  clear hok CM
  go_wp2_with fail
  refine (CM'.out _ (by exact (o3.rd').grows (by exact bel0))).mono ?_; rintro e w4 ⟨rfl, g_w4⟩
  have m_w4 : Mv (fun g => g = b) w3 w4 := (Mv.refl _).right (by exact bel1 g_w4)
  have s_w4 := m_w4.size
  clear mr1_0 mr1_1 mr1_2 mr1_l mr1_f
  replace mr1 := mr1.mv m_w4 (by omega)
  have mr1_0 := mr1.c0; have mr1_1 := mr1.c1; have mr1_2 := mr1.c2; have mr1_l := mr1.lt; have mr1_f := mr1.fz
  clear mr2_0 mr2_1 mr2_2 mr2_l mr2_f
  replace mr2 := mr2.mv m_w4 (by omega)
  have mr2_0 := mr2.c0; have mr2_1 := mr2.c1; have mr2_2 := mr2.c2; have mr2_l := mr2.lt; have mr2_f := mr2.fz
  replace o3 := o3.mv m_w4 (fun g e => by have := World.ownsRow.lt o3 g e; omega)
  have ml : MBox w4 (w3.heap.size) r c (.slice V l.length cv) := MBox.mv (MBox.new_ w3 r c (.slice V l.length cv) 26 (by simp)) ((Mv.refl (S := fun g => g = b) _).right (by exact bel1 g_w4)) (by omega)
  have ml_0 := ml.c0; have ml_1 := ml.c1; have ml_2 := ml.c2; have ml_l := ml.lt; have ml_f := ml.fz
  replace hc := hc.grows (w' := w4) (by exact bel1 g_w4)
  replace hm := hm.trans m_w4
  have h_w4 := hm.size
  clear m_w4 g_w4
  cases ok
  · clear ml_0 ml_1 ml_2 ml_l ml_f mr1_0 mr1_1 mr1_2 mr1_l mr1_f mr2_0 mr2_1 mr2_2 mr2_l mr2_f
    have hlx : w1.heap.size + 1 ≤ w3.heap.size := by omega
    have ed : w4.drew.heap.size = w4.heap.size := rfl
    go_wp2_with fail
    (refine wp_region_heldL (fun W => W.cell? ⟨w3.heap.size, 0, none⟩ = some (.int .i64 r) ∧ W.cell? ⟨w3.heap.size, 1, none⟩ = some (.int .i64 c) ∧ W.cell? ⟨w3.heap.size, 2, none⟩ = some (.slice V l.length cv)) (by kernel_rfl) (by ((try dsimp only); (first | with_reducible exact ml6.cells | with_reducible exact (ml.grows (by exact bel0)).cells | with_reducible exact (ml6.mv (Mv.putM _ _ _ _) (by omega)).cells | with_reducible exact ((ml6.mv (Mv.putM _ _ _ _) (by omega)).mv (Mv.putM _ _ _ _) (by omega)).cells))) (fun hHeld => ?_); refine heldL_take (i := 0) (v := _) (by rfl) (by kernel_rfl) (by kernel_rfl) (by kernel_rfl) (fun _ _ _ h => h) (Or.inl ⟨by rfl, fun wS hSw => by ((try dsimp only at hSw); go_simp; (try with_reducible rfl))⟩) (by assumption) ?_; simp only [Act.put, List.setIfInBounds_toArray, List.set_cons_zero, List.set_cons_succ]; refine heldL_take (i := 1) (v := _) (by rfl) (by kernel_rfl) (by kernel_rfl) (by kernel_rfl) (fun _ _ _ h => h) (Or.inl ⟨by rfl, fun wS hSw => by ((try dsimp only at hSw); go_simp; (try with_reducible rfl))⟩) (by assumption) ?_; simp only [Act.put, List.setIfInBounds_toArray, List.set_cons_zero, List.set_cons_succ]; refine heldL_step (i := 2) (by kernel_rfl) (by rfl) (fun K hK => ?_); go_simp; (refine (CA.out b _ (hc.grows (by exact bel0))).mono ?_; rintro e w6 ⟨r2, c2, V2, cv2, l2, rfl, hrb2, hl2, o6, c6, g6⟩; have m6 : Mv (fun g => g = b) w4 w6 := Mv.left (by exact bel0) (Mv.by_ (S := fun g => g = b) g6 rfl); have s_w6 := m6.size; have ml6 := ml.mv m6 (by omega); have mr16 := mr1.mv m6 (by omega); have mr26 := mr2.mv m6 (by omega); obtain ⟨e0, e1, e2⟩ := mr16.cells; have ef := mr16.fz; have el := mr16.lt; obtain ⟨f0, f1, f2⟩ := mr26.cells; have ff := mr26.fz; have fl := mr26.lt) ; (try (go_wp2_with fail)); refine hK.out _ _ (by ((try dsimp only); (first | with_reducible exact ml6.cells | with_reducible exact (ml.grows (by exact bel0)).cells | with_reducible exact (ml6.mv (Mv.putM _ _ _ _) (by omega)).cells | with_reducible exact ((ml6.mv (Mv.putM _ _ _ _) (by omega)).mv (Mv.putM _ _ _ _) (by omega)).cells))) (fun hHeld => ?_); clear hK K; (try simp only [Act.put, List.setIfInBounds_toArray, List.set_cons_zero, List.set_cons_succ]); refine heldL_step (i := 3) (by kernel_rfl) (by rfl) (fun K hK => ?_); go_simp; refine hK.out _ _ (by ((try dsimp only); (first | with_reducible exact ml6.cells | with_reducible exact (ml.grows (by exact bel0)).cells | with_reducible exact (ml6.mv (Mv.putM _ _ _ _) (by omega)).cells | with_reducible exact ((ml6.mv (Mv.putM _ _ _ _) (by omega)).mv (Mv.putM _ _ _ _) (by omega)).cells))) (fun hHeld => ?_); clear hK K; (try simp only [Act.put, List.setIfInBounds_toArray, List.set_cons_zero, List.set_cons_succ]); refine heldL_step (i := 4) (by kernel_rfl) (by rfl) (fun K hK => ?_); go_simp; refine hK.out _ _ (by ((try dsimp only); (first | with_reducible exact ml6.cells | with_reducible exact (ml.grows (by exact bel0)).cells | with_reducible exact (ml6.mv (Mv.putM _ _ _ _) (by omega)).cells | with_reducible exact ((ml6.mv (Mv.putM _ _ _ _) (by omega)).mv (Mv.putM _ _ _ _) (by omega)).cells))) (fun hHeld => ?_); clear hK K; (try simp only [Act.put, List.setIfInBounds_toArray, List.set_cons_zero, List.set_cons_succ]); refine wpAnyH_done (by kernel_rfl) ?_ _; refine NoPanic.normal ?_)
    have o36 := o3.mv m6 (fun g e => by have := World.ownsRow.lt o3 g e; omega)
    have G : Grows w w6 := Below.trans G2 (Mv.below (hm.trans m6) (by omega) (fun g e => by omega))
    go_wp2_with fail
    refine bodyPost_ret (v := .tuple #[.agg #[.int .i64 r, .int .i64 c, .slice V l.length cv], .agg #[.int .i64 r2, .int .i64 c2, .slice V2 l2.length cv2]]) ?_ rfl ?_
    · simp [results, Try.results23, go_sem, e0, e1, e2, ef, el, f0, f1, f2, ff, fl]
    · exact ⟨r, c, V, cv, l, r2, c2, V2, cv2, l2, rfl, hl, hl2, by (have hv_ := fun g e => World.ownsRow.lt o36 g e; refine Own.less (B := ?OB88) ?_ ?_; ((repeat' (first | with_reducible exact o36 | with_reducible refine Own.alloc ?_ _ | with_reducible refine Own.drew ?_ | with_reducible refine Own.far ?_ ?_ _)); all_goals (first | omega | (simp; omega) | (intro g hg; have := hv_ g hg; (try simp only); first | omega | (simp; omega))))), by (have hv_ := fun g e => World.ownsRow.lt o6 g e; refine Own.less (B := ?OB89) ?_ ?_; ((repeat' (first | with_reducible exact o6 | with_reducible refine Own.alloc ?_ _ | with_reducible refine Own.drew ?_ | with_reducible refine Own.far ?_ ?_ _)); all_goals (first | omega | (simp; omega) | (intro g hg; have := hv_ g hg; (try simp only); first | omega | (simp; omega))))), by exact bel1 G⟩
  · obtain ⟨R, C, hR0, hC0, hR24, hC24, hll, hnum⟩ := isMat_nat HOK.out.symm
    subst hR0 hC0
    have hR8 : R ≤ 8 := by omega
    have hRC : R * C ≤ 17 := by omega
    have HLL := Lib.hid hll
    clear hll hnum
    go_wp2_with fail
    refine (C2.out b _ (by exact hc.grows (by exact bel0))).mono ?_; rintro e w5 ⟨t, rfl, c_w5, g_w5⟩
    have m_w5 : Mv (fun g => g = b) w4 w5 := Mv.left (by exact bel0) (Mv.by_ (S := fun g => g = b) g_w5 rfl)
    have s_w5 := m_w5.size
    clear mr1_0 mr1_1 mr1_2 mr1_l mr1_f
    replace mr1 := mr1.mv m_w5 (by omega)
    have mr1_0 := mr1.c0; have mr1_1 := mr1.c1; have mr1_2 := mr1.c2; have mr1_l := mr1.lt; have mr1_f := mr1.fz
    clear mr2_0 mr2_1 mr2_2 mr2_l mr2_f
    replace mr2 := mr2.mv m_w5 (by omega)
    have mr2_0 := mr2.c0; have mr2_1 := mr2.c1; have mr2_2 := mr2.c2; have mr2_l := mr2.lt; have mr2_f := mr2.fz
    replace o3 := o3.mv m_w5 (fun g e => by have := World.ownsRow.lt o3 g e; omega)
    clear ml_0 ml_1 ml_2 ml_l ml_f
    replace ml := ml.mv m_w5 (by omega)
    have ml_0 := ml.c0; have ml_1 := ml.c1; have ml_2 := ml.c2; have ml_l := ml.lt; have ml_f := ml.fz
    clear hc; have hc := c_w5; clear c_w5
    replace hm := hm.trans m_w5
    have h_w5 := hm.size
    clear m_w5 g_w5
    cases t
    · clear ml_0 ml_1 ml_2 ml_l ml_f mr1_0 mr1_1 mr1_2 mr1_l mr1_f mr2_0 mr2_1 mr2_2 mr2_l mr2_f
      have hlx : w1.heap.size + 1 ≤ w3.heap.size := by omega
      have ed : w5.drew.heap.size = w5.heap.size := rfl
      go_wp2_with fail
      (refine wp_region_heldL (fun W => W.cell? ⟨w3.heap.size, 0, none⟩ = some (.int .i64 R) ∧ W.cell? ⟨w3.heap.size, 1, none⟩ = some (.int .i64 C) ∧ W.cell? ⟨w3.heap.size, 2, none⟩ = some (.slice V l.length cv)) (by kernel_rfl) (by ((try dsimp only); (first | with_reducible exact ml6.cells | with_reducible exact (ml.grows (by exact bel0)).cells | with_reducible exact (ml6.mv (Mv.putM _ _ _ _) (by omega)).cells | with_reducible exact ((ml6.mv (Mv.putM _ _ _ _) (by omega)).mv (Mv.putM _ _ _ _) (by omega)).cells))) (fun hHeld => ?_); refine heldL_take (i := 0) (v := _) (by rfl) (by kernel_rfl) (by kernel_rfl) (by kernel_rfl) (fun _ _ _ h => h) (Or.inl ⟨by rfl, fun wS hSw => by ((try dsimp only at hSw); go_simp; (try with_reducible rfl))⟩) (by assumption) ?_; simp only [Act.put, List.setIfInBounds_toArray, List.set_cons_zero, List.set_cons_succ]; refine heldL_take (i := 1) (v := _) (by rfl) (by kernel_rfl) (by kernel_rfl) (by kernel_rfl) (fun _ _ _ h => h) (Or.inl ⟨by rfl, fun wS hSw => by ((try dsimp only at hSw); go_simp; (try with_reducible rfl))⟩) (by assumption) ?_; simp only [Act.put, List.setIfInBounds_toArray, List.set_cons_zero, List.set_cons_succ]; refine heldL_step (i := 2) (by kernel_rfl) (by rfl) (fun K hK => ?_); go_simp; (refine (CA.out b _ (hc.grows (by exact bel0))).mono ?_; rintro e w6 ⟨r2, c2, V2, cv2, l2, rfl, hrb2, hl2, o6, c6, g6⟩; have m6 : Mv (fun g => g = b) w5 w6 := Mv.left (by exact bel0) (Mv.by_ (S := fun g => g = b) g6 rfl); have s_w6 := m6.size; have ml6 := ml.mv m6 (by omega); have mr16 := mr1.mv m6 (by omega); have mr26 := mr2.mv m6 (by omega); obtain ⟨e0, e1, e2⟩ := mr16.cells; have ef := mr16.fz; have el := mr16.lt; obtain ⟨f0, f1, f2⟩ := mr26.cells; have ff := mr26.fz; have fl := mr26.lt) ; (try (go_wp2_with fail)); refine hK.out _ _ (by ((try dsimp only); (first | with_reducible exact ml6.cells | with_reducible exact (ml.grows (by exact bel0)).cells | with_reducible exact (ml6.mv (Mv.putM _ _ _ _) (by omega)).cells | with_reducible exact ((ml6.mv (Mv.putM _ _ _ _) (by omega)).mv (Mv.putM _ _ _ _) (by omega)).cells))) (fun hHeld => ?_); clear hK K; (try simp only [Act.put, List.setIfInBounds_toArray, List.set_cons_zero, List.set_cons_succ]); refine heldL_step (i := 3) (by kernel_rfl) (by rfl) (fun K hK => ?_); go_simp; refine hK.out _ _ (by ((try dsimp only); (first | with_reducible exact ml6.cells | with_reducible exact (ml.grows (by exact bel0)).cells | with_reducible exact (ml6.mv (Mv.putM _ _ _ _) (by omega)).cells | with_reducible exact ((ml6.mv (Mv.putM _ _ _ _) (by omega)).mv (Mv.putM _ _ _ _) (by omega)).cells))) (fun hHeld => ?_); clear hK K; (try simp only [Act.put, List.setIfInBounds_toArray, List.set_cons_zero, List.set_cons_succ]); refine heldL_step (i := 4) (by kernel_rfl) (by rfl) (fun K hK => ?_); go_simp; refine hK.out _ _ (by ((try dsimp only); (first | with_reducible exact ml6.cells | with_reducible exact (ml.grows (by exact bel0)).cells | with_reducible exact (ml6.mv (Mv.putM _ _ _ _) (by omega)).cells | with_reducible exact ((ml6.mv (Mv.putM _ _ _ _) (by omega)).mv (Mv.putM _ _ _ _) (by omega)).cells))) (fun hHeld => ?_); clear hK K; (try simp only [Act.put, List.setIfInBounds_toArray, List.set_cons_zero, List.set_cons_succ]); refine wpAnyH_done (by kernel_rfl) ?_ _; refine NoPanic.normal ?_)
      have o36 := o3.mv m6 (fun g e => by have := World.ownsRow.lt o3 g e; omega)
      have G : Grows w w6 := Below.trans G2 (Mv.below (hm.trans m6) (by omega) (fun g e => by omega))
      go_wp2_with fail
      refine bodyPost_ret (v := .tuple #[.agg #[.int .i64 R, .int .i64 C, .slice V l.length cv], .agg #[.int .i64 r2, .int .i64 c2, .slice V2 l2.length cv2]]) ?_ rfl ?_
      · simp [results, Try.results23, go_sem, e0, e1, e2, ef, el, f0, f1, f2, ff, fl]
      · exact ⟨R, C, V, cv, l, r2, c2, V2, cv2, l2, rfl, hl, hl2, by (have hv_ := fun g e => World.ownsRow.lt o36 g e; refine Own.less (B := ?OB90) ?_ ?_; ((repeat' (first | with_reducible exact o36 | with_reducible refine Own.alloc ?_ _ | with_reducible refine Own.drew ?_ | with_reducible refine Own.far ?_ ?_ _)); all_goals (first | omega | (simp; omega) | (intro g hg; have := hv_ g hg; (try simp only); first | omega | (simp; omega))))), by (have hv_ := fun g e => World.ownsRow.lt o6 g e; refine Own.less (B := ?OB91) ?_ ?_; ((repeat' (first | with_reducible exact o6 | with_reducible refine Own.alloc ?_ _ | with_reducible refine Own.drew ?_ | with_reducible refine Own.far ?_ ?_ _)); all_goals (first | omega | (simp; omega) | (intro g hg; have := hv_ g hg; (try simp only); first | omega | (simp; omega))))), by exact bel1 G⟩
    · clear ml_0 ml_1 ml_2 ml_l ml_f mr1_0 mr1_1 mr1_2 mr1_l mr1_f mr2_0 mr2_1 mr2_2 mr2_l mr2_f
      have MO := Lib.hid (show isMat R C l = true from HOK.out.symm)
      have ed : w5.drew.heap.size = w5.heap.size := rfl
      go_wp2_with fail
      (refine wp_region_heldL (fun W => W.cell? ⟨w3.heap.size, 0, none⟩ = some (.int .i64 R) ∧ W.cell? ⟨w3.heap.size, 1, none⟩ = some (.int .i64 C) ∧ W.cell? ⟨w3.heap.size, 2, none⟩ = some (.slice V l.length cv)) (by kernel_rfl) (by ((try dsimp only); (first | with_reducible exact ml7.cells | with_reducible exact ml6.cells | with_reducible exact (ml.grows (by exact bel0)).cells | with_reducible exact (ml7.mv (Mv.putM _ _ _ _) (by omega)).cells | with_reducible exact ((ml7.mv (Mv.putM _ _ _ _) (by omega)).mv (Mv.putM _ _ _ _) (by omega)).cells))) (fun hHeld => ?_); refine heldL_take (i := 0) (v := _) (by rfl) (by kernel_rfl) (by kernel_rfl) (by kernel_rfl) (fun _ _ _ h => h) (Or.inl ⟨by rfl, fun wS hSw => by ((try dsimp only at hSw); go_simp; (try with_reducible rfl))⟩) (by assumption) ?_; simp only [Act.put, List.setIfInBounds_toArray, List.set_cons_zero, List.set_cons_succ]; refine heldL_take (i := 1) (v := _) (by rfl) (by kernel_rfl) (by kernel_rfl) (by kernel_rfl) (fun _ _ _ h => h) (Or.inl ⟨by rfl, fun wS hSw => by ((try dsimp only at hSw); go_simp; (try with_reducible rfl))⟩) (by assumption) ?_; simp only [Act.put, List.setIfInBounds_toArray, List.set_cons_zero, List.set_cons_succ]; refine heldL_take (i := 2) (v := _) (by rfl) (by kernel_rfl) (by kernel_rfl) (by kernel_rfl) (fun _ _ _ h => h) (Or.inl ⟨by rfl, fun wS hSw => by ((try dsimp only at hSw); go_simp; (try with_reducible rfl))⟩) (by assumption) ?_; simp only [Act.put, List.setIfInBounds_toArray, List.set_cons_zero, List.set_cons_succ]; refine heldL_take (i := 3) (v := _) (by rfl) (by kernel_rfl) (by kernel_rfl) (by kernel_rfl) (fun _ _ _ h => h) (Or.inl ⟨by rfl, fun wS hSw => by ((try dsimp only at hSw); go_simp; (try with_reducible rfl))⟩) (by assumption) ?_; simp only [Act.put, List.setIfInBounds_toArray, List.set_cons_zero, List.set_cons_succ]; refine heldL_take (i := 5) (v := _) (by rfl) (by kernel_rfl) (by kernel_rfl) (by kernel_rfl) (fun _ _ _ h => h) (Or.inl ⟨by rfl, fun wS hSw => by ((try dsimp only at hSw); go_simp; (try with_reducible rfl))⟩) (by assumption) ?_; simp only [Act.put, List.setIfInBounds_toArray, List.set_cons_zero, List.set_cons_succ]; refine heldL_step (i := 4) (by kernel_rfl) (by rfl) (fun K hK => ?_); go_simp; (refine (CU.out b R _ hR8 (hc.grows (by exact bel0))).mono ?_; rintro e w6 ⟨VU, cu, lu, rfl, hlu, hbu, ou, c6, g6⟩; have m6 : Mv (fun g => g = b) w5 w6 := Mv.left (by exact bel0) (Mv.by_ (S := fun g => g = b) g6 rfl); have s_w6 := m6.size; have ml6 := ml.mv m6 (by omega); have mr16 := mr1.mv m6 (by omega); have mr26 := mr2.mv m6 (by omega); obtain ⟨e0, e1, e2⟩ := mr16.cells; have ef := mr16.fz; have el := mr16.lt; obtain ⟨f0, f1, f2⟩ := mr26.cells; have ff := mr26.fz; have fl := mr26.lt; have o36 := o3.mv m6 (fun g e => by have := World.ownsRow.lt o3 g e; omega); have CX := Lib.hid fun W h1 h2 => l3Mul_c R R C VU V lu l (R * R) l.length cu cv W hlu rfl h1 h2 (by rw [isMat_made (by omega) (by omega) hlu]; exact hbu.num (by omega)) MO.out; clear e0 e1 e2 ef el f0 f1 f2 ff fl) ; (try (go_wp2_with fail)); refine hK.out _ _ (by ((try dsimp only); (first | with_reducible exact ml7.cells | with_reducible exact ml6.cells | with_reducible exact (ml.grows (by exact bel0)).cells | with_reducible exact (ml7.mv (Mv.putM _ _ _ _) (by omega)).cells | with_reducible exact ((ml7.mv (Mv.putM _ _ _ _) (by omega)).mv (Mv.putM _ _ _ _) (by omega)).cells))) (fun hHeld => ?_); clear hK K; (try simp only [Act.put, List.setIfInBounds_toArray, List.set_cons_zero, List.set_cons_succ]); refine heldL_step (i := 6) (by kernel_rfl) (by rfl) (fun K hK => ?_); go_simp; (refine (CX.out _ ou.rd' o36.rd').mono ?_; rintro e w7 ⟨v7, rfl, o7, g7⟩; obtain ⟨V2, cv2, rfl, _, _⟩ := o7.val; have hl2 : (mulL R R C lu l).length ≤ 17 := (by rw [mulL_length]; exact hRC); have s_w7 := Below.size g7; have ml7 := ml6.grows g7; have mr17 := mr16.grows g7; have mr27 := mr26.grows g7; obtain ⟨e0, e1, e2⟩ := mr17.cells; have ef := mr17.fz; have el := mr17.lt; obtain ⟨f0, f1, f2⟩ := mr27.cells; have ff := mr27.fz; have fl := mr27.lt) ; (try (go_wp2_with fail)); refine hK.out _ _ (by ((try dsimp only); (first | with_reducible exact ml7.cells | with_reducible exact ml6.cells | with_reducible exact (ml.grows (by exact bel0)).cells | with_reducible exact (ml7.mv (Mv.putM _ _ _ _) (by omega)).cells | with_reducible exact ((ml7.mv (Mv.putM _ _ _ _) (by omega)).mv (Mv.putM _ _ _ _) (by omega)).cells))) (fun hHeld => ?_); clear hK K; (try simp only [Act.put, List.setIfInBounds_toArray, List.set_cons_zero, List.set_cons_succ]); refine heldL_step (i := 7) (by kernel_rfl) (by rfl) (fun K hK => ?_); go_simp; refine hK.out _ _ (by ((try dsimp only); (first | with_reducible exact ml7.cells | with_reducible exact ml6.cells | with_reducible exact (ml.grows (by exact bel0)).cells | with_reducible exact (ml7.mv (Mv.putM _ _ _ _) (by omega)).cells | with_reducible exact ((ml7.mv (Mv.putM _ _ _ _) (by omega)).mv (Mv.putM _ _ _ _) (by omega)).cells))) (fun hHeld => ?_); clear hK K; (try simp only [Act.put, List.setIfInBounds_toArray, List.set_cons_zero, List.set_cons_succ]); refine heldL_step (i := 8) (by kernel_rfl) (by rfl) (fun K hK => ?_); go_simp; refine hK.out _ _ (by ((try dsimp only); (first | with_reducible exact ml7.cells | with_reducible exact ml6.cells | with_reducible exact (ml.grows (by exact bel0)).cells | with_reducible exact (ml7.mv (Mv.putM _ _ _ _) (by omega)).cells | with_reducible exact ((ml7.mv (Mv.putM _ _ _ _) (by omega)).mv (Mv.putM _ _ _ _) (by omega)).cells))) (fun hHeld => ?_); clear hK K; (try simp only [Act.put, List.setIfInBounds_toArray, List.set_cons_zero, List.set_cons_succ]); refine wpAnyH_done (by kernel_rfl) ?_ _; refine NoPanic.normal ?_)
      have o37 := o36.grows g7
      have G : Grows w w7 := Below.trans G2 (Mv.below ((hm.trans m6).right g7) (by omega) (fun g e => by omega))
      go_wp2_with fail
      refine bodyPost_ret (v := .tuple #[.agg #[.int .i64 R, .int .i64 C, .slice V l.length cv], .agg #[.int .i64 R, .int .i64 C, .slice V2 (mulL R R C lu l).length cv2]]) ?_ rfl ?_
      · simp [results, Try.results23, go_sem, e0, e1, e2, ef, el, f0, f1, f2, ff, fl]
      · exact ⟨R, C, V, cv, l, R, C, V2, cv2, _, rfl, hl, hl2, by (have hv_ := fun g e => World.ownsRow.lt o37 g e; refine Own.less (B := ?OB92) ?_ ?_; ((repeat' (first | with_reducible exact o37 | with_reducible refine Own.alloc ?_ _ | with_reducible refine Own.drew ?_ | with_reducible refine Own.far ?_ ?_ _)); all_goals (first | omega | (simp; omega) | (intro g hg; have := hv_ g hg; (try simp only); first | omega | (simp; omega))))), by (have hv_ := fun g e => World.ownsRow.lt o7 g e; refine Own.less (B := ?OB93) ?_ ?_; ((repeat' (first | with_reducible exact o7 | with_reducible refine Own.alloc ?_ _ | with_reducible refine Own.drew ?_ | with_reducible refine Own.far ?_ ?_ _)); all_goals (first | omega | (simp; omega) | (intro g hg; have := hv_ g hg; (try simp only); first | omega | (simp; omega))))), by exact bel1 G⟩
end
end Go.Proofs.Yticmopedbgoflaa
