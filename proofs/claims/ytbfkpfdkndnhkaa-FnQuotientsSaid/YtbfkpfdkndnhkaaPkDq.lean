/- Contracts and lemmas, put together. -/
import Derived.Test.YtbfkpfdkndnhkaaPkDl
/- The draws: a lattice and one within it. -/
namespace Go.Proofs.Ytbfkpfdkndnhkaa
set_option linter.unusedSimpArgs false
set_option linter.unusedVariables false
open Go.RowKit

/-- two matrices drawn, and the cursor -/
def DMat2G (B b : Nat) (A : Option Addr) (n cap m1 m2 : Nat) (w : World) (e : Ending) (w' : World) : Prop := ∃ (r c : Int) (V : Option Addr) (cv : Nat) (l : List Int) (r2 c2 : Int) (V2 : Option Addr) (cv2 : Nat) (l2 : List Int), e = .returned (.tuple #[.agg #[.int .i64 r, .int .i64 c, .slice V l.length cv], .agg #[.int .i64 r2, .int .i64 c2, .slice V2 l2.length cv2]]) ∧ l.length ≤ m1 ∧ l2.length ≤ m2 ∧ Own w' w.heap.size (.slice V l.length cv) l ∧ Own w' w.heap.size (.slice V2 l2.length cv2) l2 ∧ Cur w' B b A n cap ∧ w.grownBy w' (some b)
theorem Cur.drew_ {w : World} {B b n cap : Nat} {A : Option Addr} (h : Cur w B b A n cap) : Cur w.drew B b A n cap := h.grows (Below.refl _ _).drew
theorem Mv.drew_ {S : Nat → Prop} {w w1 : World} (h : Mv S w w1) : Mv S w w1.drew := h.right (Below.refl _ _).drew
theorem MBox.putM_ {w : World} {b g : Nat} {r c : Int} {v u x y : Value} (h : MBox w b r c v) (hb : b ≠ g) : MBox (((w.setCell ⟨g, 0, none⟩ u).setCell ⟨g, 1, none⟩ x).setCell ⟨g, 2, none⟩ y) b r c v := h.mv (Mv.putM _ _ _ _) hb
section
set_option maxHeartbeats 4000000
set_option maxRecDepth 100000
theorem l16Sub_c (B b : Nat) (A : Option Addr) (n cap : Nat) (w : World) (h : Cur w B b A n cap) :
    Calls Try.prog 70 #[.pointer (some ⟨b, 0, none⟩)] w (DMat2G B b A n cap 10 576 w) := by
  obtain ⟨w1, hw1, mr1, mr2, h_w1, g01⟩ := two_res w
  have hbl := h.lt
  have hlo := h.lo
  have hc := h.grows g01
  have hm : Mv (fun g => g = b) w w1 := (Mv.refl _).right g01
  have C3 := Lib.hid fun W h => l1Below_c B b A n cap 3 W (by omega) h
  have C4 := Lib.hid fun W h => l1Below_c B b A n cap 4 W (by omega) h
  have CL := Lib.hid fun N W hN h => l16Lattice_c B b A n cap N W hN h
  have CO := Lib.hid fun W h => l1Once_c B b A n cap 6 W (by omega) h
  have CD := Lib.hid fun k R W h1 h2 h => l3Draw_c B b A n cap k R 3 W h1 h2 (by omega) h
  have HW1 := Lib.hid hw1
  clear hw1 h
  go_enter Try.func70, Try.ntmps70
  go_wp2_with fail
  rw [← HW1.out]
  have mr1_0 := mr1.c0; have mr1_1 := mr1.c1; have mr1_2 := mr1.c2; have mr1_l := mr1.lt; have mr1_f := mr1.fz
  have mr2_0 := mr2.c0; have mr2_1 := mr2.c1; have mr2_2 := mr2.c2; have mr2_l := mr2.lt; have mr2_f := mr2.fz
  refine (C3.out _ (by exact hc.grows (by exact bel0))).mono ?_; rintro e w2 ⟨k, rfl, hk, c_w2, g_w2⟩
  have m_w2 : Mv (fun g => g = b) w1 w2 := Mv.left (by exact bel0) (Mv.by_ (S := fun g => g = b) g_w2 rfl)
  have s_w2 := m_w2.size
  clear mr1_0 mr1_1 mr1_2 mr1_l mr1_f
  replace mr1 := mr1.mv m_w2 (by omega)
  have mr1_0 := mr1.c0; have mr1_1 := mr1.c1; have mr1_2 := mr1.c2; have mr1_l := mr1.lt; have mr1_f := mr1.fz
  clear mr2_0 mr2_1 mr2_2 mr2_l mr2_f
  replace mr2 := mr2.mv m_w2 (by omega)
  have mr2_0 := mr2.c0; have mr2_1 := mr2.c1; have mr2_2 := mr2.c2; have mr2_l := mr2.lt; have mr2_f := mr2.fz
  clear hc; have hc := c_w2; clear c_w2
  replace hm := hm.trans m_w2
  have h_w2 := hm.size
  clear m_w2 g_w2
  have k1 : IntKind.i64.wrap ((1 : Int) + (k : Int)) = ((k + 1 : Nat) : Int) := by rw [IntWalk.i64_in _ (by omega)]; omega
  have k2 : IntKind.i64.wrap ((k : Int) + 1) = ((k + 1 : Nat) : Int) := by rw [IntWalk.i64_in _ (by omega)]; omega
  obtain ⟨KN, hKN⟩ : ∃ K, K = k + 1 := ⟨_, rfl⟩
  rw [← hKN] at k1 k2
  have hK3 : KN ≤ 3 := by omega
  clear hKN
  go_wp2_with fail
  first | rw [k1] | rw [k2] | skip
  refine (CL.out KN _ hK3 hc).mono ?_; rintro e w3 ⟨r, c, V, cv, l, rfl, hrb, hl, o3, c_w3, g_w3⟩
  have m_w3 : Mv (fun g => g = b) w2 w3 := Mv.left (by exact bel0) (Mv.by_ (S := fun g => g = b) g_w3 rfl)
  have s_w3 := m_w3.size
  clear mr1_0 mr1_1 mr1_2 mr1_l mr1_f
  replace mr1 := mr1.mv m_w3 (by omega)
  have mr1_0 := mr1.c0; have mr1_1 := mr1.c1; have mr1_2 := mr1.c2; have mr1_l := mr1.lt; have mr1_f := mr1.fz
  clear mr2_0 mr2_1 mr2_2 mr2_l mr2_f
  replace mr2 := mr2.mv m_w3 (by omega)
  have mr2_0 := mr2.c0; have mr2_1 := mr2.c1; have mr2_2 := mr2.c2; have mr2_l := mr2.lt; have mr2_f := mr2.fz
  clear hc; have hc := c_w3; clear c_w3
  replace hm := hm.trans m_w3
  have h_w3 := hm.size
  clear m_w3 g_w3
  clear k1 k2
  have CM := fun W h => sIsLat_c r c V l l.length cv W rfl h (by omega)
  obtain ⟨ok, hok⟩ : ∃ ok, ok = latB r c l := ⟨_, rfl⟩
  rw [← hok] at CM
  have HOK := Lib.hid hok
  have CM' := Lib.hid CM
  clear hok CM
  go_wp2_with fail
  refine (CM'.out _ (by exact (o3.rd').grows (by exact bel0))).mono ?_; rintro e w4 ⟨rfl, g_w4⟩
  have m_w4 : Mv (fun g => g = b) w3 w4 := (Mv.refl _).right (by exact bel1 g_w4)
  have s_w4 := m_w4.size
  clear mr1_0 mr1_1 mr1_2 mr1_l mr1_f
  replace mr1 := mr1.mv m_w4 (by omega)
  have mr1_0 := mr1.c0; have mr1_1 := mr1.c1; have mr1_2 := mr1.c2; have mr1_l := mr1.lt; have mr1_f := mr1.fz
  clear mr2_0 mr2_1 mr2_2 mr2_l mr2_f
  replace mr2 := mr2.mv m_w4 (by omega)
  have mr2_0 := mr2.c0; have mr2_1 := mr2.c1; have mr2_2 := mr2.c2; have mr2_l := mr2.lt; have mr2_f := mr2.fz
  replace o3 := o3.mv m_w4 (fun g e => by have := World.ownsRow.lt o3 g e; omega)
  have ml : MBox w4 (w3.heap.size) r c (.slice V l.length cv) := MBox.mv (MBox.new_ w3 r c (.slice V l.length cv) 26 (by simp)) ((Mv.refl (S := fun g => g = b) _).right (by exact bel1 g_w4)) (by omega)
  have ml_0 := ml.c0; have ml_1 := ml.c1; have ml_2 := ml.c2; have ml_l := ml.lt; have ml_f := ml.fz
  replace hc := hc.grows (w' := w4) (by exact bel1 g_w4)
  replace hm := hm.trans m_w4
  have h_w4 := hm.size
  clear m_w4 g_w4
  cases ok
  · clear ml_0 ml_1 ml_2 ml_l ml_f mr1_0 mr1_1 mr1_2 mr1_l mr1_f mr2_0 mr2_1 mr2_2 mr2_l mr2_f
    have ed : w4.drew.heap.size = w4.heap.size := rfl
    go_wp2_with fail
    (refine wp_region_heldL (fun W => W.cell? ⟨w3.heap.size, 0, none⟩ = some (.int .i64 r) ∧ W.cell? ⟨w3.heap.size, 1, none⟩ = some (.int .i64 c) ∧ W.cell? ⟨w3.heap.size, 2, none⟩ = some (.slice V l.length cv)) (by kernel_rfl) (by ((try dsimp only); (first | with_reducible exact ml6.cells | with_reducible exact (ml.grows (by exact bel0)).cells | with_reducible exact (ml6.mv (Mv.putM _ _ _ _) (by omega)).cells | with_reducible exact ((ml6.mv (Mv.putM _ _ _ _) (by omega)).mv (Mv.putM _ _ _ _) (by omega)).cells))) (fun hHeld => ?_); refine heldL_take (i := 0) (v := _) (by rfl) (by kernel_rfl) (by kernel_rfl) (by kernel_rfl) (fun _ _ _ h => h) (Or.inl ⟨by rfl, fun wS hSw => by ((try dsimp only at hSw); go_simp; (try with_reducible rfl))⟩) (by assumption) ?_; simp only [Act.put, List.setIfInBounds_toArray, List.set_cons_zero, List.set_cons_succ]; refine heldL_take (i := 1) (v := _) (by rfl) (by kernel_rfl) (by kernel_rfl) (by kernel_rfl) (fun _ _ _ h => h) (Or.inl ⟨by rfl, fun wS hSw => by ((try dsimp only at hSw); go_simp; (try with_reducible rfl))⟩) (by assumption) ?_; simp only [Act.put, List.setIfInBounds_toArray, List.set_cons_zero, List.set_cons_succ]; refine heldL_step (i := 2) (by kernel_rfl) (by rfl) (fun K hK => ?_); go_simp; (refine (CL.out 2 _ (by omega) (hc.grows (by exact bel0))).mono ?_; rintro e w6 ⟨r2, c2, V2, cv2, l2, rfl, hrb2, hl2, o6, c6, g6⟩; have m6 : Mv (fun g => g = b) w4 w6 := Mv.left (by exact bel0) (Mv.by_ (S := fun g => g = b) g6 rfl); have s_w6 := m6.size; have ml6 := ml.mv m6 (by omega); have mr16 := mr1.mv m6 (by omega); have mr26 := mr2.mv m6 (by omega); obtain ⟨e0, e1, e2⟩ := mr16.cells; have ef := mr16.fz; have el := mr16.lt; obtain ⟨f0, f1, f2⟩ := mr26.cells; have ff := mr26.fz; have fl := mr26.lt) ; (try (go_wp2_with fail)); refine hK.out _ _ (by ((try dsimp only); (first | with_reducible exact ml6.cells | with_reducible exact (ml.grows (by exact bel0)).cells | with_reducible exact (ml6.mv (Mv.putM _ _ _ _) (by omega)).cells | with_reducible exact ((ml6.mv (Mv.putM _ _ _ _) (by omega)).mv (Mv.putM _ _ _ _) (by omega)).cells))) (fun hHeld => ?_); clear hK K; (try simp only [Act.put, List.setIfInBounds_toArray, List.set_cons_zero, List.set_cons_succ]); refine heldL_step (i := 3) (by kernel_rfl) (by rfl) (fun K hK => ?_); go_simp; refine hK.out _ _ (by ((try dsimp only); (first | with_reducible exact ml6.cells | with_reducible exact (ml.grows (by exact bel0)).cells | with_reducible exact (ml6.mv (Mv.putM _ _ _ _) (by omega)).cells | with_reducible exact ((ml6.mv (Mv.putM _ _ _ _) (by omega)).mv (Mv.putM _ _ _ _) (by omega)).cells))) (fun hHeld => ?_); clear hK K; (try simp only [Act.put, List.setIfInBounds_toArray, List.set_cons_zero, List.set_cons_succ]); refine heldL_step (i := 4) (by kernel_rfl) (by rfl) (fun K hK => ?_); go_simp; refine hK.out _ _ (by ((try dsimp only); (first | with_reducible exact ml6.cells | with_reducible exact (ml.grows (by exact bel0)).cells | with_reducible exact (ml6.mv (Mv.putM _ _ _ _) (by omega)).cells | with_reducible exact ((ml6.mv (Mv.putM _ _ _ _) (by omega)).mv (Mv.putM _ _ _ _) (by omega)).cells))) (fun hHeld => ?_); clear hK K; (try simp only [Act.put, List.setIfInBounds_toArray, List.set_cons_zero, List.set_cons_succ]); refine wpAnyH_done (by kernel_rfl) ?_ _; refine NoPanic.normal ?_)
    have o36 := o3.mv m6 (fun g e => by have := World.ownsRow.lt o3 g e; omega)
    have mvw := hm.trans m6
    go_wp2_with fail
    refine bodyPost_ret (v := .tuple #[.agg #[.int .i64 r, .int .i64 c, .slice V l.length cv], .agg #[.int .i64 r2, .int .i64 c2, .slice V2 l2.length cv2]]) ?_ rfl ?_
    · simp [results, Try.results70, go_sem, e0, e1, e2, ef, el, f0, f1, f2, ff, fl]
    · exact ⟨r, c, V, cv, l, r2, c2, V2, cv2, l2, rfl, hl, by omega, by (have hv_ := fun g e => World.ownsRow.lt o36 g e; refine Own.less (B := ?OB12) ?_ ?_; ((repeat' (first | with_reducible exact o36 | with_reducible refine Own.alloc ?_ _ | with_reducible refine Own.drew ?_ | with_reducible refine Own.far ?_ ?_ _)); all_goals (first | omega | (simp; omega) | (intro g hg; have := hv_ g hg; (try simp only); first | omega | (simp; omega))))), by (have hv_ := fun g e => World.ownsRow.lt o6 g e; refine Own.less (B := ?OB13) ?_ ?_; ((repeat' (first | with_reducible exact o6 | with_reducible refine Own.alloc ?_ _ | with_reducible refine Own.drew ?_ | with_reducible refine Own.far ?_ ?_ _)); all_goals (first | omega | (simp; omega) | (intro g hg; have := hv_ g hg; (try simp only); first | omega | (simp; omega))))), by ((repeat' (first | with_reducible exact c6 | with_reducible refine Cur.put_ ?_ ?_ ?_ _)); all_goals ((try simp only); omega)), by (refine Mv.by2 (S := fun g => g = b) ?_ (fun g _ e => e); ((repeat' (first | with_reducible exact mvw | with_reducible refine Mv.put ?_ (.inl ?_) _)); all_goals ((try simp only); omega)))⟩
  · obtain ⟨R, C, hR0, hC0, hR3, hRC, hC24, hll, MO0⟩ := latB_nat HOK.out.symm hl
    subst hR0 hC0
    have MO := Lib.hid MO0
    have HLL := Lib.hid hll
    clear hll MO0
    go_wp2_with fail
    refine (CO.out _ (by exact hc.grows (by exact bel0))).mono ?_; rintro e w5 ⟨t, rfl, c_w5, g_w5⟩
    have m_w5 : Mv (fun g => g = b) w4 w5 := Mv.left (by exact bel0) (Mv.by_ (S := fun g => g = b) g_w5 rfl)
    have s_w5 := m_w5.size
    clear mr1_0 mr1_1 mr1_2 mr1_l mr1_f
    replace mr1 := mr1.mv m_w5 (by omega)
    have mr1_0 := mr1.c0; have mr1_1 := mr1.c1; have mr1_2 := mr1.c2; have mr1_l := mr1.lt; have mr1_f := mr1.fz
    clear mr2_0 mr2_1 mr2_2 mr2_l mr2_f
    replace mr2 := mr2.mv m_w5 (by omega)
    have mr2_0 := mr2.c0; have mr2_1 := mr2.c1; have mr2_2 := mr2.c2; have mr2_l := mr2.lt; have mr2_f := mr2.fz
    replace o3 := o3.mv m_w5 (fun g e => by have := World.ownsRow.lt o3 g e; omega)
    clear ml_0 ml_1 ml_2 ml_l ml_f
    replace ml := ml.mv m_w5 (by omega)
    have ml_0 := ml.c0; have ml_1 := ml.c1; have ml_2 := ml.c2; have ml_l := ml.lt; have ml_f := ml.fz
    clear hc; have hc := c_w5; clear c_w5
    replace hm := hm.trans m_w5
    have h_w5 := hm.size
    clear m_w5 g_w5
    cases t
    · go_upto_region 3 with fail
      go_cut [5] (fun s5 wx => ∃ gs r2 c2 V2 c8 l2, s5 = .pointer (some ⟨gs, 0, none⟩) ∧ l2.length ≤ 576 ∧ Own wx w5.heap.size (.slice V2 l2.length c8) l2 ∧ MBox wx gs r2 c2 (.slice V2 l2.length c8) ∧ w5.heap.size ≤ gs ∧ Cur wx B b A n cap ∧ Mv (fun g => g = b) w5 wx)
      case first =>
        clear mr1_0 mr1_1 mr1_2 mr1_l mr1_f mr2_0 mr2_1 mr2_2 mr2_l mr2_f
        have ed : w5.drew.heap.size = w5.heap.size := rfl
        have m5 : Mv (fun g => g = b) w5 w5 := Mv.refl _
        go_region_held3 (fun W => W.cell? ⟨w3.heap.size, 0, none⟩ = some (.int .i64 R) ∧ W.cell? ⟨w3.heap.size, 1, none⟩ = some (.int .i64 C) ∧ W.cell? ⟨w3.heap.size, 2, none⟩ = some (.slice V l.length cv)) ((first | with_reducible exact (ml9.mv (Mv.putM _ _ _ _) (by omega)).cells | with_reducible exact ((ml9.alloc _).mv (Mv.putM _ _ _ _) (by omega)).cells | exact MBox.cells (ml9.grows (by exact bel0)) | exact MBox.cells (ml8.grows (by exact bel0)) | exact MBox.cells (ml7.grows (by exact bel0)) | exact MBox.cells (ml6.grows (by exact bel0)) | exact MBox.cells (ml.grows (by exact bel0))))
          (first
           | (go_at_call 95; refine (C4.out _ (hc.grows (by exact bel0))).mono ?_; rintro e w6 ⟨k, rfl, hk4, c6, g6⟩; have m6 : Mv (fun g => g = b) w5 w6 := Mv.left (by exact bel0) (Mv.by_ (S := fun g => g = b) g6 rfl); have s_w6 := m6.size; have ml6 := ml.mv m6 (by omega); have z6 := g6.size; (try simp at z6); (first | (have q := MBox.by_ (MBox.grows (MBox.mk_ w5 0 0 (.slice none 0 0) 26) (show Grows _ _ from (Below.refl _ _).drew)) g6 (by simp; omega)) | (have q := MBox.by_ (MBox.mk_ w5.drew 0 0 (.slice none 0 0) 26) g6 (by simp; omega)) | skip))
           | (go_at_call 94; refine (CD.out k R _ (by omega) (by omega) (c6.grows (by exact bel0))).mono ?_; rintro e w7 ⟨VU, cu, lu, rfl, hlu, hbu, ou, c7, g7⟩; have m7 : Mv (fun g => g = b) w5 w7 := m6.trans (Mv.left (by exact bel0) (Mv.by_ (S := fun g => g = b) g7 rfl)); have s_w7 := m7.size; have ml7 := ml.mv m7 (by omega); have z7 := g7.size; (try simp at z7); (first | (replace q := q.by_ g7 (by omega)) | (have q := ((MBox.mk_ w6 0 0 (.slice none 0 0) 26)).by_ g7 (by omega)) | skip); have o37 := o3.mv m7 (fun g e => by have := World.ownsRow.lt o3 g e; omega); have hkC : k * C ≤ 576 := (Nat.mul_le_mul (show k ≤ 24 by omega) hC24); have CX := Lib.hid fun W h1 h2 => l3Mul_c k R C VU V lu l (k * R) l.length cu cv W hlu rfl h1 h2 (by rw [isMat_made (by omega) (by omega) hlu]; exact hbu.num (by omega)) MO.out; have CBB := Lib.hid fun W A8 c8 h1 => (sBas_c k C A8 (mulL k R C lu l) (mulL k R C lu l).length c8 W rfl h1 (by rw [mulL_length]; omega)).mono fun _ _ h => matRet_out h)
           | (go_at_call 120; refine (CX.out _ (ou.rd'.grows (by exact bel0)) (o37.rd'.grows (by exact bel0))).mono ?_; rintro e w8 ⟨v8, rfl, o8, g8⟩; obtain ⟨A8, c8, rfl, hr8, _⟩ := o8.val; have s_w8 := Below.size g8; (try simp at s_w8); have c8' := c7.grows (show Grows w7 w8 by exact bel1 g8); have m8 := m7.right (show Grows w7 w8 by exact bel1 g8); have ml8 := ml7.grows (show Grows w7 w8 by exact bel1 g8); (first | (replace q := q.grows g8) | (have q := MBox.grows (MBox.mk_ w7 0 0 (.slice none 0 0) 26) g8) | skip))
           | (go_at_call 49; refine (CBB.out _ _ _ (hr8.grows (by exact bel0))).mono ?_; rintro e w9 ⟨v9, rfl, o9, g9⟩; have hl9 : (oM (basO ⟨(k : Int), (C : Int), mulL k R C lu l⟩)).l.length ≤ 576 := (oM_length fun m h => basO_ok h); obtain ⟨A9, c9, rfl, _, _⟩ := o9.val; generalize oM (basO ⟨(k : Int), (C : Int), mulL k R C lu l⟩) = BM at *; have s_w9 := Below.size g9; (try simp at s_w9); have c9' := c8'.grows (show Grows w8 w9 by exact bel1 g9); have m9 := m8.right (show Grows w8 w9 by exact bel1 g9); have ml9 := ml8.grows (show Grows w8 w9 by exact bel1 g9); (first | (replace q := q.grows g9) | (have q := MBox.grows (MBox.mk_ w8 0 0 (.slice none 0 0) 26) g9) | skip); (try (obtain ⟨q0, q1, q2⟩ := q.cells; have qf := q.fz; have ql := q.lt))))
        all_goals
          go_wp2_with fail
          go_meet
          exact ⟨_, _, _, _, _, _, rfl, hl9, by (have hb_ := fun k hk => World.ownsRow.lt o9 k hk; have ho_ := Own.less o9 (show w5.heap.size ≤ _ by first | omega | (simp; done) | (simp; omega)); (repeat' (first | with_reducible exact ho_ | with_reducible refine Own.alloc ?_ _ | with_reducible refine Own.drew ?_ | with_reducible refine Own.far ?_ ?_ _)); all_goals first | (intro k hk; have := hb_ k hk; (try simp at this); (try simp); omega) | omega | (simp; done) | (simp; omega)), by first | exact MBox.put q _ _ _ | exact MBox.mk_ _ _ _ _ _ | exact MBox.put (MBox.mk_ _ _ _ _ _) _ _ _, by first | omega | (simp; done) | (simp; omega), by ((repeat' (first | with_reducible exact c9' | with_reducible refine Cur.put_ ?_ ?_ ?_ _)); all_goals (first | (refine Cur.grows c9' ?_; exact bel0) | ((try simp only); omega) | (simp; omega))), by first | (refine Mv.over m9 (Mv.putM _ _ _ _) ?_; intro g e; (try subst e); (try simp only); left; first | omega | (simp; done) | (simp; omega)) | exact m9.right (by exact bel0)⟩
      case rest =>
        obtain ⟨gs, r2, c2, V2, c8, l2, rfl, hl2, o2, ms, hgs, hc6, m6⟩ := hcut
        obtain ⟨w6, rfl⟩ : ∃ x : World, x = wc := ⟨_, rfl⟩
        have s_w6 := m6.size
        have ml6 := ml.mv m6 (by omega)
        have mr16 := mr1.mv m6 (by omega)
        have mr26 := mr2.mv m6 (by omega)
        have o36 := o3.mv m6 (fun g e => by have := World.ownsRow.lt o3 g e; omega)
        have mvw := hm.trans m6
        clear ml_0 ml_1 ml_2 ml_l ml_f mr1_0 mr1_1 mr1_2 mr1_l mr1_f mr2_0 mr2_1 mr2_2 mr2_l mr2_f
        obtain ⟨e0, e1, e2⟩ := mr16.cells; have ef := mr16.fz; have el := mr16.lt; obtain ⟨f0, f1, f2⟩ := mr26.cells; have ff := mr26.fz; have fl := mr26.lt
        go_wp2_with fail
        have ed : w6.drew.heap.size = w6.heap.size := rfl
        (refine wp_region_heldL (fun W => W.cell? ⟨w3.heap.size, 0, none⟩ = some (.int .i64 R) ∧ W.cell? ⟨w3.heap.size, 1, none⟩ = some (.int .i64 C) ∧ W.cell? ⟨w3.heap.size, 2, none⟩ = some (.slice V l.length cv) ∧ W.cell? ⟨gs, 0, none⟩ = some (.int .i64 r2) ∧ W.cell? ⟨gs, 1, none⟩ = some (.int .i64 c2) ∧ W.cell? ⟨gs, 2, none⟩ = some (.slice V2 l2.length c8)) (by kernel_rfl) (by ((try dsimp only); (refine two_boxes2 (r := R) (c := C) (r' := r2) (c' := c2) ?_ ?_; all_goals ((repeat' (first | with_reducible exact ml6 | with_reducible exact ms | with_reducible refine MBox.drew_ ?_ | with_reducible refine MBox.putM_ ?_ ?_)); all_goals (first | omega | (simp; omega)))))) (fun hHeld => ?_); refine heldL_take (i := 0) (v := _) (by rfl) (by kernel_rfl) (by kernel_rfl) (by kernel_rfl) (fun _ _ _ h => h) (Or.inl ⟨by rfl, fun wS hSw => by ((try dsimp only at hSw); go_simp; (try with_reducible rfl))⟩) (by assumption) ?_; simp only [Act.put, List.setIfInBounds_toArray, List.set_cons_zero, List.set_cons_succ]; refine heldL_take (i := 1) (v := _) (by rfl) (by kernel_rfl) (by kernel_rfl) (by kernel_rfl) (fun _ _ _ h => h) (Or.inl ⟨by rfl, fun wS hSw => by ((try dsimp only at hSw); go_simp; (try with_reducible rfl))⟩) (by assumption) ?_; simp only [Act.put, List.setIfInBounds_toArray, List.set_cons_zero, List.set_cons_succ]; refine heldL_step (i := 2) (by kernel_rfl) (by rfl) (fun K hK => ?_); go_simp; refine hK.out _ _ (by ((try dsimp only); (refine two_boxes2 (r := R) (c := C) (r' := r2) (c' := c2) ?_ ?_; all_goals ((repeat' (first | with_reducible exact ml6 | with_reducible exact ms | with_reducible refine MBox.drew_ ?_ | with_reducible refine MBox.putM_ ?_ ?_)); all_goals (first | omega | (simp; omega)))))) (fun hHeld => ?_); clear hK K; (try simp only [Act.put, List.setIfInBounds_toArray, List.set_cons_zero, List.set_cons_succ]); refine heldL_step (i := 3) (by kernel_rfl) (by rfl) (fun K hK => ?_); go_simp; refine hK.out _ _ (by ((try dsimp only); (refine two_boxes2 (r := R) (c := C) (r' := r2) (c' := c2) ?_ ?_; all_goals ((repeat' (first | with_reducible exact ml6 | with_reducible exact ms | with_reducible refine MBox.drew_ ?_ | with_reducible refine MBox.putM_ ?_ ?_)); all_goals (first | omega | (simp; omega)))))) (fun hHeld => ?_); clear hK K; (try simp only [Act.put, List.setIfInBounds_toArray, List.set_cons_zero, List.set_cons_succ]); refine wpAnyH_done (by kernel_rfl) ?_ _; refine NoPanic.normal ?_)
        go_wp2_with fail
        refine bodyPost_ret (v := .tuple #[.agg #[.int .i64 R, .int .i64 C, .slice V l.length cv], .agg #[.int .i64 r2, .int .i64 c2, .slice V2 l2.length c8]]) ?_ rfl ?_
        · simp [results, Try.results70, go_sem, e0, e1, e2, ef, el, f0, f1, f2, ff, fl]
        · exact ⟨R, C, V, cv, l, r2, c2, V2, c8, l2, rfl, hl, hl2, by (have hv_ := fun g e => World.ownsRow.lt o36 g e; refine Own.less (B := ?OB14) ?_ ?_; ((repeat' (first | with_reducible exact o36 | with_reducible refine Own.alloc ?_ _ | with_reducible refine Own.drew ?_ | with_reducible refine Own.far ?_ ?_ _)); all_goals (first | omega | (simp; omega) | (intro g hg; have := hv_ g hg; (try simp only); first | omega | (simp; omega))))), by (have hv_ := fun g e => World.ownsRow.lt o2 g e; refine Own.less (B := ?OB15) ?_ ?_; ((repeat' (first | with_reducible exact o2 | with_reducible refine Own.alloc ?_ _ | with_reducible refine Own.drew ?_ | with_reducible refine Own.far ?_ ?_ _)); all_goals (first | omega | (simp; omega) | (intro g hg; have := hv_ g hg; (try simp only); first | omega | (simp; omega))))), by ((repeat' (first | with_reducible exact hc6 | with_reducible refine Cur.drew_ ?_ | with_reducible refine Cur.put_ ?_ ?_ ?_ _)); all_goals ((try simp only); omega)), by (refine Mv.by2 (S := fun g => g = b) ?_ (fun g _ e => e); ((repeat' (first | with_reducible exact mvw | with_reducible refine Mv.drew_ ?_ | with_reducible refine Mv.put ?_ (.inl ?_) _)); all_goals ((try simp only); omega)))⟩
    · clear ml_0 ml_1 ml_2 ml_l ml_f mr1_0 mr1_1 mr1_2 mr1_l mr1_f mr2_0 mr2_1 mr2_2 mr2_l mr2_f
      have ed : w5.drew.heap.size = w5.heap.size := rfl
      go_wp2_with fail
      (refine wp_region_heldL (fun W => W.cell? ⟨w3.heap.size, 0, none⟩ = some (.int .i64 R) ∧ W.cell? ⟨w3.heap.size, 1, none⟩ = some (.int .i64 C) ∧ W.cell? ⟨w3.heap.size, 2, none⟩ = some (.slice V l.length cv)) (by kernel_rfl) (by ((try dsimp only); (first | with_reducible exact ml6.cells | with_reducible exact (ml.grows (by exact bel0)).cells | with_reducible exact (ml6.mv (Mv.putM _ _ _ _) (by omega)).cells | with_reducible exact ((ml6.mv (Mv.putM _ _ _ _) (by omega)).mv (Mv.putM _ _ _ _) (by omega)).cells))) (fun hHeld => ?_); refine heldL_take (i := 0) (v := _) (by rfl) (by kernel_rfl) (by kernel_rfl) (by kernel_rfl) (fun _ _ _ h => h) (Or.inl ⟨by rfl, fun wS hSw => by ((try dsimp only at hSw); go_simp; (try with_reducible rfl))⟩) (by assumption) ?_; simp only [Act.put, List.setIfInBounds_toArray, List.set_cons_zero, List.set_cons_succ]; refine heldL_take (i := 1) (v := _) (by rfl) (by kernel_rfl) (by kernel_rfl) (by kernel_rfl) (fun _ _ _ h => h) (Or.inl ⟨by rfl, fun wS hSw => by ((try dsimp only at hSw); go_simp; (try with_reducible rfl))⟩) (by assumption) ?_; simp only [Act.put, List.setIfInBounds_toArray, List.set_cons_zero, List.set_cons_succ]; refine heldL_step (i := 2) (by kernel_rfl) (by rfl) (fun K hK => ?_); go_simp; (refine (CL.out 2 _ (by omega) (hc.grows (by exact bel0))).mono ?_; rintro e w6 ⟨r2, c2, V2, cv2, l2, rfl, hrb2, hl2, o6, c6, g6⟩; have m6 : Mv (fun g => g = b) w5 w6 := Mv.left (by exact bel0) (Mv.by_ (S := fun g => g = b) g6 rfl); have s_w6 := m6.size; have ml6 := ml.mv m6 (by omega); have mr16 := mr1.mv m6 (by omega); have mr26 := mr2.mv m6 (by omega); obtain ⟨e0, e1, e2⟩ := mr16.cells; have ef := mr16.fz; have el := mr16.lt; obtain ⟨f0, f1, f2⟩ := mr26.cells; have ff := mr26.fz; have fl := mr26.lt) ; (try (go_wp2_with fail)); refine hK.out _ _ (by ((try dsimp only); (first | with_reducible exact ml6.cells | with_reducible exact (ml.grows (by exact bel0)).cells | with_reducible exact (ml6.mv (Mv.putM _ _ _ _) (by omega)).cells | with_reducible exact ((ml6.mv (Mv.putM _ _ _ _) (by omega)).mv (Mv.putM _ _ _ _) (by omega)).cells))) (fun hHeld => ?_); clear hK K; (try simp only [Act.put, List.setIfInBounds_toArray, List.set_cons_zero, List.set_cons_succ]); refine heldL_step (i := 3) (by kernel_rfl) (by rfl) (fun K hK => ?_); go_simp; refine hK.out _ _ (by ((try dsimp only); (first | with_reducible exact ml6.cells | with_reducible exact (ml.grows (by exact bel0)).cells | with_reducible exact (ml6.mv (Mv.putM _ _ _ _) (by omega)).cells | with_reducible exact ((ml6.mv (Mv.putM _ _ _ _) (by omega)).mv (Mv.putM _ _ _ _) (by omega)).cells))) (fun hHeld => ?_); clear hK K; (try simp only [Act.put, List.setIfInBounds_toArray, List.set_cons_zero, List.set_cons_succ]); refine heldL_step (i := 4) (by kernel_rfl) (by rfl) (fun K hK => ?_); go_simp; refine hK.out _ _ (by ((try dsimp only); (first | with_reducible exact ml6.cells | with_reducible exact (ml.grows (by exact bel0)).cells | with_reducible exact (ml6.mv (Mv.putM _ _ _ _) (by omega)).cells | with_reducible exact ((ml6.mv (Mv.putM _ _ _ _) (by omega)).mv (Mv.putM _ _ _ _) (by omega)).cells))) (fun hHeld => ?_); clear hK K; (try simp only [Act.put, List.setIfInBounds_toArray, List.set_cons_zero, List.set_cons_succ]); refine wpAnyH_done (by kernel_rfl) ?_ _; refine NoPanic.normal ?_)
      have o36 := o3.mv m6 (fun g e => by have := World.ownsRow.lt o3 g e; omega)
      have mvw := hm.trans m6
      go_wp2_with fail
      refine bodyPost_ret (v := .tuple #[.agg #[.int .i64 R, .int .i64 C, .slice V l.length cv], .agg #[.int .i64 r2, .int .i64 c2, .slice V2 l2.length cv2]]) ?_ rfl ?_
      · simp [results, Try.results70, go_sem, e0, e1, e2, ef, el, f0, f1, f2, ff, fl]
      · exact ⟨R, C, V, cv, l, r2, c2, V2, cv2, l2, rfl, hl, by omega, by (have hv_ := fun g e => World.ownsRow.lt o36 g e; refine Own.less (B := ?OB16) ?_ ?_; ((repeat' (first | with_reducible exact o36 | with_reducible refine Own.alloc ?_ _ | with_reducible refine Own.drew ?_ | with_reducible refine Own.far ?_ ?_ _)); all_goals (first | omega | (simp; omega) | (intro g hg; have := hv_ g hg; (try simp only); first | omega | (simp; omega))))), by (have hv_ := fun g e => World.ownsRow.lt o6 g e; refine Own.less (B := ?OB17) ?_ ?_; ((repeat' (first | with_reducible exact o6 | with_reducible refine Own.alloc ?_ _ | with_reducible refine Own.drew ?_ | with_reducible refine Own.far ?_ ?_ _)); all_goals (first | omega | (simp; omega) | (intro g hg; have := hv_ g hg; (try simp only); first | omega | (simp; omega))))), by ((repeat' (first | with_reducible exact c6 | with_reducible refine Cur.put_ ?_ ?_ ?_ _)); all_goals ((try simp only); omega)), by (refine Mv.by2 (S := fun g => g = b) ?_ (fun g _ e => e); ((repeat' (first | with_reducible exact mvw | with_reducible refine Mv.put ?_ (.inl ?_) _)); all_goals ((try simp only); omega)))⟩
theorem drawQuo_c (A : Option Addr) (n cap : Nat) (w : World) (hr : CodeR w w.heap.size A n) (hn : n ≤ 1048576) :
    Calls Try.prog 31 #[.slice A n cap] w (DMat2 10 576 w) := by
  obtain ⟨w1, hw1, mr1, mr2, h_w1, g01⟩ := two_res w
  have CN := Lib.hid (l1New_c w1.heap.size A n cap w1 (Nat.le_refl _) (hr.up g01) hn)
  have CS := Lib.hid fun b W h => l16Sub_c w1.heap.size b A n cap W h
  have HW1 := Lib.hid hw1
  clear hw1 hr
  go_enter Try.func31, Try.ntmps31
  go_wp2_with fail
  rw [← HW1.out]
  refine CN.out.mono ?_; rintro e w2 ⟨b, rfl, hc, g2⟩
  have hbl := hc.lt
  have hlo := hc.lo
  have s_w2 := Below.size g2
  replace mr1 := mr1.grows g2
  replace mr2 := mr2.grows g2
  have G2 : Grows w w2 := by exact bel2 g2 g01
  clear g2 g01
  go_wp2_with fail
  refine (CS.out b _ hc).mono ?_; rintro e w3 ⟨r, c, V, cv, l, r2, c2, V2, cv2, l2, rfl, hl, hl2, o3, o4, c3, g3⟩
  have s_w3 := g3.size
  have m3 : Mv (fun g => g = b) w2 w3 := Mv.by_ (S := fun g => g = b) g3 rfl
  obtain ⟨w4, hw4⟩ : ∃ w4, w4 = (w3.alloc (.cells #[.int .i64 r, .int .i64 c, .slice V l.length cv] 26)).alloc (.cells #[.int .i64 r2, .int .i64 c2, .slice V2 l2.length cv2] 26) := ⟨_, rfl⟩
  have ml : MBox w4 w3.heap.size r c (.slice V l.length cv) := by rw [hw4]; exact (MBox.mk_ _ _ _ _ _).alloc _
  have ms : MBox w4 (w3.heap.size + 1) r2 c2 (.slice V2 l2.length cv2) := by rw [hw4]; exact MBox.new_ _ _ _ _ _ (by simp)
  have g34 : Grows w3 w4 := by rw [hw4]; exact bel0
  have s_w4 := Below.size g34
  have HW4 := Lib.hid hw4
  have o34 := o3.grows g34
  have o44 := o4.grows g34
  have mr14 := (mr1.mv m3 (by omega)).grows g34
  have mr24 := (mr2.mv m3 (by omega)).grows g34
  have G : Grows w w4 := Below.trans G2 (Mv.below (m3.right g34) (by omega) (fun g e => by omega))
  clear hw4 o3 o4 mr1 mr2 g3
  go_upto_region 2 with fail
  rw [← HW4.out]
  obtain ⟨e0, e1, e2⟩ := mr14.cells; have ef := mr14.fz; have el := mr14.lt; obtain ⟨f0, f1, f2⟩ := mr24.cells; have ff := mr24.fz; have fl := mr24.lt
  have ed : w4.drew.heap.size = w4.heap.size := rfl
  (refine wp_region_heldL (fun W => W.cell? ⟨w3.heap.size, 0, none⟩ = some (.int .i64 r) ∧ W.cell? ⟨w3.heap.size, 1, none⟩ = some (.int .i64 c) ∧ W.cell? ⟨w3.heap.size, 2, none⟩ = some (.slice V l.length cv) ∧ W.cell? ⟨w3.heap.size + 1, 0, none⟩ = some (.int .i64 r2) ∧ W.cell? ⟨w3.heap.size + 1, 1, none⟩ = some (.int .i64 c2) ∧ W.cell? ⟨w3.heap.size + 1, 2, none⟩ = some (.slice V2 l2.length cv2)) (by kernel_rfl) (by ((try dsimp only); (refine two_boxes2 (r := r) (c := c) (r' := r2) (c' := c2) ?_ ?_; all_goals ((repeat' (first | with_reducible exact ml | with_reducible exact ms | with_reducible refine MBox.drew_ ?_ | with_reducible refine MBox.putM_ ?_ ?_)); all_goals (first | omega | (simp; omega)))))) (fun hHeld => ?_); refine heldL_take (i := 0) (v := _) (by rfl) (by kernel_rfl) (by kernel_rfl) (by kernel_rfl) (fun _ _ _ h => h) (Or.inl ⟨by rfl, fun wS hSw => by ((try dsimp only at hSw); go_simp; (try with_reducible rfl))⟩) (by assumption) ?_; simp only [Act.put, List.setIfInBounds_toArray, List.set_cons_zero, List.set_cons_succ]; refine heldL_take (i := 1) (v := _) (by rfl) (by kernel_rfl) (by kernel_rfl) (by kernel_rfl) (fun _ _ _ h => h) (Or.inl ⟨by rfl, fun wS hSw => by ((try dsimp only at hSw); go_simp; (try with_reducible rfl))⟩) (by assumption) ?_; simp only [Act.put, List.setIfInBounds_toArray, List.set_cons_zero, List.set_cons_succ]; refine heldL_step (i := 2) (by kernel_rfl) (by rfl) (fun K hK => ?_); go_simp; refine hK.out _ _ (by ((try dsimp only); (refine two_boxes2 (r := r) (c := c) (r' := r2) (c' := c2) ?_ ?_; all_goals ((repeat' (first | with_reducible exact ml | with_reducible exact ms | with_reducible refine MBox.drew_ ?_ | with_reducible refine MBox.putM_ ?_ ?_)); all_goals (first | omega | (simp; omega)))))) (fun hHeld => ?_); clear hK K; (try simp only [Act.put, List.setIfInBounds_toArray, List.set_cons_zero, List.set_cons_succ]); refine heldL_step (i := 3) (by kernel_rfl) (by rfl) (fun K hK => ?_); go_simp; refine hK.out _ _ (by ((try dsimp only); (refine two_boxes2 (r := r) (c := c) (r' := r2) (c' := c2) ?_ ?_; all_goals ((repeat' (first | with_reducible exact ml | with_reducible exact ms | with_reducible refine MBox.drew_ ?_ | with_reducible refine MBox.putM_ ?_ ?_)); all_goals (first | omega | (simp; omega)))))) (fun hHeld => ?_); clear hK K; (try simp only [Act.put, List.setIfInBounds_toArray, List.set_cons_zero, List.set_cons_succ]); refine wpAnyH_done (by kernel_rfl) ?_ _; refine NoPanic.normal ?_)
  go_wp2_with fail
  refine bodyPost_ret (v := .tuple #[.agg #[.int .i64 r, .int .i64 c, .slice V l.length cv], .agg #[.int .i64 r2, .int .i64 c2, .slice V2 l2.length cv2]]) ?_ rfl ?_
  · simp [results, Try.results31, go_sem, e0, e1, e2, ef, el, f0, f1, f2, ff, fl]
  · exact ⟨r, c, V, cv, l, r2, c2, V2, cv2, l2, rfl, hl, hl2, by (have hv_ := fun g e => World.ownsRow.lt o34 g e; refine Own.less (B := ?OB18) ?_ ?_; ((repeat' (first | with_reducible exact o34 | with_reducible refine Own.alloc ?_ _ | with_reducible refine Own.drew ?_ | with_reducible refine Own.far ?_ ?_ _)); all_goals (first | omega | (simp; omega) | (intro g hg; have := hv_ g hg; (try simp only); first | omega | (simp; omega))))), by (have hv_ := fun g e => World.ownsRow.lt o44 g e; refine Own.less (B := ?OB19) ?_ ?_; ((repeat' (first | with_reducible exact o44 | with_reducible refine Own.alloc ?_ _ | with_reducible refine Own.drew ?_ | with_reducible refine Own.far ?_ ?_ _)); all_goals (first | omega | (simp; omega) | (intro g hg; have := hv_ g hg; (try simp only); first | omega | (simp; omega))))), by exact bel1 G⟩
end
end Go.Proofs.Ytbfkpfdkndnhkaa
