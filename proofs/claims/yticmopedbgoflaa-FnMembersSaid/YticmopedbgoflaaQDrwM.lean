/- Contracts and lemmas, put together. -/
import Derived.Test.YticmopedbgoflaaPkT
import Derived.Test.YticmopedbgoflaaQDrwU
/- The draws: a lattice and a vector. -/
namespace Go.Proofs.Yticmopedbgoflaa
set_option linter.unusedSimpArgs false
set_option linter.unusedVariables false
open Go.RowKit

/-- a matrix and a list drawn from a code -/
def DMatL (m k : Nat) (w : World) (e : Ending) (w' : World) : Prop := ∃ (r c : Int) (V : Option Addr) (cv : Nat) (l : List Int) (V2 : Option Addr) (cv2 : Nat) (l2 : List Int), e = .returned (.tuple #[.agg #[.int .i64 r, .int .i64 c, .slice V l.length cv], .slice V2 l2.length cv2]) ∧ l.length ≤ m ∧ l2.length ≤ k ∧ Own w' w.heap.size (.slice V l.length cv) l ∧ Own w' w.heap.size (.slice V2 l2.length cv2) l2 ∧ Grows w w'
/-- a lattice's rows are not more than its columns -/
theorem Her.wide {R C : Nat} {a : Mt} {p : Nat → Nat} (h : Her R C a p) : R ≤ C := by
  have key : ∀ i, i < R → i ≤ p i := fun i => by
    induction i with
    | zero => exact fun _ => Nat.zero_le _
    | succ i ih => exact fun hi => by have := ih (by omega); have := h.up i (i + 1) (by omega) hi; omega
  rcases Nat.eq_zero_or_pos R with e | e
  · omega
  · have := key (R - 1) (by omega)
    have := h.lt (R - 1) (by omega)
    omega
theorem latB_nat {r c : Int} {l : List Int} (h : latB r c l = true) (hl : l.length ≤ 10) : ∃ R C : Nat, r = R ∧ c = C ∧ R ≤ 3 ∧ R ≤ C ∧ C ≤ 24 ∧ l.length = R * C ∧ isMat R C l = true := by
  obtain ⟨hm, _⟩ := latB_parts h
  obtain ⟨R, C, rfl, rfl, hR, hC, hlen, _⟩ := isMat_nat hm
  obtain ⟨_, H⟩ := latB_her h
  have hw := H.wide
  refine ⟨R, C, rfl, rfl, ?_, hw, by omega, hlen, hm⟩
  refine Classical.byContradiction fun hn => ?_
  have := Nat.mul_le_mul (show 4 ≤ R by omega) (show 4 ≤ C by omega)
  omega
section
set_option maxHeartbeats 4000000
set_option maxRecDepth 10000
theorem l3Row_c (B b : Nat) (A : Option Addr) (n cap R : Nat) (w : World) (hR : R ≤ 4) (h : Cur w B b A n cap) :
    Calls Try.prog 102 #[.pointer (some ⟨b, 0, none⟩), .int .i64 1, .int .i64 R, .int .i64 5] w fun e w' => ∃ (V : Option Addr) (cv : Nat) (l : List Int), e = .returned (.agg #[.int .i64 1, .int .i64 R, .slice V R cv]) ∧ l.length = R ∧ bnd 5 l ∧ Own w' w.heap.size (.slice V R cv) l ∧ Cur w' B b A n cap ∧ w.grownBy w' (some b) :=
  (l3Draw_c B b A n cap 1 R 5 w (by omega) hR (by omega) h).mono fun e w' h => by
    obtain ⟨V, cv, l, h1, h2, h3, h4, h5, h6⟩ := h
    rw [Nat.one_mul] at h1 h2 h4
    exact ⟨V, cv, l, h1, h2, h3, h4, h5, h6⟩
theorem mulRow_c (R C : Nat) (A B : Option Addr) (a b : List Int) (n m ca cb : Nat) (w : World) (hn : a.length = n) (hm : b.length = m) (ha : Rd w A a) (hb : Rd w B b) (h1 : isMat 1 R a = true) (h2 : isMat R C b = true) :
    Calls Try.prog 86 #[.agg #[.int .i64 1, .int .i64 R, .slice A n ca], .agg #[.int .i64 R, .int .i64 C, .slice B m cb]] w fun e w' =>
      ∃ v, e = .returned (.agg #[.int .i64 1, .int .i64 C, v]) ∧ Own w' w.heap.size v (mulL 1 R C a b) ∧ Grows w w' :=
  l3Mul_c 1 R C A B a b n m ca cb w hn hm ha hb h1 h2
theorem drawCrd_c (A : Option Addr) (n cap : Nat) (w : World) (hr : CodeR w w.heap.size A n) (hn : n ≤ 1048576) :
    Calls Try.prog 36 #[.slice A n cap] w (DMatL 10 24 w) := by
  obtain ⟨w1, hw1⟩ : ∃ w1, w1 = w.alloc (.cells #[.int .i64 0, .int .i64 0, .slice none 0 0] 26) := ⟨_, rfl⟩
  have mr : MBox w1 w.heap.size 0 0 (.slice none 0 0) := by rw [hw1]; exact MBox.mk_ _ _ _ _ _
  have g01 : Grows w w1 := by rw [hw1]; exact bel0
  have h_w1 : w1.heap.size = w.heap.size + 1 := by rw [hw1]; simp
  have CN := Lib.hid (l1New_c w1.heap.size A n cap w1 (Nat.le_refl _) (hr.up g01) hn)
  have C3 := Lib.hid fun b W h => l1Below_c w1.heap.size b A n cap 3 W (by omega) h
  have CL := Lib.hid fun b N W hN h => l16Lattice_c w1.heap.size b A n cap N W hN h
  have CO := Lib.hid fun b W h => l1Once_c w1.heap.size b A n cap 3 W (by omega) h
  have CR := Lib.hid fun b k W hk h => l8Right_c w1.heap.size b A n cap k W hk h
  have CD := Lib.hid fun b R W hR h => l3Row_c w1.heap.size b A n cap R W hR h
  have HW1 := Lib.hid hw1
  clear hw1 hr
  go_enter Try.func36, Try.ntmps36
  go_wp2_with fail
  rw [← HW1.out]
  refine CN.out.mono ?_; rintro e w2 ⟨b, rfl, hc, g2⟩
  have hbl := hc.lt
  have hlo := hc.lo
  have s_w2 := Below.size g2
  replace mr := mr.grows g2
  have G2 : Grows w w2 := by exact bel2 g2 g01
  have hm : Mv (fun g => g = b) w2 w2 := Mv.refl _
  clear g2 g01
  have mr_0 := mr.c0; have mr_1 := mr.c1; have mr_2 := mr.c2; have mr_l := mr.lt; have mr_f := mr.fz
  go_wp2_with fail
  refine (C3.out b _ hc).mono ?_; rintro e w3 ⟨k, rfl, hk, c_w3, g_w3⟩
  have m_w3 : Mv (fun g => g = b) w2 w3 := Mv.left (by exact bel0) (Mv.by_ (S := fun g => g = b) g_w3 rfl)
  have s_w3 := m_w3.size
  clear mr_0 mr_1 mr_2 mr_l mr_f
  replace mr := mr.mv m_w3 (by omega)
  have mr_0 := mr.c0; have mr_1 := mr.c1; have mr_2 := mr.c2; have mr_l := mr.lt; have mr_f := mr.fz
  clear hc; have hc := c_w3; clear c_w3
  replace hm := hm.trans m_w3
  have h_w3 := hm.size
  clear m_w3 g_w3
  have k1 : IntKind.i64.wrap ((1 : Int) + (k : Int)) = ((k + 1 : Nat) : Int) := by rw [IntWalk.i64_in _ (by omega)]; omega
  have k2 : IntKind.i64.wrap ((k : Int) + 1) = ((k + 1 : Nat) : Int) := by rw [IntWalk.i64_in _ (by omega)]; omega
  obtain ⟨KN, hKN⟩ : ∃ K, K = k + 1 := ⟨_, rfl⟩
  rw [← hKN] at k1 k2
  have hK3 : KN ≤ 3 := by omega
  clear hKN
  go_wp2_with fail
  first | rw [k1] | rw [k2] | skip
  refine (CL.out b KN _ hK3 hc).mono ?_; rintro e w4 ⟨r, c, V, cv, l, rfl, hrb, hl, o3, c_w4, g_w4⟩
  have m_w4 : Mv (fun g => g = b) w3 w4 := Mv.left (by exact bel0) (Mv.by_ (S := fun g => g = b) g_w4 rfl)
  have s_w4 := m_w4.size
  clear mr_0 mr_1 mr_2 mr_l mr_f
  replace mr := mr.mv m_w4 (by omega)
  have mr_0 := mr.c0; have mr_1 := mr.c1; have mr_2 := mr.c2; have mr_l := mr.lt; have mr_f := mr.fz
  clear hc; have hc := c_w4; clear c_w4
  replace hm := hm.trans m_w4
  have h_w4 := hm.size
  clear m_w4 g_w4
  clear k1 k2
  have CM := fun W h => sIsLat_c r c V l l.length cv W rfl h (by omega)
  obtain ⟨ok, hok⟩ : ∃ ok, ok = latB r c l := ⟨_, rfl⟩
  rw [← hok] at CM
  have HOK := Lib.hid hok
  have CM' := Lib.hid CM
  clear hok CM
  go_wp2_with fail
  refine (CM'.out _ (by exact (o3.rd').grows (by exact bel0))).mono ?_; rintro e w5 ⟨rfl, g_w5⟩
  have m_w5 : Mv (fun g => g = b) w4 w5 := (Mv.refl _).right (by exact bel1 g_w5)
  have s_w5 := m_w5.size
  clear mr_0 mr_1 mr_2 mr_l mr_f
  replace mr := mr.mv m_w5 (by omega)
  have mr_0 := mr.c0; have mr_1 := mr.c1; have mr_2 := mr.c2; have mr_l := mr.lt; have mr_f := mr.fz
  replace o3 := o3.mv m_w5 (fun g e => by have := World.ownsRow.lt o3 g e; omega)
  have ml : MBox w5 (w4.heap.size) r c (.slice V l.length cv) := MBox.mv (MBox.new_ w4 r c (.slice V l.length cv) 26 (by simp)) ((Mv.refl (S := fun g => g = b) _).right (by exact bel1 g_w5)) (by omega)
  have ml_0 := ml.c0; have ml_1 := ml.c1; have ml_2 := ml.c2; have ml_l := ml.lt; have ml_f := ml.fz
  replace hc := hc.grows (w' := w5) (by exact bel1 g_w5)
  replace hm := hm.trans m_w5
  have h_w5 := hm.size
  clear m_w5 g_w5
  cases ok
  · clear ml_0 ml_1 ml_2 ml_l ml_f mr_0 mr_1 mr_2 mr_l mr_f
    have hlx : w1.heap.size + 1 ≤ w4.heap.size := by omega
    have ed : w5.drew.heap.size = w5.heap.size := rfl
    go_wp2_with fail
    (refine wp_region_heldL (fun W => W.cell? ⟨w4.heap.size, 0, none⟩ = some (.int .i64 r) ∧ W.cell? ⟨w4.heap.size, 1, none⟩ = some (.int .i64 c) ∧ W.cell? ⟨w4.heap.size, 2, none⟩ = some (.slice V l.length cv)) (by kernel_rfl) (by ((try dsimp only); (first | with_reducible exact ml6.cells | with_reducible exact (ml.grows (by exact bel0)).cells | with_reducible exact (ml6.mv (Mv.putM _ _ _ _) (by omega)).cells | with_reducible exact ((ml6.mv (Mv.putM _ _ _ _) (by omega)).mv (Mv.putM _ _ _ _) (by omega)).cells))) (fun hHeld => ?_); refine heldL_take (i := 0) (v := _) (by rfl) (by kernel_rfl) (by kernel_rfl) (by kernel_rfl) (fun _ _ _ h => h) (Or.inl ⟨by rfl, fun wS hSw => by ((try dsimp only at hSw); go_simp; (try with_reducible rfl))⟩) (by assumption) ?_; simp only [Act.put, List.setIfInBounds_toArray, List.set_cons_zero, List.set_cons_succ]; refine heldL_take (i := 1) (v := _) (by rfl) (by kernel_rfl) (by kernel_rfl) (by kernel_rfl) (fun _ _ _ h => h) (Or.inl ⟨by rfl, fun wS hSw => by ((try dsimp only at hSw); go_simp; (try with_reducible rfl))⟩) (by assumption) ?_; simp only [Act.put, List.setIfInBounds_toArray, List.set_cons_zero, List.set_cons_succ]; refine heldL_take (i := 2) (v := _) (by rfl) (by kernel_rfl) (by kernel_rfl) (by kernel_rfl) (fun _ _ _ h => h) (Or.inl ⟨by rfl, fun wS hSw => by ((try dsimp only at hSw); go_simp; (try with_reducible rfl))⟩) (by assumption) ?_; simp only [Act.put, List.setIfInBounds_toArray, List.set_cons_zero, List.set_cons_succ]; refine heldL_step (i := 3) (by kernel_rfl) (by rfl) (fun K hK => ?_); go_simp; (refine (CR.out b KN _ (by omega) (hc.grows (by exact bel0))).mono ?_; rintro e w6 ⟨V2, cv2, l2, rfl, hl2, o6, c6, g6⟩; have m6 : Mv (fun g => g = b) w5 w6 := Mv.left (by exact bel0) (Mv.by_ (S := fun g => g = b) g6 rfl); have s_w6 := m6.size; have ml6 := ml.mv m6 (by omega); have mr6 := mr.mv m6 (by omega); obtain ⟨e0, e1, e2⟩ := mr6.cells; have ef := mr6.fz; have el := mr6.lt) ; (try (go_wp2_with fail)); refine hK.out _ _ (by ((try dsimp only); (first | with_reducible exact ml6.cells | with_reducible exact (ml.grows (by exact bel0)).cells | with_reducible exact (ml6.mv (Mv.putM _ _ _ _) (by omega)).cells | with_reducible exact ((ml6.mv (Mv.putM _ _ _ _) (by omega)).mv (Mv.putM _ _ _ _) (by omega)).cells))) (fun hHeld => ?_); clear hK K; (try simp only [Act.put, List.setIfInBounds_toArray, List.set_cons_zero, List.set_cons_succ]); refine heldL_step (i := 4) (by kernel_rfl) (by rfl) (fun K hK => ?_); go_simp; refine hK.out _ _ (by ((try dsimp only); (first | with_reducible exact ml6.cells | with_reducible exact (ml.grows (by exact bel0)).cells | with_reducible exact (ml6.mv (Mv.putM _ _ _ _) (by omega)).cells | with_reducible exact ((ml6.mv (Mv.putM _ _ _ _) (by omega)).mv (Mv.putM _ _ _ _) (by omega)).cells))) (fun hHeld => ?_); clear hK K; (try simp only [Act.put, List.setIfInBounds_toArray, List.set_cons_zero, List.set_cons_succ]); refine heldL_take (i := 5) (v := _) (by rfl) (by kernel_rfl) (by kernel_rfl) (by kernel_rfl) (fun _ _ _ h => h) (Or.inl ⟨by rfl, fun wS hSw => by ((try dsimp only at hSw); go_simp; (try with_reducible rfl))⟩) (by assumption) ?_; simp only [Act.put, List.setIfInBounds_toArray, List.set_cons_zero, List.set_cons_succ]; refine wpAnyH_done (by kernel_rfl) ?_ _; refine NoPanic.normal ?_)
    have o36 := o3.mv m6 (fun g e => by have := World.ownsRow.lt o3 g e; omega)
    have G : Grows w w6 := Below.trans G2 (Mv.below (hm.trans m6) (by omega) (fun g e => by omega))
    go_wp2_with fail
    refine bodyPost_ret (v := .tuple #[.agg #[.int .i64 r, .int .i64 c, .slice V l.length cv], .slice V2 l2.length cv2]) ?_ rfl ?_
    · simp [results, Try.results36, go_sem, e0, e1, e2, ef, el]
    · exact ⟨r, c, V, cv, l, V2, cv2, l2, rfl, hl, by omega, by (have hv_ := fun g e => World.ownsRow.lt o36 g e; refine Own.less (B := ?OB88) ?_ ?_; ((repeat' (first | with_reducible exact o36 | with_reducible refine Own.alloc ?_ _ | with_reducible refine Own.drew ?_ | with_reducible refine Own.far ?_ ?_ _)); all_goals (first | omega | (simp; omega) | (intro g hg; have := hv_ g hg; (try simp only); first | omega | (simp; omega))))), by (have hv_ := fun g e => World.ownsRow.lt o6 g e; refine Own.less (B := ?OB89) ?_ ?_; ((repeat' (first | with_reducible exact o6 | with_reducible refine Own.alloc ?_ _ | with_reducible refine Own.drew ?_ | with_reducible refine Own.far ?_ ?_ _)); all_goals (first | omega | (simp; omega) | (intro g hg; have := hv_ g hg; (try simp only); first | omega | (simp; omega))))), by exact bel1 G⟩
  · obtain ⟨R, C, hR0, hC0, hR3, hRC, hC24, hll, MO0⟩ := latB_nat HOK.out.symm hl
    subst hR0 hC0
    have MO := Lib.hid MO0
    have HLL := Lib.hid hll
    clear hll MO0
    go_wp2_with fail
    refine (CO.out b _ (by exact hc.grows (by exact bel0))).mono ?_; rintro e w6 ⟨t, rfl, c_w6, g_w6⟩
    have m_w6 : Mv (fun g => g = b) w5 w6 := Mv.left (by exact bel0) (Mv.by_ (S := fun g => g = b) g_w6 rfl)
    have s_w6 := m_w6.size
    clear mr_0 mr_1 mr_2 mr_l mr_f
    replace mr := mr.mv m_w6 (by omega)
    have mr_0 := mr.c0; have mr_1 := mr.c1; have mr_2 := mr.c2; have mr_l := mr.lt; have mr_f := mr.fz
    replace o3 := o3.mv m_w6 (fun g e => by have := World.ownsRow.lt o3 g e; omega)
    clear ml_0 ml_1 ml_2 ml_l ml_f
    replace ml := ml.mv m_w6 (by omega)
    have ml_0 := ml.c0; have ml_1 := ml.c1; have ml_2 := ml.c2; have ml_l := ml.lt; have ml_f := ml.fz
    clear hc; have hc := c_w6; clear c_w6
    replace hm := hm.trans m_w6
    have h_w6 := hm.size
    clear m_w6 g_w6
    cases t
    · clear ml_0 ml_1 ml_2 ml_l ml_f mr_0 mr_1 mr_2 mr_l mr_f
      have hlx : w1.heap.size + 1 ≤ w4.heap.size := by omega
      have ed : w6.drew.heap.size = w6.heap.size := rfl
      go_wp2_with fail
      (refine wp_region_heldL (fun W => W.cell? ⟨w4.heap.size, 0, none⟩ = some (.int .i64 R) ∧ W.cell? ⟨w4.heap.size, 1, none⟩ = some (.int .i64 C) ∧ W.cell? ⟨w4.heap.size, 2, none⟩ = some (.slice V l.length cv)) (by kernel_rfl) (by ((try dsimp only); (first | with_reducible exact ml8.cells | with_reducible exact ml7.cells | with_reducible exact (ml.grows (by exact bel0)).cells | with_reducible exact (ml8.mv (Mv.putM _ _ _ _) (by omega)).cells))) (fun hHeld => ?_); refine heldL_take (i := 0) (v := _) (by rfl) (by kernel_rfl) (by kernel_rfl) (by kernel_rfl) (fun _ _ _ h => h) (Or.inl ⟨by rfl, fun wS hSw => by ((try dsimp only at hSw); go_simp; (try with_reducible rfl))⟩) (by assumption) ?_; simp only [Act.put, List.setIfInBounds_toArray, List.set_cons_zero, List.set_cons_succ]; refine heldL_take (i := 1) (v := _) (by rfl) (by kernel_rfl) (by kernel_rfl) (by kernel_rfl) (fun _ _ _ h => h) (Or.inl ⟨by rfl, fun wS hSw => by ((try dsimp only at hSw); go_simp; (try with_reducible rfl))⟩) (by assumption) ?_; simp only [Act.put, List.setIfInBounds_toArray, List.set_cons_zero, List.set_cons_succ]; refine heldL_take (i := 2) (v := _) (by rfl) (by kernel_rfl) (by kernel_rfl) (by kernel_rfl) (fun _ _ _ h => h) (Or.inl ⟨by rfl, fun wS hSw => by ((try dsimp only at hSw); go_simp; (try with_reducible rfl))⟩) (by assumption) ?_; simp only [Act.put, List.setIfInBounds_toArray, List.set_cons_zero, List.set_cons_succ]; refine heldL_take (i := 3) (v := _) (by rfl) (by kernel_rfl) (by kernel_rfl) (by kernel_rfl) (fun _ _ _ h => h) (Or.inl ⟨by rfl, fun wS hSw => by ((try dsimp only at hSw); go_simp; (try with_reducible rfl))⟩) (by assumption) ?_; simp only [Act.put, List.setIfInBounds_toArray, List.set_cons_zero, List.set_cons_succ]; refine heldL_take (i := 5) (v := _) (by rfl) (by kernel_rfl) (by kernel_rfl) (by kernel_rfl) (fun _ _ _ h => h) (Or.inl ⟨by rfl, fun wS hSw => by ((try dsimp only at hSw); go_simp; (try with_reducible rfl))⟩) (by assumption) ?_; simp only [Act.put, List.setIfInBounds_toArray, List.set_cons_zero, List.set_cons_succ]; refine heldL_step (i := 4) (by kernel_rfl) (by rfl) (fun K hK => ?_); go_simp; (refine (CD.out b R _ (by omega) (hc.grows (by exact bel0))).mono ?_; rintro e w7 ⟨VU, cu, lu, rfl, hlu, hbu, ou, c7, g7⟩; have m7 : Mv (fun g => g = b) w6 w7 := Mv.left (by exact bel0) (Mv.by_ (S := fun g => g = b) g7 rfl); have s_w7 := m7.size; have ml7 := ml.mv m7 (by omega); have mr7 := mr.mv m7 (by omega); have o37 := o3.mv m7 (fun g e => by have := World.ownsRow.lt o3 g e; omega); have CX := Lib.hid fun W h1 h2 => mulRow_c R C VU V lu l R l.length cu cv W hlu rfl h1 h2 (by have e1 := isMat_made (R := 1) (C := R) (l := lu) (by omega) (by omega) (by omega); rw [show ((1 : Nat) : Int) = 1 from rfl] at e1; rw [e1]; exact hbu.num (by omega)) MO.out) ; (try (go_wp2_with fail)); refine hK.out _ _ (by ((try dsimp only); (first | with_reducible exact ml8.cells | with_reducible exact ml7.cells | with_reducible exact (ml.grows (by exact bel0)).cells | with_reducible exact (ml8.mv (Mv.putM _ _ _ _) (by omega)).cells))) (fun hHeld => ?_); clear hK K; (try simp only [Act.put, List.setIfInBounds_toArray, List.set_cons_zero, List.set_cons_succ]); refine heldL_step (i := 6) (by kernel_rfl) (by rfl) (fun K hK => ?_); go_simp; (refine (CX.out _ ou.rd' o37.rd').mono ?_; rintro e w8 ⟨v8, rfl, o8, g8⟩; obtain ⟨V2, cv2, rfl, _, _⟩ := o8.val; have hl2 : (mulL 1 R C lu l).length ≤ 24 := (by rw [mulL_length]; omega); have s_w8 := Below.size g8; have ml8 := ml7.grows g8; have mr8 := mr7.grows g8; obtain ⟨e0, e1, e2⟩ := mr8.cells; have ef := mr8.fz; have el := mr8.lt) ; (try (go_wp2_with fail)); refine hK.out _ _ (by ((try dsimp only); (first | with_reducible exact ml8.cells | with_reducible exact ml7.cells | with_reducible exact (ml.grows (by exact bel0)).cells | with_reducible exact (ml8.mv (Mv.putM _ _ _ _) (by omega)).cells))) (fun hHeld => ?_); clear hK K; (try simp only [Act.put, List.setIfInBounds_toArray, List.set_cons_zero, List.set_cons_succ]); refine heldL_take (i := 7) (v := _) (by rfl) (by kernel_rfl) (by kernel_rfl) (by kernel_rfl) (fun _ _ _ h => h) (Or.inl ⟨by rfl, fun wS hSw => by ((try dsimp only at hSw); go_simp; rfl)⟩) (by assumption) ?_; simp only [Act.put, List.setIfInBounds_toArray, List.set_cons_zero, List.set_cons_succ]; refine heldL_step (i := 8) (by kernel_rfl) (by rfl) (fun K hK => ?_); go_simp; refine hK.out _ _ (by ((try dsimp only); (first | with_reducible exact ml8.cells | with_reducible exact ml7.cells | with_reducible exact (ml.grows (by exact bel0)).cells | with_reducible exact (ml8.mv (Mv.putM _ _ _ _) (by omega)).cells))) (fun hHeld => ?_); clear hK K; (try simp only [Act.put, List.setIfInBounds_toArray, List.set_cons_zero, List.set_cons_succ]); refine heldL_take (i := 9) (v := _) (by rfl) (by kernel_rfl) (by kernel_rfl) (by kernel_rfl) (fun _ _ _ h => h) (Or.inl ⟨by rfl, fun wS hSw => by ((try dsimp only at hSw); go_simp; (try with_reducible rfl))⟩) (by assumption) ?_; simp only [Act.put, List.setIfInBounds_toArray, List.set_cons_zero, List.set_cons_succ]; refine wpAnyH_done (by kernel_rfl) ?_ _; refine NoPanic.normal ?_)
      have o38 := o37.grows g8
      have G : Grows w w8 := Below.trans G2 (Mv.below ((hm.trans m7).right g8) (by omega) (fun g e => by omega))
      go_wp2_with fail
      refine bodyPost_ret (v := .tuple #[.agg #[.int .i64 R, .int .i64 C, .slice V l.length cv], .slice V2 (mulL 1 R C lu l).length cv2]) ?_ rfl ?_
      · simp [results, Try.results36, go_sem, e0, e1, e2, ef, el]
      · exact ⟨R, C, V, cv, l, V2, cv2, _, rfl, hl, hl2, by (have hv_ := fun g e => World.ownsRow.lt o38 g e; refine Own.less (B := ?OB90) ?_ ?_; ((repeat' (first | with_reducible exact o38 | with_reducible refine Own.alloc ?_ _ | with_reducible refine Own.drew ?_ | with_reducible refine Own.far ?_ ?_ _)); all_goals (first | omega | (simp; omega) | (intro g hg; have := hv_ g hg; (try simp only); first | omega | (simp; omega))))), by (have hv_ := fun g e => World.ownsRow.lt o8 g e; refine Own.less (B := ?OB91) ?_ ?_; ((repeat' (first | with_reducible exact o8 | with_reducible refine Own.alloc ?_ _ | with_reducible refine Own.drew ?_ | with_reducible refine Own.far ?_ ?_ _)); all_goals (first | omega | (simp; omega) | (intro g hg; have := hv_ g hg; (try simp only); first | omega | (simp; omega))))), by exact bel1 G⟩
    · clear ml_0 ml_1 ml_2 ml_l ml_f mr_0 mr_1 mr_2 mr_l mr_f
      have hlx : w1.heap.size + 1 ≤ w4.heap.size := by omega
      have ed : w6.drew.heap.size = w6.heap.size := rfl
      go_wp2_with fail
      (refine wp_region_heldL (fun W => W.cell? ⟨w4.heap.size, 0, none⟩ = some (.int .i64 R) ∧ W.cell? ⟨w4.heap.size, 1, none⟩ = some (.int .i64 C) ∧ W.cell? ⟨w4.heap.size, 2, none⟩ = some (.slice V l.length cv)) (by kernel_rfl) (by ((try dsimp only); (first | with_reducible exact ml7.cells | with_reducible exact (ml.grows (by exact bel0)).cells | with_reducible exact (ml7.mv (Mv.putM _ _ _ _) (by omega)).cells))) (fun hHeld => ?_); refine heldL_take (i := 0) (v := _) (by rfl) (by kernel_rfl) (by kernel_rfl) (by kernel_rfl) (fun _ _ _ h => h) (Or.inl ⟨by rfl, fun wS hSw => by ((try dsimp only at hSw); go_simp; (try with_reducible rfl))⟩) (by assumption) ?_; simp only [Act.put, List.setIfInBounds_toArray, List.set_cons_zero, List.set_cons_succ]; refine heldL_take (i := 1) (v := _) (by rfl) (by kernel_rfl) (by kernel_rfl) (by kernel_rfl) (fun _ _ _ h => h) (Or.inl ⟨by rfl, fun wS hSw => by ((try dsimp only at hSw); go_simp; (try with_reducible rfl))⟩) (by assumption) ?_; simp only [Act.put, List.setIfInBounds_toArray, List.set_cons_zero, List.set_cons_succ]; refine heldL_take (i := 2) (v := _) (by rfl) (by kernel_rfl) (by kernel_rfl) (by kernel_rfl) (fun _ _ _ h => h) (Or.inl ⟨by rfl, fun wS hSw => by ((try dsimp only at hSw); go_simp; (try with_reducible rfl))⟩) (by assumption) ?_; simp only [Act.put, List.setIfInBounds_toArray, List.set_cons_zero, List.set_cons_succ]; refine heldL_step (i := 3) (by kernel_rfl) (by rfl) (fun K hK => ?_); go_simp; (refine (CR.out b KN _ (by omega) (hc.grows (by exact bel0))).mono ?_; rintro e w7 ⟨V2, cv2, l2, rfl, hl2, o7, c7, g7⟩; have m7 : Mv (fun g => g = b) w6 w7 := Mv.left (by exact bel0) (Mv.by_ (S := fun g => g = b) g7 rfl); have s_w7 := m7.size; have ml7 := ml.mv m7 (by omega); have mr7 := mr.mv m7 (by omega); obtain ⟨e0, e1, e2⟩ := mr7.cells; have ef := mr7.fz; have el := mr7.lt) ; (try (go_wp2_with fail)); refine hK.out _ _ (by ((try dsimp only); (first | with_reducible exact ml7.cells | with_reducible exact (ml.grows (by exact bel0)).cells | with_reducible exact (ml7.mv (Mv.putM _ _ _ _) (by omega)).cells))) (fun hHeld => ?_); clear hK K; (try simp only [Act.put, List.setIfInBounds_toArray, List.set_cons_zero, List.set_cons_succ]); refine heldL_step (i := 4) (by kernel_rfl) (by rfl) (fun K hK => ?_); go_simp; refine hK.out _ _ (by ((try dsimp only); (first | with_reducible exact ml7.cells | with_reducible exact (ml.grows (by exact bel0)).cells | with_reducible exact (ml7.mv (Mv.putM _ _ _ _) (by omega)).cells))) (fun hHeld => ?_); clear hK K; (try simp only [Act.put, List.setIfInBounds_toArray, List.set_cons_zero, List.set_cons_succ]); refine heldL_take (i := 5) (v := _) (by rfl) (by kernel_rfl) (by kernel_rfl) (by kernel_rfl) (fun _ _ _ h => h) (Or.inl ⟨by rfl, fun wS hSw => by ((try dsimp only at hSw); go_simp; (try with_reducible rfl))⟩) (by assumption) ?_; simp only [Act.put, List.setIfInBounds_toArray, List.set_cons_zero, List.set_cons_succ]; refine wpAnyH_done (by kernel_rfl) ?_ _; refine NoPanic.normal ?_)
      have o37 := o3.mv m7 (fun g e => by have := World.ownsRow.lt o3 g e; omega)
      have G : Grows w w7 := Below.trans G2 (Mv.below (hm.trans m7) (by omega) (fun g e => by omega))
      go_wp2_with fail
      refine bodyPost_ret (v := .tuple #[.agg #[.int .i64 R, .int .i64 C, .slice V l.length cv], .slice V2 l2.length cv2]) ?_ rfl ?_
      · simp [results, Try.results36, go_sem, e0, e1, e2, ef, el]
      · exact ⟨R, C, V, cv, l, V2, cv2, l2, rfl, hl, by omega, by (have hv_ := fun g e => World.ownsRow.lt o37 g e; refine Own.less (B := ?OB92) ?_ ?_; ((repeat' (first | with_reducible exact o37 | with_reducible refine Own.alloc ?_ _ | with_reducible refine Own.drew ?_ | with_reducible refine Own.far ?_ ?_ _)); all_goals (first | omega | (simp; omega) | (intro g hg; have := hv_ g hg; (try simp only); first | omega | (simp; omega))))), by (have hv_ := fun g e => World.ownsRow.lt o7 g e; refine Own.less (B := ?OB93) ?_ ?_; ((repeat' (first | with_reducible exact o7 | with_reducible refine Own.alloc ?_ _ | with_reducible refine Own.drew ?_ | with_reducible refine Own.far ?_ ?_ _)); all_goals (first | omega | (simp; omega) | (intro g hg; have := hv_ g hg; (try simp only); first | omega | (simp; omega))))), by exact bel1 G⟩
end
end Go.Proofs.Yticmopedbgoflaa
