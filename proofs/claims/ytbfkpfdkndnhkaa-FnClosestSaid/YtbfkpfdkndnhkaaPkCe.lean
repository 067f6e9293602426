/- Contracts and lemmas, put together. -/
import Derived.Test.YtbfkpfdkndnhkaaPkDs
/- The draws: a basis and a target. -/
namespace Go.Proofs.Ytbfkpfdkndnhkaa
set_option linter.unusedSimpArgs false
set_option linter.unusedVariables false
open Go.RowKit

/-- the first cells of a row of one's own -/
theorem Own.cut {w : World} {B g n cap : Nat} {l : List Int} (h : Own w B (.slice (some ⟨g, 0, none⟩) n cap) l) {k : Nat} (hk : k ≤ l.length) : Own w B (.slice (some ⟨g, 0, none⟩) k cap) (l.take k) := by
  obtain ⟨h1, h2⟩ := h
  have hl : (l.take k).length = k := by rw [List.length_take]; omega
  refine ⟨by rw [List.length_map, hl, Nat.mul_one], ?_⟩
  rcases h2 with ⟨h', _⟩ | ⟨g', cap', cur, h', hb, hg, hn, hm, hcs, htake⟩
  · simp at h'
  · simp only [Value.slice.injEq, Option.some.injEq, Addr.mk.injEq, and_true] at h'
    obtain ⟨rfl, _, rfl⟩ := h'
    refine .inr ⟨g, cap, cur, by rw [hl], hb, hg, by omega, hm, hcs, ?_⟩
    rw [hl, List.map_take, ← htake, List.take_take, Nat.mul_one, Nat.mul_one, Nat.min_eq_left (by omega)]
section
set_option maxHeartbeats 4000000
set_option maxRecDepth 100000
theorem l21Draw_c (A : Option Addr) (n cap : Nat) (w : World) (hr : CodeR w w.heap.size A n) (hn : n ≤ 1048576) :
    Calls Try.prog 77 #[.slice A n cap] w (DMatL 10 8 w) := by
  obtain ⟨w1, hw1⟩ : ∃ w1, w1 = w.alloc (.cells #[.int .i64 0, .int .i64 0, .slice none 0 0] 26) := ⟨_, rfl⟩
  have mr : MBox w1 w.heap.size 0 0 (.slice none 0 0) := by rw [hw1]; exact MBox.mk_ _ _ _ _ _
  have g01 : Grows w w1 := by rw [hw1]; exact bel0
  have h_w1 : w1.heap.size = w.heap.size + 1 := by rw [hw1]; simp
  have CN := Lib.hid (l1New_c w1.heap.size A n cap w1 (Nat.le_refl _) (hr.up g01) hn)
  have C3 := Lib.hid fun b W h => l1Below_c w1.heap.size b A n cap 3 W (by omega) h
  have CB := Lib.hid fun b R W h1 h2 h => l18Basis_c w1.heap.size b A n cap R W h1 h2 h
  have CO := Lib.hid fun b W h => l1Once_c w1.heap.size b A n cap 3 W (by omega) h
  have CV := Lib.hid fun b R W (hR : R ≤ 3) h => l18Vector_c w1.heap.size b A n cap (R : Nat) W (by omega) h
  have HW1 := Lib.hid hw1
  clear hw1 hr
  go_enter Try.func77, Try.ntmps77
  go_wp2_with fail
  rw [← HW1.out]
  refine CN.out.mono ?_; rintro e w2 ⟨b, rfl, hc, g2⟩
  have hbl := hc.lt
  have hlo := hc.lo
  have s_w2 := Below.size g2
  replace mr := mr.grows g2
  have G2 : Grows w w2 := by exact bel2 g2 g01
  have hm : Mv (fun g => g = b) w2 w2 := Mv.refl _
  clear g2 g01
  have mr_0 := mr.c0; have mr_1 := mr.c1; have mr_2 := mr.c2; have mr_l := mr.lt; have mr_f := mr.fz
  go_wp2_with fail
  refine (C3.out b _ hc).mono ?_; rintro e w3 ⟨x0, rfl, hx0, c_w3, g_w3⟩
  have m_w3 : Mv (fun g => g = b) w2 w3 := Mv.left (by exact bel0) (Mv.by_ (S := fun g => g = b) g_w3 rfl)
  have s_w3 := m_w3.size
  clear mr_0 mr_1 mr_2 mr_l mr_f
  replace mr := mr.mv m_w3 (by omega)
  have mr_0 := mr.c0; have mr_1 := mr.c1; have mr_2 := mr.c2; have mr_l := mr.lt; have mr_f := mr.fz
  clear hc; have hc := c_w3; clear c_w3
  replace hm := hm.trans m_w3
  have h_w3 := hm.size
  clear m_w3 g_w3
  obtain ⟨R, hR⟩ : ∃ R : Nat, 1 + (x0 : Int) = (R : Int) := ⟨1 + x0, by omega⟩
  have HRx := Lib.hid hR
  have hR3 : R ≤ 3 := by omega
  have hR1 : 1 ≤ R := by omega
  have hx3 : (x0 : Int) ≤ 2 := by omega
  clear hR hx0
  go_wp2_with fail
  rw [HRx.out]
  refine (CB.out b R _ hR3 hR1 hc).mono ?_; rintro e w4 ⟨V, cv, l, rfl, hl, hbd, o3, c_w4, g_w4⟩
  have m_w4 : Mv (fun g => g = b) w3 w4 := Mv.left (by exact bel0) (Mv.by_ (S := fun g => g = b) g_w4 rfl)
  have s_w4 := m_w4.size
  clear mr_0 mr_1 mr_2 mr_l mr_f
  replace mr := mr.mv m_w4 (by omega)
  have mr_0 := mr.c0; have mr_1 := mr.c1; have mr_2 := mr.c2; have mr_l := mr.lt; have mr_f := mr.fz
  clear hc; have hc := c_w4; clear c_w4
  replace hm := hm.trans m_w4
  have h_w4 := hm.size
  clear m_w4 g_w4
  have HL := Lib.hid hl
  have hRR : R * R ≤ 9 := Nat.mul_le_mul hR3 hR3
  have hRR1 : 1 ≤ R * R := Nat.mul_pos hR1 hR1
  obtain ⟨gv, cv', ev, hgv3, hgv4⟩ := o3.form (by omega)
  simp only [Value.slice.injEq] at ev
  obtain ⟨rfl, -, rfl⟩ := ev
  clear hl hbd
  go_wp2_with fail
  refine (CO.out b _ (by exact hc.grows (by exact bel0))).mono ?_; rintro e w5 ⟨t, rfl, c_w5, g_w5⟩
  have m_w5 : Mv (fun g => g = b) w4 w5 := Mv.left (by exact bel0) (Mv.by_ (S := fun g => g = b) g_w5 rfl)
  have s_w5 := m_w5.size
  clear mr_0 mr_1 mr_2 mr_l mr_f
  replace mr := mr.mv m_w5 (by omega)
  have mr_0 := mr.c0; have mr_1 := mr.c1; have mr_2 := mr.c2; have mr_l := mr.lt; have mr_f := mr.fz
  replace o3 := o3.mv m_w5 (fun g e => by have := World.ownsRow.lt o3 g e; omega)
  have mb : MBox w5 (w4.heap.size) (R : Int) (R : Int) (.slice (some ⟨gv, 0, none⟩) (R * R) cv) := MBox.mv (MBox.new_ w4 (R : Int) (R : Int) (.slice (some ⟨gv, 0, none⟩) (R * R) cv) 26 (by simp)) (Mv.left (by exact bel0) (Mv.by_ (S := fun g => g = b) g_w5 rfl)) (by omega)
  have mb_0 := mb.c0; have mb_1 := mb.c1; have mb_2 := mb.c2; have mb_l := mb.lt; have mb_f := mb.fz
  clear hc; have hc := c_w5; clear c_w5
  replace hm := hm.trans m_w5
  have h_w5 := hm.size
  clear m_w5 g_w5
  have hgv := World.ownsRow.lt o3 gv rfl
  obtain ⟨-, hcv, hcv2⟩ := o3.caps
  have hmb := mb.lt
  by_cases hD : t = true ∧ 2 ≤ R
  all_goals
   first
   | (
    obtain ⟨rfl, hR2⟩ := hD
    have i1 : (1 : Int) < (R : Int) := by omega
    obtain ⟨Q, hQ⟩ : ∃ Q : Nat, (R : Int) - 1 = (Q : Int) := ⟨R - 1, by omega⟩
    have hQR : Q * R ≤ R * R := Nat.mul_le_mul_right R (by omega)
    obtain ⟨P, hP⟩ : ∃ P : Nat, (Q : Int) * (R : Int) = (P : Int) := ⟨Q * R, by simp⟩
    have hPl : P ≤ l.length := by
      have e : ((Q * R : Nat) : Int) = (P : Int) := by rw [Int.natCast_mul]; exact hP
      have := HL.out
      omega
    have hc9 : l.length ≤ 9 := by have := HL.out; omega
    have hPc : (P : Int) ≤ (cv : Int) := by have := HL.out; omega
    have hPc2 : P ≤ cv := by omega
    have hQ2 : (Q : Int) ≤ 2 := by omega
    have kQ : IntKind.i64.wrap (Q : Int) = (Q : Int) := IntWalk.i64_in _ (by omega)
    have kP : IntKind.i64.wrap (P : Int) = (P : Int) := IntWalk.i64_in _ (by omega)
    clear hQR hx3 hR2
    dsimp only
    go_wp2_with fail
    (refine wp_region_held_last 15 (fun W => W.cell? ⟨w4.heap.size, 0, none⟩ = some (.int .i64 R) ∧ W.cell? ⟨w4.heap.size, 1, none⟩ = some (.int .i64 R) ∧ W.cell? ⟨w4.heap.size, 2, none⟩ = some (.slice (some ⟨gv, 0, none⟩) (R * R) cv)) (by rfl) (by kernel_rfl) (by kernel_rfl) (by ((try dsimp only); (exact (mb.grows (by exact bel0)).cells))) (fun hHeld => ?_); simp only [List.take_succ_cons, List.take_zero]; refine heldL_take (i := 0) (v := _) (by rfl) (by kernel_rfl) (by kernel_rfl) (by kernel_rfl) (fun _ _ _ h => h) (Or.inl ⟨by rfl, fun wS hSw => by ((try dsimp only at hSw); go_simp; (try with_reducible rfl))⟩) (by assumption) ?_; simp only [Act.put, List.setIfInBounds_toArray, List.set_cons_zero, List.set_cons_succ]; refine heldL_take (i := 1) (v := _) (by rfl) (by kernel_rfl) (by kernel_rfl) (by kernel_rfl) (fun _ _ _ h => h) (Or.inl ⟨by rfl, fun wS hSw => by ((try dsimp only at hSw); go_simp; (try with_reducible rfl))⟩) (by assumption) ?_; simp only [Act.put, List.setIfInBounds_toArray, List.set_cons_zero, List.set_cons_succ]; refine heldL_take (i := 2) (v := _) (by rfl) (by kernel_rfl) (by kernel_rfl) (by kernel_rfl) (fun _ _ _ h => h) (Or.inl ⟨by rfl, fun wS hSw => by ((try dsimp only at hSw); go_simp; (try with_reducible rfl))⟩) (by assumption) ?_; simp only [Act.put, List.setIfInBounds_toArray, List.set_cons_zero, List.set_cons_succ]; refine heldL_take (i := 3) (v := _) (by rfl) (by kernel_rfl) (by kernel_rfl) (by kernel_rfl) (fun _ _ _ h => h) (Or.inl ⟨by rfl, fun wS hSw => by ((try dsimp only at hSw); go_simp; (try with_reducible rfl))⟩) (by assumption) ?_; simp only [Act.put, List.setIfInBounds_toArray, List.set_cons_zero, List.set_cons_succ]; refine heldL_take (i := 4) (v := _) (by rfl) (by kernel_rfl) (by kernel_rfl) (by kernel_rfl) (fun _ _ _ h => h) (Or.inl ⟨by rfl, fun wS hSw => by ((try dsimp only at hSw); go_simp; (try with_reducible rfl))⟩) (by assumption) ?_; simp only [Act.put, List.setIfInBounds_toArray, List.set_cons_zero, List.set_cons_succ]; refine heldL_take (i := 5) (v := _) (by rfl) (by kernel_rfl) (by kernel_rfl) (by kernel_rfl) (fun _ _ _ h => h) (Or.inl ⟨by rfl, fun wS hSw => by ((try dsimp only at hSw); go_simp; (try with_reducible rfl))⟩) (by assumption) ?_; simp only [Act.put, List.setIfInBounds_toArray, List.set_cons_zero, List.set_cons_succ]; refine heldL_take (i := 6) (v := _) (by rfl) (by kernel_rfl) (by kernel_rfl) (by kernel_rfl) (fun _ _ _ h => h) (Or.inl ⟨by rfl, fun wS hSw => by ((try dsimp only at hSw); go_simp; (try with_reducible rfl))⟩) (by assumption) ?_; simp only [Act.put, List.setIfInBounds_toArray, List.set_cons_zero, List.set_cons_succ]; refine heldL_take (i := 7) (v := _) (by rfl) (by kernel_rfl) (by kernel_rfl) (by kernel_rfl) (fun _ _ _ h => h) (Or.inl ⟨by rfl, fun wS hSw => by ((try dsimp only at hSw); go_simp; (try with_reducible rfl))⟩) (by assumption) ?_; simp only [Act.put, List.setIfInBounds_toArray, List.set_cons_zero, List.set_cons_succ]; refine heldL_take (i := 8) (v := _) (by rfl) (by kernel_rfl) (by kernel_rfl) (by kernel_rfl) (fun _ _ _ h => h) (Or.inl ⟨by rfl, fun wS hSw => by ((try dsimp only at hSw); go_simp; (try with_reducible rfl))⟩) (by assumption) ?_; simp only [Act.put, List.setIfInBounds_toArray, List.set_cons_zero, List.set_cons_succ]; refine heldL_take (i := 9) (v := _) (by rfl) (by kernel_rfl) (by kernel_rfl) (by kernel_rfl) (fun _ _ _ h => h) (Or.inl ⟨by rfl, fun wS hSw => by ((try dsimp only at hSw); go_simp; (try with_reducible rfl))⟩) (by assumption) ?_; simp only [Act.put, List.setIfInBounds_toArray, List.set_cons_zero, List.set_cons_succ]; refine heldL_take (i := 10) (v := _) (by rfl) (by kernel_rfl) (by kernel_rfl) (by kernel_rfl) (fun _ _ _ h => h) (Or.inl ⟨by rfl, fun wS hSw => by ((try dsimp only at hSw); go_simp; (try with_reducible rfl))⟩) (by assumption) ?_; simp only [Act.put, List.setIfInBounds_toArray, List.set_cons_zero, List.set_cons_succ]; refine heldL_take (i := 11) (v := _) (by rfl) (by kernel_rfl) (by kernel_rfl) (by kernel_rfl) (fun _ _ _ h => h) (Or.inl ⟨by rfl, fun wS hSw => by ((try dsimp only at hSw); go_simp; (try with_reducible rfl))⟩) (by assumption) ?_; simp only [Act.put, List.setIfInBounds_toArray, List.set_cons_zero, List.set_cons_succ]; refine heldL_take (i := 12) (v := _) (by rfl) (by kernel_rfl) (by kernel_rfl) (by kernel_rfl) (fun _ _ _ h => h) (Or.inl ⟨by rfl, fun wS hSw => by ((try dsimp only at hSw); go_simp; (try with_reducible rfl))⟩) (by assumption) ?_; simp only [Act.put, List.setIfInBounds_toArray, List.set_cons_zero, List.set_cons_succ]; refine heldL_take (i := 13) (v := _) (by rfl) (by kernel_rfl) (by kernel_rfl) (by kernel_rfl) (fun _ _ _ h => h) (Or.inl ⟨by rfl, fun wS hSw => by ((try dsimp only at hSw); go_simp; (try with_reducible rfl))⟩) (by assumption) ?_; simp only [Act.put, List.setIfInBounds_toArray, List.set_cons_zero, List.set_cons_succ]; refine heldL_take (i := 14) (v := _) (by rfl) (by kernel_rfl) (by kernel_rfl) (by kernel_rfl) (fun _ _ _ h => h) (Or.inl ⟨by rfl, fun wS hSw => by ((try dsimp only at hSw); go_simp; (try with_reducible rfl))⟩) (by assumption) ?_; simp only [Act.put, List.setIfInBounds_toArray, List.set_cons_zero, List.set_cons_succ]; refine wpAnyH_done (by kernel_rfl) ?_ _; refine lastQ_go ?_)
    go_wp2_with fail
    obtain ⟨w7, hw7⟩ : ∃ w7, w7 = (((w5.setCell ⟨w4.heap.size, 0, none⟩ (.int .i64 Q)).setCell ⟨w4.heap.size, 1, none⟩ (.int .i64 R)).setCell ⟨w4.heap.size, 2, none⟩ (.slice (some ⟨gv, 0, none⟩) P cv)).drew := ⟨_, rfl⟩
    rw [← hw7]
    have PK : ∃ (r7 : Int) (n7 : Nat) (l7 : List Int), (-1 ≤ r7 ∧ r7 ≤ 7) ∧ l7.length = n7 ∧ n7 ≤ 9 ∧ MBox w7 w4.heap.size r7 (R : Int) (.slice (some ⟨gv, 0, none⟩) n7 cv) ∧ Own w7 w3.heap.size (.slice (some ⟨gv, 0, none⟩) n7 cv) l7 ∧ Cur w7 w1.heap.size b A n cap ∧ Mv (fun g => g = b) w2 w7 ∧ MBox w7 w.heap.size 0 0 (.slice none 0 0) ∧ w5.heap.size ≤ w7.heap.size := by
      have mvs : Mv (fun g => g = w4.heap.size) w5 w7 := by
        rw [hw7]
        exact (Mv.putM (b := w4.heap.size) w5 _ _ _).right (by exact bel0)
      have bx : MBox w7 w4.heap.size (Q : Int) (R : Int) (.slice (some ⟨gv, 0, none⟩) P cv) := by
        rw [hw7]
        exact (mb.put (Q : Int) (R : Int) _).grows (by exact bel0)
      have ow := (o3.mv mvs (fun g e => by have e2 : gv = g := Option.some.inj e; omega)).cut (k := P) hPl
      exact ⟨Q, P, l.take P, by omega, by rw [List.length_take]; omega, by omega, bx, ow, hc.mv mvs (by omega) (fun g e => by omega), hm.over mvs (fun g e => by omega), mr.mv mvs (by omega), mvs.size⟩
    clear mb_0 mb_1 mb_2 mb_l mb_f mr_0 mr_1 mr_2 mr_l mr_f hQ hP hPl hPc hPc2 hQ2 kQ kP i1 hw7)
   | (
    have HC := Lib.hid hD
    cases t
    all_goals (
      first | have hR2' : ¬ (1 : Int) < (R : Int) := fun e => HC.out ⟨rfl, by omega⟩ | skip
      clear hD
      go_wp2_with fail
      obtain ⟨w7, hw7⟩ : ∃ w7, w7 = w5 := ⟨_, rfl⟩
      rw [← hw7]
      have PK : ∃ (r7 : Int) (n7 : Nat) (l7 : List Int), (-1 ≤ r7 ∧ r7 ≤ 7) ∧ l7.length = n7 ∧ n7 ≤ 9 ∧ MBox w7 w4.heap.size r7 (R : Int) (.slice (some ⟨gv, 0, none⟩) n7 cv) ∧ Own w7 w3.heap.size (.slice (some ⟨gv, 0, none⟩) n7 cv) l7 ∧ Cur w7 w1.heap.size b A n cap ∧ Mv (fun g => g = b) w2 w7 ∧ MBox w7 w.heap.size 0 0 (.slice none 0 0) ∧ w5.heap.size ≤ w7.heap.size := by
        rw [hw7]
        exact ⟨(R : Int), R * R, l, by omega, HL.out, hRR, mb, o3, hc, hm, mr, Nat.le_refl _⟩
      clear hw7 mb_0 mb_1 mb_2 mb_l mb_f mr_0 mr_1 mr_2 mr_l mr_f))
  all_goals (
    clear mb mr hc hm o3
    obtain ⟨r7, n7, l7, hr7, hl7, hn7, mb7, o7, c7, mv7, mr7, hs7⟩ := PK
    have HL7 := Lib.hid hl7
    have CS := Lib.hid fun W hcur hown (hK : w3.heap.size ≤ W.heap.size) => l3Spoil_c w1.heap.size b A n cap w3.heap.size r7 (R : Int) (some ⟨gv, 0, none⟩) n7 cv l7 W hcur hown hl7 (by omega) (by omega) (fun g e => by have e2 : gv = g := Option.some.inj e; omega) hK hr7
    have ed : w7.drew.heap.size = w7.heap.size := rfl
    clear hl7
    (refine wp_region_heldL (fun W => W.cell? ⟨w4.heap.size, 0, none⟩ = some (.int .i64 r7) ∧ W.cell? ⟨w4.heap.size, 1, none⟩ = some (.int .i64 R) ∧ W.cell? ⟨w4.heap.size, 2, none⟩ = some (.slice (some ⟨gv, 0, none⟩) n7 cv)) (by kernel_rfl) (by ((try dsimp only); (first | with_reducible exact mb9.cells | with_reducible exact mb8.cells | with_reducible exact (mb7.grows (by exact bel0)).cells | with_reducible exact (mb9.mv (Mv.putM _ _ _ _) (by omega)).cells))) (fun hHeld => ?_); refine heldL_take (i := 0) (v := _) (by rfl) (by kernel_rfl) (by kernel_rfl) (by kernel_rfl) (fun _ _ _ h => h) (Or.inl ⟨by rfl, fun wS hSw => by ((try dsimp only at hSw); go_simp; (try with_reducible rfl))⟩) (by assumption) ?_; simp only [Act.put, List.setIfInBounds_toArray, List.set_cons_zero, List.set_cons_succ]; refine heldL_take (i := 1) (v := _) (by rfl) (by kernel_rfl) (by kernel_rfl) (by kernel_rfl) (fun _ _ _ h => h) (Or.inl ⟨by rfl, fun wS hSw => by ((try dsimp only at hSw); go_simp; (try with_reducible rfl))⟩) (by assumption) ?_; simp only [Act.put, List.setIfInBounds_toArray, List.set_cons_zero, List.set_cons_succ]; refine heldL_take (i := 3) (v := _) (by rfl) (by kernel_rfl) (by kernel_rfl) (by kernel_rfl) (fun _ _ _ h => h) (Or.inl ⟨by rfl, fun wS hSw => by ((try dsimp only at hSw); go_simp; (try with_reducible rfl))⟩) (by assumption) ?_; simp only [Act.put, List.setIfInBounds_toArray, List.set_cons_zero, List.set_cons_succ]; refine heldL_take (i := 4) (v := _) (by rfl) (by kernel_rfl) (by kernel_rfl) (by kernel_rfl) (fun _ _ _ h => h) (Or.inl ⟨by rfl, fun wS hSw => by ((try dsimp only at hSw); go_simp; (try with_reducible rfl))⟩) (by assumption) ?_; simp only [Act.put, List.setIfInBounds_toArray, List.set_cons_zero, List.set_cons_succ]; refine heldL_take (i := 5) (v := _) (by rfl) (by kernel_rfl) (by kernel_rfl) (by kernel_rfl) (fun _ _ _ h => h) (Or.inl ⟨by rfl, fun wS hSw => by ((try dsimp only at hSw); go_simp; (try with_reducible rfl))⟩) (by assumption) ?_; simp only [Act.put, List.setIfInBounds_toArray, List.set_cons_zero, List.set_cons_succ]; refine heldL_step (i := 2) (by kernel_rfl) (by rfl) (fun K hK => ?_); go_simp; (refine (CS.out _ (c7.grows (by exact bel0)) (o7.grows (by exact bel0)) (by omega)).mono ?_; rintro e w8 ⟨r9, c9, V9, cv9, l9, rfl, hr9, hl9, o9, c8, m8, _⟩; have m78 : Mv (fun g => g = b ∨ (Value.slice (some ⟨gv, 0, none⟩) n7 cv).ownBlock = some g) w7 w8 := Mv.left (by exact bel0) m8; have s_w8 := m78.size; have nb : ∀ g, (g = b ∨ (Value.slice (some ⟨gv, 0, none⟩) n7 cv).ownBlock = some g) → g = b ∨ g = gv := (fun g e => by rcases e with e | e; exact .inl e; exact .inr (Option.some.inj e).symm); have mb8 := mb7.mv m78 (fun e => by have := nb _ e; omega); have mr8 := mr7.mv m78 (fun e => by have := nb _ e; omega); have mv8 := mv7.over m78 (fun g e => by have := nb _ e; omega)) ; (try (go_wp2_with fail)); refine hK.out _ _ (by ((try dsimp only); (first | with_reducible exact mb9.cells | with_reducible exact mb8.cells | with_reducible exact (mb7.grows (by exact bel0)).cells | with_reducible exact (mb9.mv (Mv.putM _ _ _ _) (by omega)).cells))) (fun hHeld => ?_); clear hK K; (try simp only [Act.put, List.setIfInBounds_toArray, List.set_cons_zero, List.set_cons_succ]); refine heldL_step (i := 6) (by kernel_rfl) (by rfl) (fun K hK => ?_); go_simp; (refine (CV.out b R _ hR3 (c8.grows (by exact bel0))).mono ?_; rintro e w9 ⟨V2, cv2, l2, rfl, hl2, o2, cc9, g9⟩; have m9 : Mv (fun g => g = b) w8 w9 := Mv.left (by exact bel0) (Mv.by_ (S := fun g => g = b) g9 rfl); have s_w9 := m9.size; have mb9 := mb8.mv m9 (by omega); have mr9 := mr8.mv m9 (by omega); have o99 := o9.mv m9 (fun g e => by have := World.ownsRow.lt o9 g e; omega); obtain ⟨e0, e1, e2⟩ := mr9.cells; have ef := mr9.fz; have el := mr9.lt) ; (try (go_wp2_with fail)); refine hK.out _ _ (by ((try dsimp only); (first | with_reducible exact mb9.cells | with_reducible exact mb8.cells | with_reducible exact (mb7.grows (by exact bel0)).cells | with_reducible exact (mb9.mv (Mv.putM _ _ _ _) (by omega)).cells))) (fun hHeld => ?_); clear hK K; (try simp only [Act.put, List.setIfInBounds_toArray, List.set_cons_zero, List.set_cons_succ]); refine heldL_step (i := 7) (by kernel_rfl) (by rfl) (fun K hK => ?_); go_simp; refine hK.out _ _ (by ((try dsimp only); (first | with_reducible exact mb9.cells | with_reducible exact mb8.cells | with_reducible exact (mb7.grows (by exact bel0)).cells | with_reducible exact (mb9.mv (Mv.putM _ _ _ _) (by omega)).cells))) (fun hHeld => ?_); clear hK K; (try simp only [Act.put, List.setIfInBounds_toArray, List.set_cons_zero, List.set_cons_succ]); refine heldL_take (i := 8) (v := _) (by rfl) (by kernel_rfl) (by kernel_rfl) (by kernel_rfl) (fun _ _ _ h => h) (Or.inl ⟨by rfl, fun wS hSw => by ((try dsimp only at hSw); go_simp; (try with_reducible rfl))⟩) (by assumption) ?_; simp only [Act.put, List.setIfInBounds_toArray, List.set_cons_zero, List.set_cons_succ]; refine wpAnyH_done (by kernel_rfl) ?_ _; refine NoPanic.normal ?_)
    have G : Grows w w9 := Below.trans G2 (Mv.below (mv8.trans m9) (by omega) (fun g e => by omega))
    go_wp2_with fail
    refine bodyPost_ret (v := .tuple #[.agg #[.int .i64 r9, .int .i64 c9, .slice V9 l9.length cv9], .slice V2 l2.length cv2]) ?_ rfl ?_
    · have hl2' : l2.length = R := by rw [hl2]; simp
      simp [results, Try.results77, go_sem, e0, e1, e2, ef, el, hl2']
    · refine ⟨r9, c9, V9, cv9, l9, V2, cv2, l2, rfl, by omega, by (rw [hl2]; simp; omega), ?_, ?_, by exact bel1 G⟩
      · refine Own.less (B := w3.heap.size) ?_ (by omega)
        ((repeat' (first | with_reducible exact o99 | with_reducible refine Own.alloc ?_ _ | with_reducible refine Own.drew ?_ | with_reducible refine Own.far ?_ ?_ _)); all_goals (intro g hg; have := World.ownsRow.lt o99 g hg; (try simp only); omega))
      · refine Own.less (B := w8.heap.size) ?_ (by omega)
        ((repeat' (first | with_reducible exact o2 | with_reducible refine Own.alloc ?_ _ | with_reducible refine Own.drew ?_ | with_reducible refine Own.far ?_ ?_ _)); all_goals (intro g hg; have := World.ownsRow.lt o2 g hg; (try simp only); omega)))
theorem drawClo_c (A : Option Addr) (n cap : Nat) (w : World) (hr : CodeR w w.heap.size A n) (hn : n ≤ 1048576) :
    Calls Try.prog 36 #[.slice A n cap] w (DMatL 10 8 w) := by
  obtain ⟨w1, hw1⟩ : ∃ w1, w1 = w.alloc (.cells #[.int .i64 0, .int .i64 0, .slice none 0 0] 26) := ⟨_, rfl⟩
  have mr : MBox w1 w.heap.size 0 0 (.slice none 0 0) := by rw [hw1]; exact MBox.mk_ _ _ _ _ _
  have g01 : Grows w w1 := by rw [hw1]; exact bel0
  have h_w1 : w1.heap.size = w.heap.size + 1 := by rw [hw1]; simp
  have CD := Lib.hid (l21Draw_c A n cap w1 (hr.up g01) hn)
  have HW1 := Lib.hid hw1
  clear hw1 hr
  go_enter Try.func36, Try.ntmps36
  go_wp2_with fail
  rw [← HW1.out]
  refine CD.out.mono ?_; rintro e w2 ⟨r, c, V, cv, l, V2, cv2, l2, rfl, hl, hl2, o, o2, g⟩
  have mr2 := mr.grows g
  obtain ⟨m0, m1, m2⟩ := mr2.cells
  have mf := mr2.fz
  have ml := mr2.lt
  have h1 := fun g e => World.ownsRow.lt o g e
  have h2 := fun g e => World.ownsRow.lt o2 g e
  go_wp2_with fail
  refine bodyPost_ret (v := .tuple #[.agg #[.int .i64 r, .int .i64 c, .slice V l.length cv], .slice V2 l2.length cv2]) ?_ rfl ?_
  · simp [results, Try.results36, go_sem, m0, m1, m2, mf, ml]
  · refine ⟨r, c, V, cv, l, V2, cv2, l2, rfl, hl, hl2, ?_, ?_, by exact bel2 g g01⟩
    · refine Own.less (B := w1.heap.size) ?_ (by omega)
      ((repeat' (first | with_reducible exact o | with_reducible refine Own.far ?_ ?_ _)); all_goals (intro g hg; have := h1 g hg; (try simp only); omega))
    · refine Own.less (B := w1.heap.size) ?_ (by omega)
      ((repeat' (first | with_reducible exact o2 | with_reducible refine Own.far ?_ ?_ _)); all_goals (intro g hg; have := h2 g hg; (try simp only); omega))
end
end Go.Proofs.Ytbfkpfdkndnhkaa
