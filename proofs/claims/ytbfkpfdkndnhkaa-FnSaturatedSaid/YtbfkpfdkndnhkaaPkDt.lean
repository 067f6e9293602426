/- Contracts and lemmas, put together. -/
import Derived.Test.YtbfkpfdkndnhkaaPkDs
/- The draws: any matrix; a form and a vector. -/
namespace Go.Proofs.Ytbfkpfdkndnhkaa
set_option linter.unusedSimpArgs false
set_option linter.unusedVariables false
open Go.RowKit

/-- a matrix drawn from a code -/
def DMatC (m : Nat) (w : World) (e : Ending) (w' : World) : Prop := ∃ (r c : Int) (V : Option Addr) (cv : Nat) (l : List Int), e = .returned (.agg #[.int .i64 r, .int .i64 c, .slice V l.length cv]) ∧ (-1 ≤ r ∧ r ≤ 8) ∧ l.length ≤ m ∧ Own w' w.heap.size (.slice V l.length cv) l ∧ Grows w w'
/-- a matrix and a vector of as many cells as it has rows, drawn from a code -/
def DMatV (w : World) (e : Ending) (w' : World) : Prop := ∃ (r c : Int) (V : Option Addr) (cv : Nat) (l : List Int) (V2 : Option Addr) (cv2 : Nat) (l2 : List Int), e = .returned (.tuple #[.agg #[.int .i64 r, .int .i64 c, .slice V l.length cv], .slice V2 l2.length cv2]) ∧ (-1 ≤ r ∧ r ≤ 8) ∧ l.length ≤ 10 ∧ l2.length = r.toNat ∧ Own w' w.heap.size (.slice V l.length cv) l ∧ Own w' w.heap.size (.slice V2 l2.length cv2) l2 ∧ Grows w w'
section
set_option maxHeartbeats 4000000
set_option maxRecDepth 10000
theorem l3Any_c (B b : Nat) (A : Option Addr) (n cap : Nat) (w : World) (h : Cur w B b A n cap) :
    Calls Try.prog 42 #[.pointer (some ⟨b, 0, none⟩)] w (DMatG B b A n cap 17 w) := by
  obtain ⟨w1, hw1⟩ : ∃ w1, w1 = w.alloc (.cells #[.int .i64 0, .int .i64 0, .slice none 0 0] 26) := ⟨_, rfl⟩
  have mbr : MBox w1 w.heap.size 0 0 (.slice none 0 0) := by rw [hw1]; exact MBox.mk_ _ _ _ _ _
  have g01 : Grows w w1 := by rw [hw1]; exact bel0
  have hs1 : w1.heap.size = w.heap.size + 1 := by rw [hw1]; simp
  have hbl := h.lt
  have hlo := h.lo
  have h1 := h.grows g01
  have C5 := Lib.hid fun W h => l1Below_c B b A n cap 5 W (by omega) h
  have CO4 := Lib.hid fun W h => l1Once_c B b A n cap 4 W (by omega) h
  have CD := Lib.hid fun R C M W h1 h2 h3 h => l3Draw_c B b A n cap R C M W h1 h2 h3 h
  have HW1 := Lib.hid hw1
  clear hw1
  go_enter Try.func42, Try.ntmps42
  go_wp2_with fail
  rw [← HW1.out]
  refine (C5.out _ h1).mono ?_; rintro e w2 ⟨R, rfl, hR, c2, g2⟩
  go_wp2_with fail
  refine (C5.out _ c2).mono ?_; rintro e w3 ⟨C, rfl, hC, c3, g3⟩
  have hs2 := g2.size
  have hs3 := g3.size
  obtain ⟨w4, hw4⟩ : ∃ w4, w4 = w3.alloc (.cells #[.int .i64 1, .int .i64 3, .int .i64 9] 3) := ⟨_, rfl⟩
  have g34 : Grows w3 w4 := by rw [hw4]; exact bel0
  have hr4 : Rd w4 (some ⟨w3.heap.size, 0, none⟩) [1, 3, 9] := by
    rw [hw4]
    intro i hi
    refine ⟨w3.heap.size, 0, rfl, by simp, ?_⟩
    simp only [List.length_cons, List.length_nil] at hi
    rcases i with _ | _ | _ | i <;> first | omega | simp [go_sem, nth]
  have CP := Lib.hid (l1PickInt_c B b A n cap (some ⟨w3.heap.size, 0, none⟩) _ 3 3 w4 rfl (by omega) (by omega) hr4 (fun a e => by cases e; simp; omega) (c3.grows g34))
  have HW4 := Lib.hid hw4
  clear hw4 hr4
  go_wp2_with fail
  rw [← HW4.out]
  refine CP.out.mono ?_; rintro e w5 ⟨yi, hyi, rfl, c5, g5⟩
  have hs4 := Below.size g34
  have hs5 := g5.size
  obtain ⟨M, hM, hM9⟩ : ∃ M : Nat, nth [1, 3, 9] yi = (M : Int) ∧ M ≤ 9 := by
    simp only [List.length_cons, List.length_nil] at hyi
    rcases yi with _ | _ | _ | yi <;> first | omega | exact ⟨1, rfl, by omega⟩ | exact ⟨3, rfl, by omega⟩ | exact ⟨9, rfl, by omega⟩
  rw [hM]
  clear hM hyi
  have hR4 : R ≤ 4 := by omega
  have hC4 : C ≤ 4 := by omega
  have hRi : (R : Int) ≤ 4 := by omega
  have hCi : (C : Int) ≤ 4 := by omega
  go_wp2_with fail
  refine (CD.out R C M _ hR4 hC4 (by omega) c5).mono ?_; rintro e w6 ⟨V6, cv6, l6, rfl, hl6, _, o6, c6, g6⟩
  have hs6 := g6.size
  obtain ⟨w7, hw7⟩ : ∃ w7, w7 = w6.alloc (.cells #[.int .i64 R, .int .i64 C, .slice V6 (R * C) cv6] 26) := ⟨_, rfl⟩
  have mb7 : MBox w7 w6.heap.size R C (.slice V6 (R * C) cv6) := by rw [hw7]; exact MBox.mk_ _ _ _ _ _
  have g67 : Grows w6 w7 := by rw [hw7]; exact bel0
  have HW7 := Lib.hid hw7
  have hs7 := Below.size g67
  have o7 := (o6.grows g67).less (show w.heap.size + 1 ≤ _ by omega)
  have c7 := c6.grows g67
  have mbr7 := ((((mbr.by_ g2 (by omega)).by_ g3 (by omega)).grows g34).by_ g5 (by omega) |>.by_ g6 (by omega)).grows g67
  have mv7 : Mv (fun g => g = b) w w7 := ((((Mv.left g01 (Mv.by_ (S := fun g => g = b) g2 rfl)).trans (Mv.by_ (S := fun g => g = b) g3 rfl)).right g34).trans (Mv.by_ (S := fun g => g = b) g5 rfl) |>.trans (Mv.by_ (S := fun g => g = b) g6 rfl)).right g67
  have hRC : R * C ≤ 16 := Nat.mul_le_mul hR4 hC4
  have HL7 := Lib.hid hl6
  have hw6 : w.heap.size + 1 ≤ w6.heap.size := by omega
  have HV0 := Lib.hid fun g e => (World.ownsRow.lt o6 g e).2
  clear hw7 o6 c6 mbr g6 g5 g34 g3 g2 c5 c3 c2 h1 g01 hl6 h hs1 hs2 hs3 hs4 hs5 hs6 HW4 CP
  have CSP := Lib.hid fun l W (hl : l.length = R * C) hc ho (hK : w.heap.size + 1 ≤ W.heap.size) hne => l3Spoil_c B b A n cap (w.heap.size + 1) R C V6 (R * C) cv6 l W hc ho hl (by omega) (by omega) hne hK (by omega)
  have hV6 : ∀ g, (Value.slice V6 (R * C) cv6).ownBlock = some g → g ≠ b := fun g e => by have := World.ownsRow.lt o7 g e; omega
  have HV6 := Lib.hid hV6
  clear hV6
  by_cases hR2 : 1 < R
  rotate_left
  · have hR2' : ¬ (1 : Int) < (R : Int) := by omega
    obtain ⟨d0, d1, d2⟩ := mb7.cells
    go_wp2_with fail
    rw [← HW7.out]
    refine (CSP.out l6 _ HL7.out c7 o7 (by omega) HV6.out).mono ?_; rintro e wz ⟨r9, c9, V9, cv9, l9, rfl, hr9, hl9, o9, cz, mvz, _⟩
    have hvz := fun g e => World.ownsRow.lt o9 g e
    have hvs := fun g e => (World.ownsRow.lt o7 g e).1
    have mbz := mbr7.mv mvz (fun e => by rcases e with e | e; omega; have := hvs _ e; omega)
    have mvw := mv7.over mvz (fun g e => by rcases e with e | e; exact .inr e; have := hvs _ e; exact .inl (by omega))
    clear d0 d1 d2
    obtain ⟨d0, d1, d2⟩ := mbz.cells
    have df := mbz.fz
    have dl := mbz.lt
    go_wp2_with fail
    refine bodyPost_ret (v := .agg #[.int .i64 r9, .int .i64 c9, .slice V9 l9.length cv9]) ?_ rfl ?_
    · simp [results, Try.results42, go_sem, d0, d1, d2, df, dl]
    · refine ⟨r9, c9, V9, cv9, l9, rfl, hr9, by omega, ?_, ?_, ?_⟩
      · refine Own.less (B := w.heap.size + 1) ?_ (by omega)
        ((repeat' (first | with_reducible exact o9 | with_reducible refine Own.far ?_ ?_ _)); all_goals (intro g hg; have := hvz g hg; (try simp only); omega))
      · ((repeat' (first | with_reducible exact cz | with_reducible refine Cur.put_ ?_ ?_ ?_ _)); all_goals ((try simp only); omega))
      · refine Mv.by2 (S := fun g => g = b) ?_ (fun g _ e => e)
        ((repeat' (first | with_reducible exact mvw | with_reducible refine Mv.put ?_ (.inl ?_) _)); all_goals ((try simp only); omega))
  · have hR2' : (1 : Int) < (R : Int) := by omega
    obtain ⟨d0, d1, d2⟩ := mb7.cells
    go_wp2_with fail
    rw [← HW7.out]
    refine (CO4.out _ c7).mono ?_; rintro e w8 ⟨t, rfl, c8, g8⟩
    have hs8 := g8.size
    have mb8 := mb7.by_ g8 (by omega)
    have mbr8 := mbr7.by_ g8 (by omega)
    have o8 := o7.by_ g8 HV6.out
    have mv8 := mv7.trans (Mv.by_ (S := fun g => g = b) g8 rfl)
    clear c7 mv7 mbr7 mb7 o7 g8 d0 d1 d2
    cases t
    · obtain ⟨d0, d1, d2⟩ := mb8.cells
      go_wp2_with fail
      refine (CSP.out l6 _ HL7.out c8 o8 (by omega) HV6.out).mono ?_; rintro e wz ⟨r9, c9, V9, cv9, l9, rfl, hr9, hl9, o9, cz, mvz, _⟩
      have hvz := fun g e => World.ownsRow.lt o9 g e
      have hvs := fun g e => (World.ownsRow.lt o8 g e).1
      have mbz := mbr8.mv mvz (fun e => by rcases e with e | e; omega; have := hvs _ e; omega)
      have mvw := mv8.over mvz (fun g e => by rcases e with e | e; exact .inr e; have := hvs _ e; exact .inl (by omega))
      clear d0 d1 d2
      obtain ⟨d0, d1, d2⟩ := mbz.cells
      have df := mbz.fz
      have dl := mbz.lt
      go_wp2_with fail
      refine bodyPost_ret (v := .agg #[.int .i64 r9, .int .i64 c9, .slice V9 l9.length cv9]) ?_ rfl ?_
      · simp [results, Try.results42, go_sem, d0, d1, d2, df, dl]
      · refine ⟨r9, c9, V9, cv9, l9, rfl, hr9, by omega, ?_, ?_, ?_⟩
        · refine Own.less (B := w.heap.size + 1) ?_ (by omega)
          ((repeat' (first | with_reducible exact o9 | with_reducible refine Own.far ?_ ?_ _)); all_goals (intro g hg; have := hvz g hg; (try simp only); omega))
        · ((repeat' (first | with_reducible exact cz | with_reducible refine Cur.put_ ?_ ?_ ?_ _)); all_goals ((try simp only); omega))
        · refine Mv.by2 (S := fun g => g = b) ?_ (fun g _ e => e)
          ((repeat' (first | with_reducible exact mvw | with_reducible refine Mv.put ?_ (.inl ?_) _)); all_goals ((try simp only); omega))
    · go_wp2_with fail
      go_loopw [4] (fun j wr => ∃ (J : Nat) (l : List Int), j = .int .i64 J ∧ J ≤ C ∧ RowKit.Hid (l.length = R * C) ∧ Own wr (w.heap.size + 1) (.slice V6 (R * C) cv6) l ∧ MBox wr w6.heap.size R C (.slice V6 (R * C) cv6) ∧ MBox wr w.heap.size 0 0 (.slice none 0 0) ∧ Cur wr B b A n cap ∧ Mv (fun g => g = b) w wr ∧ w7.heap.size ≤ wr.heap.size) (fun i _ => C - (intOf i).toNat)
      case atStart => exact ⟨0, _, rfl, Nat.zero_le _, HL7, o8, mb8, mbr8, c8, mv8, by omega⟩
      case round =>
        clear o8 mb8 mbr8 c8 mv8
        obtain ⟨J, l, rfl, hJ, HL, o, mb, mbr, c, mv, hsz⟩ := hrel
        obtain ⟨d0, d1, d2⟩ := mb.cells
        by_cases hlt : J < C
        · have hlt' : (J : Int) < (C : Int) := by omega
          have hJ4 : (J : Int) ≤ 4 := by omega
          have hix : (R - 1) * C + J < R * C := by have := idx_lt (R := R) (C := C) (i := R - 1) (j := J) (by omega) hlt; omega
          have hJx : J < R * C := by exact Nat.lt_of_lt_of_le hlt (Nat.le_mul_of_pos_left C (Nat.lt_trans (by decide) hR2))
          obtain ⟨gv, cp, e, _, _⟩ := o.form (by rw [HL.out]; omega)
          simp only [Value.slice.injEq, true_and] at e
          obtain ⟨rfl, -, rfl⟩ := e
          have hgv := World.ownsRow.lt o gv rfl
          have hx := o.cell ((R - 1) * C + J) (by rw [HL.out]; exact hix)
          obtain ⟨x, hxx⟩ : ∃ x, x = nth l ((R - 1) * C + J) := ⟨_, rfl⟩
          rw [← hxx] at hx
          clear hxx
          obtain ⟨P, hP⟩ : ∃ P : Nat, P = R - 1 := ⟨_, rfl⟩
          rw [← hP] at hx hix
          obtain ⟨D, hD⟩ : ∃ D : Nat, D = P * C := ⟨_, rfl⟩
          rw [← hD] at hx hix
          obtain ⟨K, hK⟩ : ∃ K : Nat, K = D + J := ⟨_, rfl⟩
          rw [← hK] at hx hix
          have k1 : IntKind.i64.wrap ((R : Int) - 1) = (P : Int) := by rw [IntWalk.i64_in _ (by omega)]; omega
          have k2 : IntKind.i64.wrap ((P : Int) * (C : Int)) = (D : Int) := by rw [← Int.natCast_mul, ← hD, IntWalk.i64_in]; omega
          have k3 : IntKind.i64.wrap ((D : Int) + (J : Int)) = (K : Int) := by rw [IntWalk.i64_in _ (by omega)]; omega
          have hixI : (K : Int) < (R : Int) * (C : Int) := by rw [← Int.natCast_mul]; omega
          have hJxI : (J : Int) < (R : Int) * (C : Int) := by rw [← Int.natCast_mul]; exact Int.ofNat_lt.2 hJx
          have hfr := o.free J
          obtain ⟨q, hq⟩ : ∃ q, q = wrap64 (2 * x) := ⟨_, rfl⟩
          clear hK hD hP
          have HQ := Lib.hid hq
          clear hq
          go_wp2_with fail
          (refine wp_region_held_last 17 (fun W => W.cell? ⟨w6.heap.size, 0, none⟩ = some (.int .i64 R) ∧ W.cell? ⟨w6.heap.size, 1, none⟩ = some (.int .i64 C) ∧ W.cell? ⟨w6.heap.size, 2, none⟩ = some (.slice (some ⟨gv, 0, none⟩) (R * C) cv6) ∧ W.cell? ⟨gv, K, none⟩ = some (.int .i64 x)) (by rfl) (by kernel_rfl) (by kernel_rfl) (by ((try dsimp only); (exact ⟨d0, d1, d2, hx⟩))) (fun hHeld => ?_); simp only [List.take_succ_cons, List.take_zero]; refine heldL_take (i := 0) (v := _) (by rfl) (by kernel_rfl) (by kernel_rfl) (by kernel_rfl) (fun _ _ _ h => h) (Or.inl ⟨by rfl, fun wS hSw => by ((try dsimp only at hSw); go_simp; (try with_reducible rfl))⟩) (by assumption) ?_; simp only [Act.put, List.setIfInBounds_toArray, List.set_cons_zero, List.set_cons_succ]; refine heldL_take (i := 1) (v := _) (by rfl) (by kernel_rfl) (by kernel_rfl) (by kernel_rfl) (fun _ _ _ h => h) (Or.inl ⟨by rfl, fun wS hSw => by ((try dsimp only at hSw); go_simp; (try with_reducible rfl))⟩) (by assumption) ?_; simp only [Act.put, List.setIfInBounds_toArray, List.set_cons_zero, List.set_cons_succ]; refine heldL_take (i := 2) (v := _) (by rfl) (by kernel_rfl) (by kernel_rfl) (by kernel_rfl) (fun _ _ _ h => h) (Or.inl ⟨by rfl, fun wS hSw => by ((try dsimp only at hSw); go_simp; (try with_reducible rfl))⟩) (by assumption) ?_; simp only [Act.put, List.setIfInBounds_toArray, List.set_cons_zero, List.set_cons_succ]; refine heldL_take (i := 3) (v := _) (by rfl) (by kernel_rfl) (by kernel_rfl) (by kernel_rfl) (fun _ _ _ h => h) (Or.inl ⟨by rfl, fun wS hSw => by ((try dsimp only at hSw); go_simp; (try with_reducible rfl))⟩) (by assumption) ?_; simp only [Act.put, List.setIfInBounds_toArray, List.set_cons_zero, List.set_cons_succ]; refine heldL_take (i := 4) (v := _) (by rfl) (by kernel_rfl) (by kernel_rfl) (by kernel_rfl) (fun _ _ _ h => h) (Or.inl ⟨by rfl, fun wS hSw => by ((try dsimp only at hSw); go_simp; (try with_reducible rfl))⟩) (by assumption) ?_; simp only [Act.put, List.setIfInBounds_toArray, List.set_cons_zero, List.set_cons_succ]; refine heldL_take (i := 5) (v := _) (by rfl) (by kernel_rfl) (by kernel_rfl) (by kernel_rfl) (fun _ _ _ h => h) (Or.inl ⟨by rfl, fun wS hSw => by ((try dsimp only at hSw); go_simp; (try with_reducible rfl))⟩) (by assumption) ?_; simp only [Act.put, List.setIfInBounds_toArray, List.set_cons_zero, List.set_cons_succ]; refine heldL_take (i := 6) (v := _) (by rfl) (by kernel_rfl) (by kernel_rfl) (by kernel_rfl) (fun _ _ _ h => h) (Or.inl ⟨by rfl, fun wS hSw => by ((try dsimp only at hSw); go_simp; (try with_reducible rfl))⟩) (by assumption) ?_; simp only [Act.put, List.setIfInBounds_toArray, List.set_cons_zero, List.set_cons_succ]; refine heldL_take (i := 7) (v := _) (by rfl) (by kernel_rfl) (by kernel_rfl) (by kernel_rfl) (fun _ _ _ h => h) (Or.inl ⟨by rfl, fun wS hSw => by ((try dsimp only at hSw); go_simp; (try with_reducible rfl))⟩) (by assumption) ?_; simp only [Act.put, List.setIfInBounds_toArray, List.set_cons_zero, List.set_cons_succ]; refine heldL_take (i := 8) (v := _) (by rfl) (by kernel_rfl) (by kernel_rfl) (by kernel_rfl) (fun _ _ _ h => h) (Or.inl ⟨by rfl, fun wS hSw => by ((try dsimp only at hSw); go_simp; (try with_reducible rfl))⟩) (by assumption) ?_; simp only [Act.put, List.setIfInBounds_toArray, List.set_cons_zero, List.set_cons_succ]; refine heldL_take (i := 9) (v := _) (by rfl) (by kernel_rfl) (by kernel_rfl) (by kernel_rfl) (fun _ _ _ h => h) (Or.inl ⟨by rfl, fun wS hSw => by ((try dsimp only at hSw); go_simp; (try with_reducible rfl))⟩) (by assumption) ?_; simp only [Act.put, List.setIfInBounds_toArray, List.set_cons_zero, List.set_cons_succ]; refine heldL_take (i := 10) (v := _) (by rfl) (by kernel_rfl) (by kernel_rfl) (by kernel_rfl) (fun _ _ _ h => h) (Or.inl ⟨by rfl, fun wS hSw => by ((try dsimp only at hSw); go_simp; (try with_reducible rfl))⟩) (by assumption) ?_; simp only [Act.put, List.setIfInBounds_toArray, List.set_cons_zero, List.set_cons_succ]; refine heldL_take (i := 11) (v := _) (by rfl) (by kernel_rfl) (by kernel_rfl) (by kernel_rfl) (fun _ _ _ h => h) (Or.inl ⟨by rfl, fun wS hSw => by ((try dsimp only at hSw); go_simp; (try with_reducible rfl))⟩) (by assumption) ?_; simp only [Act.put, List.setIfInBounds_toArray, List.set_cons_zero, List.set_cons_succ]; refine heldL_take (i := 12) (v := _) (by rfl) (by kernel_rfl) (by kernel_rfl) (by kernel_rfl) (fun _ _ _ h => h) (Or.inl ⟨by rfl, fun wS hSw => by ((try dsimp only at hSw); go_simp; (try with_reducible rfl))⟩) (by assumption) ?_; simp only [Act.put, List.setIfInBounds_toArray, List.set_cons_zero, List.set_cons_succ]; refine heldL_take (i := 13) (v := _) (by rfl) (by kernel_rfl) (by kernel_rfl) (by kernel_rfl) (fun _ _ _ h => h) (Or.inl ⟨by rfl, fun wS hSw => by ((try dsimp only at hSw); go_simp; (try with_reducible rfl))⟩) (by assumption) ?_; simp only [Act.put, List.setIfInBounds_toArray, List.set_cons_zero, List.set_cons_succ]; refine heldL_take (i := 14) (v := _) (by rfl) (by kernel_rfl) (by kernel_rfl) (by kernel_rfl) (fun _ _ _ h => h) (Or.inl ⟨by rfl, fun wS hSw => by ((try dsimp only at hSw); go_simp; (try with_reducible rfl))⟩) (by assumption) ?_; simp only [Act.put, List.setIfInBounds_toArray, List.set_cons_zero, List.set_cons_succ]; refine heldL_take (i := 15) (v := _) (by rfl) (by kernel_rfl) (by kernel_rfl) (by kernel_rfl) (fun _ _ _ h => h) (Or.inl ⟨by rfl, fun wS hSw => by ((try dsimp only at hSw); go_simp; (try with_reducible rfl))⟩) (by assumption) ?_; simp only [Act.put, List.setIfInBounds_toArray, List.set_cons_zero, List.set_cons_succ]; refine heldL_take (i := 16) (v := _) (by rfl) (by kernel_rfl) (by kernel_rfl) (by kernel_rfl) (fun _ _ _ h => h) (Or.inl ⟨by rfl, fun wS hSw => by ((try dsimp only at hSw); go_simp; (try with_reducible rfl))⟩) (by assumption) ?_; simp only [Act.put, List.setIfInBounds_toArray, List.set_cons_zero, List.set_cons_succ]; refine wpAnyH_done (by kernel_rfl) ?_ _; refine lastQ_go ?_)
          have mgv : Mv (fun g => g = gv) wr (wr.setCell ⟨gv, J, none⟩ (.int .i64 q)) := (Mv.refl (S := fun g => g = gv) wr).put (p := ⟨gv, J, none⟩) (.inr rfl) _
          have gd : Grows (wr.setCell ⟨gv, J, none⟩ (.int .i64 q)) (wr.setCell ⟨gv, J, none⟩ (.int .i64 q)).drew := by exact bel0
          have hgb := HV6.out gv rfl
          have hgb2 := HV0.out gv rfl
          have o9 := (o.put HL.out J q).grows gd
          have mb9 := (mb.mv mgv (by omega)).grows gd
          have mbr9 := (mbr.mv mgv (by omega)).grows gd
          have c9 := (c.mv mgv (by omega) (fun g e => by omega)).grows gd
          have mv9 := (mv.over mgv (fun g e => .inl (by omega))).right gd
          have HL9 := Lib.hid (show (l.set J q).length = R * C by rw [List.length_set]; exact HL.out)
          obtain ⟨w9, hw9⟩ : ∃ w9, w9 = (wr.setCell ⟨gv, J, none⟩ (.int .i64 q)).drew := ⟨_, rfl⟩
          have hs9 : w9.heap.size = wr.heap.size := by rw [hw9]; simp
          rw [← hw9] at o9 mb9 mbr9 c9 mv9
          rw [HQ.out] at hw9
          have HW9 := Lib.hid hw9
          have hcl := o.cell J (by rw [HL.out]; exact hJx)
          clear d0 d1 d2 hw9 mgv gd
          go_wp2_with fail
          rw [← HW9.out]
          go_round
          case rel => exact ⟨J + 1, _, by go_num, by omega, HL9, o9, mb9, mbr9, c9, mv9, by omega⟩
          case measure => first | (simp [intOf]; done) | (simp [intOf]; omega)
        · have hlt' : ¬ (J : Int) < (C : Int) := by omega
          go_wp2_with fail
          refine (CSP.out l _ HL.out c o (by omega) HV6.out).mono ?_; rintro e wz ⟨r9, c9, V9, cv9, l9, rfl, hr9, hl9, o9, cz, mvz, _⟩
          have hvz := fun g e => World.ownsRow.lt o9 g e
          have hvs := fun g e => (World.ownsRow.lt o g e).1
          have mbz := mbr.mv mvz (fun e => by rcases e with e | e; omega; have := hvs _ e; omega)
          have mvw := mv.over mvz (fun g e => by rcases e with e | e; exact .inr e; have := hvs _ e; exact .inl (by omega))
          clear d0 d1 d2
          obtain ⟨d0, d1, d2⟩ := mbz.cells
          have df := mbz.fz
          have dl := mbz.lt
          go_wp2_with fail
          refine bodyPost_ret (v := .agg #[.int .i64 r9, .int .i64 c9, .slice V9 l9.length cv9]) ?_ rfl ?_
          · simp [results, Try.results42, go_sem, d0, d1, d2, df, dl]
          · refine ⟨r9, c9, V9, cv9, l9, rfl, hr9, by omega, ?_, ?_, ?_⟩
            · refine Own.less (B := w.heap.size + 1) ?_ (by omega)
              ((repeat' (first | with_reducible exact o9 | with_reducible refine Own.far ?_ ?_ _)); all_goals (intro g hg; have := hvz g hg; (try simp only); omega))
            · ((repeat' (first | with_reducible exact cz | with_reducible refine Cur.put_ ?_ ?_ ?_ _)); all_goals ((try simp only); omega))
            · refine Mv.by2 (S := fun g => g = b) ?_ (fun g _ e => e)
              ((repeat' (first | with_reducible exact mvw | with_reducible refine Mv.put ?_ (.inl ?_) _)); all_goals ((try simp only); omega))
end
end Go.Proofs.Ytbfkpfdkndnhkaa

/- The draws: from a code, any matrix; a form; a form and a vector. -/
namespace Go.Proofs.Ytbfkpfdkndnhkaa
set_option linter.unusedSimpArgs false
set_option linter.unusedVariables false
open Go.RowKit

section
set_option maxHeartbeats 4000000
set_option maxRecDepth 10000
theorem matDrawKernelOf_c (A : Option Addr) (n cap : Nat) (w : World) (hr : CodeR w w.heap.size A n) (hn : n ≤ 1048576) :
    Calls Try.prog 10 #[.slice A n cap] w (DMatC 17 w) := by
  obtain ⟨w1, hw1⟩ : ∃ w1, w1 = w.alloc (.cells #[.int .i64 0, .int .i64 0, .slice none 0 0] 26) := ⟨_, rfl⟩
  have mbr : MBox w1 w.heap.size 0 0 (.slice none 0 0) := by rw [hw1]; exact MBox.mk_ _ _ _ _ _
  have g01 : Grows w w1 := by rw [hw1]; exact bel0
  have hs1 : w1.heap.size = w.heap.size + 1 := by rw [hw1]; simp
  have CN := Lib.hid (l1New_c w.heap.size A n cap w1 (by omega) (hr.keep g01) hn)
  have CG := Lib.hid fun b W h => l3Any_c w.heap.size b A n cap W h
  have HW1 := Lib.hid hw1
  have HS1 := Lib.hid hs1
  clear hw1 hs1
  go_enter Try.func10, Try.ntmps10
  go_wp2_with fail
  rw [← HW1.out]
  refine CN.out.mono ?_; rintro e w2 ⟨b, rfl, c2, g2⟩
  have hs2 := Below.size g2
  go_wp2_with fail
  refine (CG.out b _ c2).mono ?_; rintro e w3 ⟨r, c, V, cv, l, rfl, hrb, hl, o3, c3, g3⟩
  have hs3 := g3.size
  have hs1 := HS1.out
  have k3 : Below w.heap.size w2 w3 := c2.below g3
  have g13 : Below w.heap.size w1 w3 := Below.trans (Below.mono g2 (by omega)) k3
  have G : Grows w w3 := Below.trans g01 g13
  have hb : w.heap.size ≠ b := by
    intro e
    obtain ⟨i, h, _, c⟩ := c2
    have h1 := c.c0
    rw [← e, (mbr.grows g2).c0] at h1
    cases h1
  have mb3 := (mbr.grows g2).by_ g3 hb
  have hvl := fun g e => World.ownsRow.lt o3 g e
  clear hs1 g3 k3 g13 mbr
  obtain ⟨d0, d1, d2⟩ := mb3.cells
  have df := mb3.fz
  have dl := mb3.lt
  have hlt2 : w.heap.size < w2.heap.size := by have := HS1.out; omega
  go_wp2_with fail
  refine bodyPost_ret (v := .agg #[.int .i64 r, .int .i64 c, .slice V l.length cv]) ?_ rfl ?_
  · simp [results, Try.results10, go_sem, d0, d1, d2, df, dl]
  · refine ⟨r, c, V, cv, l, rfl, hrb, hl, ?_, by exact bel1 G⟩
    refine Own.less (B := w2.heap.size) ?_ (by omega)
    ((repeat' (first | with_reducible exact o3 | with_reducible refine Own.far ?_ ?_ _)); all_goals (intro g hg; have := hvl g hg; (try simp only); omega))
theorem matDrawSaturationOf_c (A : Option Addr) (n cap : Nat) (w : World) (hr : CodeR w w.heap.size A n) (hn : n ≤ 1048576) :
    Calls Try.prog 25 #[.slice A n cap] w (DMatC 17 w) := by
  obtain ⟨w1, hw1⟩ : ∃ w1, w1 = w.alloc (.cells #[.int .i64 0, .int .i64 0, .slice none 0 0] 26) := ⟨_, rfl⟩
  have mbr : MBox w1 w.heap.size 0 0 (.slice none 0 0) := by rw [hw1]; exact MBox.mk_ _ _ _ _ _
  have g01 : Grows w w1 := by rw [hw1]; exact bel0
  have hs1 : w1.heap.size = w.heap.size + 1 := by rw [hw1]; simp
  have CN := Lib.hid (l1New_c w.heap.size A n cap w1 (by omega) (hr.keep g01) hn)
  have CG := Lib.hid fun b W h => l3Any_c w.heap.size b A n cap W h
  have HW1 := Lib.hid hw1
  have HS1 := Lib.hid hs1
  clear hw1 hs1
  go_enter Try.func25, Try.ntmps25
  go_wp2_with fail
  rw [← HW1.out]
  refine CN.out.mono ?_; rintro e w2 ⟨b, rfl, c2, g2⟩
  have hs2 := Below.size g2
  go_wp2_with fail
  refine (CG.out b _ c2).mono ?_; rintro e w3 ⟨r, c, V, cv, l, rfl, hrb, hl, o3, c3, g3⟩
  have hs3 := g3.size
  have hs1 := HS1.out
  have k3 : Below w.heap.size w2 w3 := c2.below g3
  have g13 : Below w.heap.size w1 w3 := Below.trans (Below.mono g2 (by omega)) k3
  have G : Grows w w3 := Below.trans g01 g13
  have hb : w.heap.size ≠ b := by
    intro e
    obtain ⟨i, h, _, c⟩ := c2
    have h1 := c.c0
    rw [← e, (mbr.grows g2).c0] at h1
    cases h1
  have mb3 := (mbr.grows g2).by_ g3 hb
  have hvl := fun g e => World.ownsRow.lt o3 g e
  clear hs1 g3 k3 g13 mbr
  obtain ⟨d0, d1, d2⟩ := mb3.cells
  have df := mb3.fz
  have dl := mb3.lt
  have hlt2 : w.heap.size < w2.heap.size := by have := HS1.out; omega
  go_wp2_with fail
  refine bodyPost_ret (v := .agg #[.int .i64 r, .int .i64 c, .slice V l.length cv]) ?_ rfl ?_
  · simp [results, Try.results25, go_sem, d0, d1, d2, df, dl]
  · refine ⟨r, c, V, cv, l, rfl, hrb, hl, ?_, by exact bel1 G⟩
    refine Own.less (B := w2.heap.size) ?_ (by omega)
    ((repeat' (first | with_reducible exact o3 | with_reducible refine Own.far ?_ ?_ _)); all_goals (intro g hg; have := hvl g hg; (try simp only); omega))
end
end Go.Proofs.Ytbfkpfdkndnhkaa
