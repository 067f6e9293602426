/- Contracts and lemmas, put together. -/
import Derived.Test.YthajmffhgbenpaaPkDr
/- The draws: a vector; a matrix of a size; any matrix. -/
namespace Go.Proofs.Ythajmffhgbenpaa
set_option linter.unusedSimpArgs false
set_option linter.unusedVariables false
open Go.RowKit

/-- a slice drawn from a cursor -/
def DVec (B b : Nat) (A : Option Addr) (n cap k : Nat) (w : World) (e : Ending) (w' : World) : Prop := ∃ (V : Option Addr) (cv : Nat) (l : List Int), e = .returned (.slice V l.length cv) ∧ l.length = k ∧ Own w' w.heap.size (.slice V l.length cv) l ∧ Cur w' B b A n cap ∧ w.grownBy w' (some b)
/-- a matrix of a size drawn from a cursor -/
def DMatS (B b : Nat) (A : Option Addr) (n cap R C M : Nat) (w : World) (e : Ending) (w' : World) : Prop := ∃ (V : Option Addr) (cv : Nat) (l : List Int), e = .returned (.agg #[.int .i64 R, .int .i64 C, .slice V (R * C) cv]) ∧ l.length = R * C ∧ bnd M l ∧ Own w' w.heap.size (.slice V (R * C) cv) l ∧ Cur w' B b A n cap ∧ w.grownBy w' (some b)
/-- a matrix and a list drawn from a code -/
def DMatL (m k : Nat) (w : World) (e : Ending) (w' : World) : Prop := ∃ (r c : Int) (V : Option Addr) (cv : Nat) (l : List Int) (V2 : Option Addr) (cv2 : Nat) (l2 : List Int), e = .returned (.tuple #[.agg #[.int .i64 r, .int .i64 c, .slice V l.length cv], .slice V2 l2.length cv2]) ∧ l.length ≤ m ∧ l2.length ≤ k ∧ Own w' w.heap.size (.slice V l.length cv) l ∧ Own w' w.heap.size (.slice V2 l2.length cv2) l2 ∧ Grows w w'
theorem CodeR.up {w w1 : World} {A : Option Addr} {n : Nat} (hr : CodeR w w.heap.size A n) (g : Grows w w1) : CodeR w1 w1.heap.size A n := fun i hi => by
  have hs := Below.size g
  obtain ⟨b, off, x, h1, h2, h3⟩ := (hr.keep g) i hi
  exact ⟨b, off, x, h1, by omega, h3⟩
theorem bnd_zero (M n : Nat) : bnd M (List.replicate n 0) := fun i hi => by
  have e : nth (List.replicate n 0) i = 0 := by unfold nth; simp only [List.getD_eq_getElem?_getD, List.getElem?_replicate]; split <;> rfl
  rw [e]; omega
theorem bnd_set1 {M I : Nat} {l : List Int} {x : Int} (h : bnd M l) (hI : I < l.length) (hx : -(M : Int) ≤ x ∧ x ≤ M) : bnd M (l.set I x) := fun i hi => by
  rw [List.length_set] at hi
  rw [nth_set _ _ _ _ hI]
  split
  · exact hx
  · exact h i hi
section
set_option maxHeartbeats 4000000
set_option maxRecDepth 10000
theorem l18Vector_c (B b : Nat) (A : Option Addr) (n cap : Nat) (k : Int) (w : World) (hk : -1 ≤ k ∧ k ≤ 8) (h : Cur w B b A n cap) :
    Calls Try.prog 76 #[.pointer (some ⟨b, 0, none⟩), .int .i64 k] w (DVec B b A n cap k.toNat w) := by
  have hbl := h.lt
  have hlo := h.lo
  have CN := Lib.hid fun W h => l1Num_c B b A n cap 5 W (by omega) h
  go_enter Try.func76, Try.ntmps76
  go_wp2_with fail
  go_loopw [5, 6] (fun o i wr => ∃ (I : Nat) (A4 : Option Addr) (L : List Int) (c4 : Nat), i = .int .i64 I ∧ I ≤ k.toNat ∧ RowKit.Hid (L.length = I) ∧ o = .slice A4 L.length c4 ∧ Own wr w.heap.size (.slice A4 L.length c4) L ∧ Cur wr B b A n cap ∧ Mv (fun g => g = b) w wr) (fun _ i _ => k.toNat - (intOf i).toNat)
  case atStart => exact ⟨0, _, [], _, rfl, Nat.zero_le _, Lib.hid rfl, rfl, Own.new_ _ rfl (Nat.le_refl _), h.grows (by exact bel0), (Mv.refl _).right (by exact bel0)⟩
  case round =>
    clear h
    obtain ⟨I, A4, L, c4, rfl, hI, HL, rfl, ho, c, mv⟩ := hrel
    have hsr := mv.size
    have hll : L.length ≤ 8 := by have := HL.out; omega
    have hvl := fun g e => (World.ownsRow.lt ho g e).1
    by_cases hlt : I < k.toNat
    · have hlt' : (I : Int) < k := by omega
      have hI8 : (I : Int) ≤ 8 := by omega
      go_wp2_with fail
      refine (CN.out _ c).mono ?_; rintro e w2 ⟨x, rfl, c2, g2⟩
      have ho2 := ho.by_ g2 (fun g e => by have := hvl g e; omega)
      have hs2 := g2.size
      have mv2 := mv.trans (Mv.by_ (S := fun g => g = b) g2 rfl)
      go_wp2_with (at_builtin; refine wpList_app1 rfl (.tmp 13) (.tmp 16) rfl _ x w.heap.size _ L (by rfl) ho2 (by rfl) (by omega) (by omega) ?_; intro v7 w7 ho7 hg7 _)
      obtain ⟨A7, c7, rfl, _, _⟩ := ho7.val
      have hc7 := c2.own1 hg7 (fun g e => by have := hvl g e; omega)
      have hm7 := mv2.own hg7 (fun g e => .inl (hvl g e))
      have HL7 := Lib.hid (show (L ++ [x]).length = I + 1 by rw [List.length_append, HL.out]; rfl)
      go_round
      case rel => exact ⟨I + 1, _, _, _, by go_num, by omega, HL7, rfl, ho7, hc7, hm7⟩
      case measure => first | (simp [intOf]; done) | (simp [intOf]; omega)
    · have hlt' : ¬ (I : Int) < k := by omega
      have HLL := Lib.hid (show L.length = k.toNat by have := HL.out; omega)
      go_wp2_with fail
      go_ret
      exact ⟨A4, c4, L, rfl, HLL.out, ho, c, mv.by2 (fun g _ e => e)⟩
theorem l3Draw_c (B b : Nat) (A : Option Addr) (n cap R C M : Nat) (w : World) (hR : R ≤ 4) (hC : C ≤ 4) (hM : M ≤ 100) (h : Cur w B b A n cap) :
    Calls Try.prog 108 #[.pointer (some ⟨b, 0, none⟩), .int .i64 R, .int .i64 C, .int .i64 M] w (DMatS B b A n cap R C M w) := by
  obtain ⟨w1, hw1⟩ : ∃ w1, w1 = w.alloc (.cells #[.int .i64 0, .int .i64 0, .slice none 0 0] 26) := ⟨_, rfl⟩
  have mbr : MBox w1 w.heap.size 0 0 (.slice none 0 0) := by rw [hw1]; exact MBox.mk_ _ _ _ _ _
  have g01 : Grows w w1 := by rw [hw1]; exact bel0
  have hs1 : w1.heap.size = w.heap.size + 1 := by rw [hw1]; simp
  have hbl := h.lt
  have hlo := h.lo
  have h1 := h.grows g01
  have hRC : R * C ≤ 16 := Nat.mul_le_mul hR hC
  have CN := Lib.hid (l3New_c R C w1 (by omega))
  have CBl := fun W h => l1Below_c B b A n cap (2 * M + 1) W (by omega) h
  have e2 : ((2 * M + 1 : Nat) : Int) = 2 * (M : Int) + 1 := by omega
  rw [e2] at CBl
  have CB := Lib.hid CBl
  have k1 : IntKind.i64.wrap (2 * (M : Int)) = 2 * (M : Int) := IntWalk.i64_in _ (by omega)
  have k2 : IntKind.i64.wrap (2 * (M : Int) + 1) = 2 * (M : Int) + 1 := IntWalk.i64_in _ (by omega)
  have HW1 := Lib.hid hw1
  clear hw1 e2 CBl
  go_enter Try.func108, Try.ntmps108
  go_wp2_with fail
  rw [← HW1.out]
  refine CN.out.mono ?_; rintro e w2 ⟨gv, rfl, o2, g2⟩
  have hs2 := Below.size g2
  obtain ⟨w3, hw3⟩ : ∃ w3, w3 = w2.alloc (.cells #[.int .i64 R, .int .i64 C, .slice (some ⟨gv, 0, none⟩) (R * C) (R * C)] 26) := ⟨_, rfl⟩
  have mb3 : MBox w3 w2.heap.size R C (.slice (some ⟨gv, 0, none⟩) (R * C) (R * C)) := by rw [hw3]; exact MBox.mk_ _ _ _ _ _
  have g13 : Grows w1 w3 := by rw [hw3]; exact bel1 g2
  have g23 : Grows w2 w3 := by rw [hw3]; exact bel0
  have HW3 := Lib.hid hw3
  have hgv := o2.lt
  have o3 := (o2.grows g23).less (show w.heap.size + 1 ≤ _ by omega)
  have c3 := h1.grows g13
  have mbr3 := mbr.grows g13
  have mv3 : Mv (fun g => g = b) w w3 := Mv.left g01 ((Mv.refl _).right g13)
  have hW2 : w.heap.size + 1 ≤ w2.heap.size := by omega
  have hgw : w.heap.size + 1 ≤ gv := by omega
  have hs3 := Below.size g23
  clear hw3 h1 g13 g23 mbr o2 hs1 g2 h
  go_wp2_with fail
  rw [← HW3.out]
  go_loopw [10] (fun i wr => ∃ (I : Nat) (l : List Int), i = .int .i64 I ∧ I ≤ R * C ∧ RowKit.Hid (l.length = R * C) ∧ RowKit.Hid (bnd M l) ∧ Own wr (w.heap.size + 1) (.slice (some ⟨gv, 0, none⟩) (R * C) (R * C)) l ∧ MBox wr w2.heap.size R C (.slice (some ⟨gv, 0, none⟩) (R * C) (R * C)) ∧ MBox wr w.heap.size 0 0 (.slice none 0 0) ∧ Cur wr B b A n cap ∧ Mv (fun g => g = b) w wr ∧ w3.heap.size ≤ wr.heap.size) (fun i _ => R * C - (intOf i).toNat)
  case atStart => exact ⟨0, _, rfl, Nat.zero_le _, Lib.hid (by simp), Lib.hid (bnd_zero M _), o3, mb3, mbr3, c3, mv3, Nat.le_refl _⟩
  case round =>
    clear o3 mb3 mbr3 c3 mv3
    obtain ⟨I, l, rfl, hI, HL, HB, o, mb, mbr, c, mv, hsz⟩ := hrel
    by_cases hlt : I < R * C
    · have hlt' : (I : Int) < ((R * C : Nat) : Int) := by omega
      have hlt2 : (I : Int) < (R : Int) * (C : Int) := by rw [← Int.natCast_mul R C]; exact hlt'
      have hI16 : (I : Int) ≤ 16 := by omega
      obtain ⟨d0, d1, d2⟩ := mb.cells
      go_wp2_with fail
      (refine wp_region_held_last 11 (fun W => W.cell? ⟨w2.heap.size, 2, none⟩ = some (.slice (some ⟨gv, 0, none⟩) (R * C) (R * C))) (by rfl) (by kernel_rfl) (by kernel_rfl) (by ((try dsimp only); (first | exact mb7.c2 | exact (mb.grows (by exact bel0)).c2))) (fun hHeld => ?_); simp only [List.take_succ_cons, List.take_zero]; refine heldL_take (i := 0) (v := _) (by rfl) (by kernel_rfl) (by kernel_rfl) (by kernel_rfl) (fun _ _ _ h => h) (Or.inl ⟨by rfl, fun wS hSw => by ((try dsimp only at hSw); go_simp; (try with_reducible rfl))⟩) (by assumption) ?_; simp only [Act.put, List.setIfInBounds_toArray, List.set_cons_zero, List.set_cons_succ]; refine heldL_take (i := 1) (v := _) (by rfl) (by kernel_rfl) (by kernel_rfl) (by kernel_rfl) (fun _ _ _ h => h) (Or.inl ⟨by rfl, fun wS hSw => by ((try dsimp only at hSw); go_simp; (try with_reducible rfl))⟩) (by assumption) ?_; simp only [Act.put, List.setIfInBounds_toArray, List.set_cons_zero, List.set_cons_succ]; refine heldL_take (i := 2) (v := _) (by rfl) (by kernel_rfl) (by kernel_rfl) (by kernel_rfl) (fun _ _ _ h => h) (Or.inl ⟨by rfl, fun wS hSw => by ((try dsimp only at hSw); go_simp; (try with_reducible rfl))⟩) (by assumption) ?_; simp only [Act.put, List.setIfInBounds_toArray, List.set_cons_zero, List.set_cons_succ]; refine heldL_take (i := 3) (v := _) (by rfl) (by kernel_rfl) (by kernel_rfl) (by kernel_rfl) (fun _ _ _ h => h) (Or.inl ⟨by rfl, fun wS hSw => by ((try dsimp only at hSw); go_simp; (try with_reducible rfl))⟩) (by assumption) ?_; simp only [Act.put, List.setIfInBounds_toArray, List.set_cons_zero, List.set_cons_succ]; refine heldL_take (i := 4) (v := _) (by rfl) (by kernel_rfl) (by kernel_rfl) (by kernel_rfl) (fun _ _ _ h => h) (Or.inl ⟨by rfl, fun wS hSw => by ((try dsimp only at hSw); go_simp; (try with_reducible rfl))⟩) (by assumption) ?_; simp only [Act.put, List.setIfInBounds_toArray, List.set_cons_zero, List.set_cons_succ]; refine heldL_take (i := 5) (v := _) (by rfl) (by kernel_rfl) (by kernel_rfl) (by kernel_rfl) (fun _ _ _ h => h) (Or.inl ⟨by rfl, fun wS hSw => by ((try dsimp only at hSw); go_simp; (try with_reducible rfl))⟩) (by assumption) ?_; simp only [Act.put, List.setIfInBounds_toArray, List.set_cons_zero, List.set_cons_succ]; refine heldL_take (i := 6) (v := _) (by rfl) (by kernel_rfl) (by kernel_rfl) (by kernel_rfl) (fun _ _ _ h => h) (Or.inl ⟨by rfl, fun wS hSw => by ((try dsimp only at hSw); go_simp; (try with_reducible rfl))⟩) (by assumption) ?_; simp only [Act.put, List.setIfInBounds_toArray, List.set_cons_zero, List.set_cons_succ]; refine heldL_take (i := 8) (v := _) (by rfl) (by kernel_rfl) (by kernel_rfl) (by kernel_rfl) (fun _ _ _ h => h) (Or.inl ⟨by rfl, fun wS hSw => by ((try dsimp only at hSw); go_simp; (try with_reducible rfl))⟩) (by assumption) ?_; simp only [Act.put, List.setIfInBounds_toArray, List.set_cons_zero, List.set_cons_succ]; refine heldL_step (i := 7) (by kernel_rfl) (by rfl) (fun K hK => ?_); go_simp; (refine (CB.out _ (c.grows (by exact bel0))).mono ?_; rintro e w7 ⟨y, rfl, hy, c7, g7⟩; have mb7 := (mb.grows (w' := wr.drew) (by exact bel0)).by_ g7 (by omega); have o7 := (o.grows (w' := wr.drew) (by exact bel0)).by_ g7 (fun g e => by have e2 : gv = g := Option.some.inj e; omega); have hcl := o7.cell I (by rw [HL.out]; exact hlt); have hfr := o7.free I; have k5 : IntKind.i64.wrap ((y : Int) - (M : Int)) = (y : Int) - (M : Int) := IntWalk.i64_in _ (by omega)) ; (try (go_wp2_with fail)); refine hK.out _ _ (by ((try dsimp only); (first | exact mb7.c2 | exact (mb.grows (by exact bel0)).c2))) (fun hHeld => ?_); clear hK K; (try simp only [Act.put, List.setIfInBounds_toArray, List.set_cons_zero, List.set_cons_succ]); refine heldL_take (i := 9) (v := _) (by rfl) (by kernel_rfl) (by kernel_rfl) (by kernel_rfl) (fun _ _ _ h => h) (Or.inl ⟨by rfl, fun wS hSw => by ((try dsimp only at hSw); go_simp; (try with_reducible rfl))⟩) (by assumption) ?_; simp only [Act.put, List.setIfInBounds_toArray, List.set_cons_zero, List.set_cons_succ]; refine heldL_take (i := 10) (v := _) (by rfl) (by kernel_rfl) (by kernel_rfl) (by kernel_rfl) (fun _ _ _ h => h) (Or.inl ⟨by rfl, fun wS hSw => by ((try dsimp only at hSw); go_simp; (try with_reducible rfl))⟩) (by assumption) ?_; simp only [Act.put, List.setIfInBounds_toArray, List.set_cons_zero, List.set_cons_succ]; refine wpAnyH_done (by kernel_rfl) ?_ _; refine lastQ_go ?_)
      have hs7 := g7.size
      have ed : wr.drew.heap.size = wr.heap.size := rfl
      have mgv : Mv (fun g => g = gv) w7 (w7.setCell ⟨gv, I, none⟩ (.int .i64 ((y : Int) - (M : Int)))) := (Mv.refl (S := fun g => g = gv) w7).put (p := ⟨gv, I, none⟩) (.inr rfl) _
      have o8 := o7.put HL.out I ((y : Int) - (M : Int))
      have mb8 := mb7.mv mgv (by omega)
      have mbr8 := ((mbr.grows (w' := wr.drew) (by exact bel0)).by_ g7 (by omega)).mv mgv (by omega)
      have c8 := c7.mv mgv (by omega) (fun g e => by omega)
      have mv8 := ((mv.right (show Grows wr wr.drew by exact bel0)).trans (Mv.by_ (S := fun g => g = b) g7 rfl)).over mgv (fun g e => .inl (by omega))
      have HL8 := Lib.hid (show (l.set I ((y : Int) - (M : Int))).length = R * C by rw [List.length_set]; exact HL.out)
      have HB8 := Lib.hid (bnd_set1 HB.out (by rw [HL.out]; exact hlt) (show -(M : Int) ≤ (y : Int) - (M : Int) ∧ (y : Int) - (M : Int) ≤ M by omega))
      clear d0 d1 d2
      go_wp2_with fail
      go_round
      case rel => exact ⟨I + 1, _, by go_num, by omega, HL8, HB8, o8, mb8, mbr8, c8, mv8, by simp; omega⟩
      case measure => first | (simp [intOf]; done) | (simp [intOf]; omega)
    · have hlt' : ¬ (I : Int) < ((R * C : Nat) : Int) := by omega
      have hlt2 : ¬ (I : Int) < (R : Int) * (C : Int) := by rw [← Int.natCast_mul R C]; exact hlt'
      obtain ⟨d0, d1, d2⟩ := mb.cells
      have dl := mb.lt
      obtain ⟨e0, e1, e2⟩ := mbr.cells
      have ef := mbr.fz
      have el := mbr.lt
      go_wp2_with fail
      refine bodyPost_ret (v := .agg #[.int .i64 R, .int .i64 C, .slice (some ⟨gv, 0, none⟩) (R * C) (R * C)]) ?_ rfl ?_
      · simp [results, Try.results108, go_sem, d0, d1, d2, dl, e0, e1, e2, ef, el]
      · refine ⟨_, _, l, rfl, HL.out, HB.out, ?_, ?_, ?_⟩
        · refine Own.less (B := w.heap.size + 1) ?_ (by omega)
          ((repeat' (first | with_reducible exact o | with_reducible refine Own.far ?_ ?_ _)); all_goals (intro g hg; have e2 : gv = g := Option.some.inj hg; (try simp only); omega))
        · ((repeat' (first | with_reducible exact c | with_reducible refine Cur.put_ ?_ ?_ ?_ _)); all_goals ((try simp only); omega))
        · refine Mv.by2 (S := fun g => g = b) ?_ (fun g _ e => e)
          ((repeat' (first | with_reducible exact mv | with_reducible refine Mv.put ?_ (.inl ?_) _)); all_goals ((try simp only); omega))
end
end Go.Proofs.Ythajmffhgbenpaa
