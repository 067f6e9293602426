/- Contracts and lemmas, put together. -/
import Derived.Test.YthajmffhgbenpaaPkB
import Derived.Test.YthajmffhgbenpaaPkG
/- Contracts: a matrix copied. -/
namespace Go.Proofs.Ythajmffhgbenpaa
set_option linter.unusedSimpArgs false
set_option linter.unusedVariables false
open Go.RowKit
section
set_option maxHeartbeats 2000000
theorem copyS_c (r c : Int) (A : Option Addr) (l : List Int) (n cap : Nat) (w : World) (hn : l.length = n) (ha : Rd w A l) (hl : n ≤ 1099511627776) :
    Calls Try.prog 109 #[.agg #[.int .i64 r, .int .i64 c, .slice A n cap]] w (Mat1 ⟨r, c, l⟩ w) := by
  obtain ⟨w1, hw1, mg, mr, hs1, g01⟩ := one_mat w r c (.slice A n cap)
  have HW1 := Lib.hid hw1
  have ha1 : Rd w1 A l := ha.grows g01
  have HN := Lib.hid hn
  have hs1' : w.heap.size + 1 < w1.heap.size := mr.lt
  clear hw1 hs1 hn
  go_enter Try.func109, Try.ntmps109
  go_wp2_with fail
  rw [← HW1.out]
  have hnew : Own (w1.alloc (.cells #[] 3)).drew w1.heap.size (.slice (some ⟨w1.heap.size, 0, none⟩) 0 0) [] := (Own.new_ w1 rfl (Nat.le_refl _)).drew
  (refine wp_region_heldL (fun W => W.cell? ⟨w.heap.size, 0, none⟩ = some (.int .i64 r) ∧ W.cell? ⟨w.heap.size, 1, none⟩ = some (.int .i64 c) ∧ W.cell? ⟨w.heap.size, 2, none⟩ = some (.slice A n cap)) (by kernel_rfl) (by ((try dsimp only); (first | exact (MBox.cells mg7) | ((have _tt := mg7); refine MBox.cells (v := .slice A n cap) ?_; ((repeat' (first | with_reducible exact mg7 | with_reducible refine MBox.alloc ?_ _ | with_reducible refine MBox.drew_ ?_ | with_reducible refine MBox.far ?_ ?_ _)); all_goals (first | omega | (simp; done) | (simp; omega)))) | exact (mg.grows (by exact bel0)).cells))) (fun hHeld => ?_); refine heldL_take (i := 0) (v := _) (by rfl) (by kernel_rfl) (by kernel_rfl) (by kernel_rfl) (fun _ _ _ h => h) (Or.inl ⟨by rfl, fun wS hSw => by ((try dsimp only at hSw); go_simp; (try with_reducible rfl))⟩) (by assumption) ?_; simp only [Act.put, List.setIfInBounds_toArray, List.set_cons_zero, List.set_cons_succ]; refine heldL_take (i := 1) (v := _) (by rfl) (by kernel_rfl) (by kernel_rfl) (by kernel_rfl) (fun _ _ _ h => h) (Or.inl ⟨by rfl, fun wS hSw => by ((try dsimp only at hSw); go_simp; (try with_reducible rfl))⟩) (by assumption) ?_; simp only [Act.put, List.setIfInBounds_toArray, List.set_cons_zero, List.set_cons_succ]; refine heldL_take (i := 2) (v := _) (by rfl) (by kernel_rfl) (by kernel_rfl) (by kernel_rfl) (fun _ _ _ h => h) (Or.inl ⟨by rfl, fun wS hSw => by ((try dsimp only at hSw); go_simp; (try with_reducible rfl))⟩) (by assumption) ?_; simp only [Act.put, List.setIfInBounds_toArray, List.set_cons_zero, List.set_cons_succ]; refine heldL_take (i := 3) (v := _) (by rfl) (by kernel_rfl) (by kernel_rfl) (by kernel_rfl) (fun _ _ _ h => h) (Or.inl ⟨by rfl, fun wS hSw => by ((try dsimp only at hSw); go_simp; (try with_reducible rfl))⟩) (by assumption) ?_; simp only [Act.put, List.setIfInBounds_toArray, List.set_cons_zero, List.set_cons_succ]; refine heldL_take (i := 5) (v := _) (by rfl) (by kernel_rfl) (by kernel_rfl) (by kernel_rfl) (fun _ _ _ h => h) (Or.inl ⟨by rfl, fun wS hSw => by ((try dsimp only at hSw); go_simp; (try with_reducible rfl))⟩) (by assumption) ?_; simp only [Act.put, List.setIfInBounds_toArray, List.set_cons_zero, List.set_cons_succ]; refine heldL_take (i := 6) (v := _) (by rfl) (by kernel_rfl) (by kernel_rfl) (by kernel_rfl) (fun _ _ _ h => h) (Or.inl ⟨by rfl, fun wS hSw => by ((try dsimp only at hSw); go_simp; (try with_reducible rfl))⟩) (by assumption) ?_; simp only [Act.put, List.setIfInBounds_toArray, List.set_cons_zero, List.set_cons_succ]; refine heldL_step (i := 4) (by kernel_rfl) (by rfl) (fun K hK => ?_); go_simp; refine hK.out _ _ (by ((try dsimp only); (first | exact (MBox.cells mg7) | ((have _tt := mg7); refine MBox.cells (v := .slice A n cap) ?_; ((repeat' (first | with_reducible exact mg7 | with_reducible refine MBox.alloc ?_ _ | with_reducible refine MBox.drew_ ?_ | with_reducible refine MBox.far ?_ ?_ _)); all_goals (first | omega | (simp; done) | (simp; omega)))) | exact (mg.grows (by exact bel0)).cells))) (fun hHeld => ?_); clear hK K; (try simp only [Act.put, List.setIfInBounds_toArray, List.set_cons_zero, List.set_cons_succ]); refine heldL_step (i := 7) (by kernel_rfl) (by rfl) (fun K hK => ?_); (refine step_app rfl (.tmp 7) (.tmp 9) rfl _ w1.heap.size _ [] (by rfl) hnew A l n cap (by rfl) HN.out (by exact (Rd.grows ha1 (by exact bel0))) (by simp; have := HN.out; omega) (by simp) ?_; intro v7 w7 ho7 hg7 hv7; have hb7 : Below w1.heap.size w1 w7 := Below.trans (show Grows w1 (w1.alloc (.cells #[] 3)).drew by exact bel0) (below_app hnew (by simp) hg7); rw [List.nil_append] at ho7; obtain ⟨A7, c7, rfl, _, _⟩ := ho7.val; have mg7 := mg.keep hb7 (by omega); have mr7 := mr.keep hb7 (by omega); obtain ⟨r0, r1, r2⟩ := mr7.cells; have rf := mr7.fz; have rl := mr7.lt; have hs7 := hb7.size) ; refine hK.out _ _ (by ((try dsimp only); (first | exact (MBox.cells mg7) | ((have _tt := mg7); refine MBox.cells (v := .slice A n cap) ?_; ((repeat' (first | with_reducible exact mg7 | with_reducible refine MBox.alloc ?_ _ | with_reducible refine MBox.drew_ ?_ | with_reducible refine MBox.far ?_ ?_ _)); all_goals (first | omega | (simp; done) | (simp; omega)))) | exact (mg.grows (by exact bel0)).cells))) (fun hHeld => ?_); clear hK K; (try simp only [Act.put, List.setIfInBounds_toArray, List.set_cons_zero, List.set_cons_succ]); refine heldL_take (i := 8) (v := _) (by rfl) (by kernel_rfl) (by kernel_rfl) (by kernel_rfl) (fun _ _ _ h => h) (Or.inl ⟨by rfl, fun wS hSw => by ((try dsimp only at hSw); go_simp; (try with_reducible rfl))⟩) (by assumption) ?_; simp only [Act.put, List.setIfInBounds_toArray, List.set_cons_zero, List.set_cons_succ]; refine heldL_step (i := 9) (by kernel_rfl) (by rfl) (fun K hK => ?_); go_simp; refine hK.out _ _ (by ((try dsimp only); (first | exact (MBox.cells mg7) | ((have _tt := mg7); refine MBox.cells (v := .slice A n cap) ?_; ((repeat' (first | with_reducible exact mg7 | with_reducible refine MBox.alloc ?_ _ | with_reducible refine MBox.drew_ ?_ | with_reducible refine MBox.far ?_ ?_ _)); all_goals (first | omega | (simp; done) | (simp; omega)))) | exact (mg.grows (by exact bel0)).cells))) (fun hHeld => ?_); clear hK K; (try simp only [Act.put, List.setIfInBounds_toArray, List.set_cons_zero, List.set_cons_succ]); refine wpAnyH_done (by kernel_rfl) ?_ _; refine NoPanic.normal ?_)
  go_wp2_with fail
  refine bodyPost_ret (v := .agg #[.int .i64 r, .int .i64 c, .slice A7 l.length c7]) ?_ rfl ?_
  · simp [results, Try.results109, go_sem, r0, r1, r2, rf, rl]
  · have hs0 := Below.size g01
    have ho9 := ho7.less (B' := w.heap.size) (by omega)
    have hf : ∀ g, (Value.slice A7 l.length c7).ownBlock = some g → g ≠ w.heap.size + 1 := fun g hg => by have := (World.ownsRow.lt ho7 g hg).1; omega
    exact ⟨_, rfl, ((ho9.far (p := ⟨w.heap.size + 1, 0, none⟩) hf _).far (p := ⟨w.heap.size + 1, 1, none⟩) hf _).far (p := ⟨w.heap.size + 1, 2, none⟩) hf _, by exact bel2 hb7 g01⟩
end
end Go.Proofs.Ythajmffhgbenpaa

/- Contracts: the reference's copy of a matrix, its Hermite form. -/
namespace Go.Proofs.Ythajmffhgbenpaa
set_option linter.unusedSimpArgs false
set_option linter.unusedVariables false
open Go.RowKit

/-- the answer is two matrices, in memory of their own, apart, and the bool ok -/
def Mat2R (m1 m2 : MX) (ok : Bool) (w : World) (e : Ending) (w' : World) : Prop :=
  ∃ v1 v2, e = .returned (.tuple #[.agg #[.int .i64 m1.r, .int .i64 m1.c, v1], .agg #[.int .i64 m2.r, .int .i64 m2.c, v2], .bool ok]) ∧ Own w' w.heap.size v1 m1.l ∧ Own w' w.heap.size v2 m2.l ∧ (∀ g, v1.ownBlock = some g → v2.ownBlock ≠ some g) ∧ Grows w w'
def oM2 (o : Option (MX × MX)) : MX × MX := o.getD (MX.nil, MX.nil)
def Mat2Ret (o : Option (MX × MX)) (w : World) (e : Ending) (w' : World) : Prop := Mat2R (oM2 o).1 (oM2 o).2 o.isSome w e w'
theorem mat2_out {o : Option (MX × MX)} {w w' : World} {e : Ending} (h : Mat2Ret o w e w') : ∃ v1 v2, e = .returned (.tuple #[.agg #[.int .i64 (oM2 o).1.r, .int .i64 (oM2 o).1.c, v1], .agg #[.int .i64 (oM2 o).2.r, .int .i64 (oM2 o).2.c, v2], .bool o.isSome]) ∧ Own w' w.heap.size v1 (oM2 o).1.l ∧ Own w' w.heap.size v2 (oM2 o).2.l ∧ (∀ g, v1.ownBlock = some g → v2.ownBlock ≠ some g) ∧ Grows w w' := h
/-- the Hermite form and the matrix that makes it -/
def hermO (a : MX) : Option (MX × MX) := if a.ok then (hermT a.r.toNat a.c.toNat a.l).map fun x => (⟨a.r, a.c, x.2.1⟩, ⟨a.r, a.r, x.2.2⟩) else none
theorem hermO_no {a : MX} (h : a.ok = false) : hermO a = none := by unfold hermO; rw [h]; rfl
theorem hermO_nat {R C : Nat} {l : List Int} (h : isMat R C l = true) : hermO ⟨R, C, l⟩ = (hermF R C (l, idL R) C).map fun x => (⟨R, C, x.2.1⟩, ⟨R, R, x.2.2⟩) := by
  unfold hermO MX.ok hermT
  simp only [h, if_true, Int.toNat_natCast]
theorem ok2_start {R C : Nat} {l : List Int} (h : isMat R C l = true) : Ok2 R C (l, idL R) := by
  obtain ⟨R', C', e1, e2, hR, hC, hl, hn⟩ := isMat_nat h
  obtain rfl : R = R' := by omega
  obtain rfl : C = C' := by omega
  exact ⟨hl, idL_length R, (allNum_iff _).2 hn, idL_num R⟩

section
set_option maxHeartbeats 2000000
/-- the boxes of a function with a matrix and two matrices to return -/
theorem three_mats (w : World) (r c : Int) (u : Value) :
    ∃ w1, w1 = ((w.alloc (.cells #[.int .i64 r, .int .i64 c, u] 26)).alloc (.cells #[.int .i64 0, .int .i64 0, .slice none 0 0] 26)).alloc (.cells #[.int .i64 0, .int .i64 0, .slice none 0 0] 26) ∧
      MBox w1 w.heap.size r c u ∧ MBox w1 (w.heap.size + 1) 0 0 (.slice none 0 0) ∧ MBox w1 (w.heap.size + 1 + 1) 0 0 (.slice none 0 0) ∧ w1.heap.size = w.heap.size + 3 ∧ Grows w w1 :=
  ⟨_, rfl, ((MBox.mk_ _ _ _ _ _).alloc _).alloc _, (MBox.new_ _ _ _ _ _ (by simp)).alloc _, MBox.new_ _ _ _ _ _ (by simp), by simp, by exact bel0⟩
theorem MBox.drew_ {w : World} {b : Nat} {r c : Int} {v : Value} (h : MBox w b r c v) : MBox w.drew b r c v := h.grows (by exact bel0)
theorem two_boxes2 {W : World} {b b' : Nat} {r c r' c' : Int} {v v' : Value} (h : MBox W b r c v) (h' : MBox W b' r' c' v') :
    W.cell? ⟨b, 0, none⟩ = some (.int .i64 r) ∧ W.cell? ⟨b, 1, none⟩ = some (.int .i64 c) ∧ W.cell? ⟨b, 2, none⟩ = some v ∧
    W.cell? ⟨b', 0, none⟩ = some (.int .i64 r') ∧ W.cell? ⟨b', 1, none⟩ = some (.int .i64 c') ∧ W.cell? ⟨b', 2, none⟩ = some v' := ⟨h.c0, h.c1, h.c2, h'.c0, h'.c1, h'.c2⟩
theorem hermRes_out {w : World} {B : Nat} {A U : Option Addr} {n cap m cap2 : Nat} {o : Option TS} (h : HermRes w B A U n cap m cap2 o) : ∃ x : LL, Pr w B A U n cap m cap2 x.1 x.2 ∧ ∀ y, o = some y → y.2 = x := h
theorem sHerm_c (r c : Int) (A : Option Addr) (l : List Int) (n cap : Nat) (w : World) (hn : l.length = n) (ha : Rd w A l) (hl : n ≤ 1099511627776) :
    Calls Try.prog 60 #[.agg #[.int .i64 r, .int .i64 c, .slice A n cap]] w (Mat2Ret (hermO ⟨r, c, l⟩) w) := by
  have HS := fun w h => sIsMatrix_c r c A l n cap w hn h hl
  obtain ⟨w1, hw1, mg, m2, m3, hs1, g01⟩ := three_mats w r c (.slice A n cap)
  have HW1 := Lib.hid hw1
  have HS1 := Lib.hid hs1
  have ha1 : Rd w1 A l := ha.grows g01
  clear hw1 hs1
  obtain ⟨RES, hRES⟩ : ∃ x, x = hermO ⟨r, c, l⟩ := ⟨_, rfl⟩
  rw [← hRES]
  cases hq : isMat r c l
  · rw [hermO_no (a := ⟨r, c, l⟩) hq] at hRES
    rw [hq] at HS
    have HS' := Lib.hid HS
    subst hRES
    clear HS hq hn
    go_enter Try.func60, Try.ntmps60
    go_wp2_with fail
    refine (HS'.out _ (by exact (Rd.grows ha (by exact bel0)))).mono ?_; rintro e w2 ⟨rfl, g2⟩
    rw [← HW1.out] at g2
    (have z2 := m2.grows (w' := w2) (by exact bel1 g2); have z3 := m3.grows (w' := w2) (by exact bel1 g2); obtain ⟨zr0, zr1, zr2⟩ := z2.cells; have zrf := z2.fz; have zrl := z2.lt; obtain ⟨yr0, yr1, yr2⟩ := z3.cells; have yrf := z3.fz; have yrl := z3.lt; go_wp2_with fail; refine bodyPost_ret (v := .tuple #[.agg #[.int .i64 0, .int .i64 0, .slice none 0 0], .agg #[.int .i64 0, .int .i64 0, .slice none 0 0], .bool false]) ?_ rfl ?_; (simp [results, Try.results60, go_sem, zr0, zr1, zr2, zrf, zrl, yr0, yr1, yr2, yrf, yrl]); exact ⟨_, _, rfl, Own.nil _ _, Own.nil _ _, by simp [Value.ownBlock], by exact bel2 g2 g01⟩)
  · rw [hq] at HS
    have HS' := Lib.hid HS
    obtain ⟨R, C, rfl, rfl, hR, hC, hlen, hnum⟩ := isMat_nat hq
    rw [hermO_nat hq] at hRES
    have HR := Lib.hid hRES
    have ok := ok2_start hq
    have hn576 : n ≤ 576 := by rw [← hn, hlen]; exact Nat.mul_le_mul hR hC
    have CP := Lib.hid fun W h => copyS_c R C A l n cap W hn h hl
    have CI := Lib.hid fun W => sIdent_c R W hR
    have HLEN := Lib.hid hlen
    have HOK := Lib.hid ok
    clear HS hq hRES ok hlen hnum hn
    go_enter Try.func60, Try.ntmps60
    go_wp2_with fail
    refine (HS'.out _ (by exact (Rd.grows ha (by exact bel0)))).mono ?_; rintro e w2 ⟨rfl, g2⟩
    rw [← HW1.out] at g2
    obtain ⟨b0, b1, b2⟩ := (mg.grows g2).cells
    go_wp2_with fail
    refine (CP.out _ (by exact (Rd.grows ha1 (by exact bel1 g2)))).mono ?_; rintro e w3 hop; obtain ⟨v3, rfl, o3, g3⟩ := mat1_out hop; clear hop
    obtain ⟨A3, c3, rfl, _, _⟩ := o3.val
    clear b0 b1 b2
    have g13 : Grows w1 w3 := by exact bel2 g3 g2
    obtain ⟨b0, b1, b2⟩ := (mg.grows g13).cells
    have bl := (mg.grows g13).lt
    have hs2 := Below.size g2
    have hs3 := Below.size g3
    go_wp2_with fail
    refine (CI.out _).mono ?_; rintro e w4 ⟨v4, rfl, o4, g4⟩
    obtain ⟨U, cu, rfl, _, _⟩ := o4.val
    rw [idL_length] at o4 ⊢
    clear b0 b1 b2 bl
    have hs4 := Below.size g4
    simp at hs4
    have m5 : MBox w4 w3.heap.size R C (.slice A3 l.length c3) := (MBox.mk_ w3 R C (.slice A3 l.length c3) 26).grows g4
    have m6 : MBox (w4.alloc (.cells #[.int .i64 R, .int .i64 R, .slice U (R * R) cu] 26)) w4.heap.size R R (.slice U (R * R) cu) := MBox.mk_ _ _ _ _ _
    have o4' : Own w4 (w3.heap.size + 1) (.slice U (R * R) cu) (idL R) := by have := o4; simpa using this
    obtain ⟨w5, hw5⟩ : ∃ w5, w5 = w4.alloc (.cells #[.int .i64 R, .int .i64 R, .slice U (R * R) cu] 26) := ⟨_, rfl⟩
    have HW5 := Lib.hid hw5
    have m5' : MBox w5 w3.heap.size R C (.slice A3 l.length c3) := by rw [hw5]; exact m5.alloc _
    have m6' : MBox w5 w4.heap.size R R (.slice U (R * R) cu) := by rw [hw5]; exact m6
    have g15 : Grows w1 w5 := by rw [hw5]; exact bel2 g4 g13
    have hA : ∀ g, (Value.slice A3 l.length c3).ownBlock = some g → w2.heap.size ≤ g ∧ g < w3.heap.size := fun g h => World.ownsRow.lt o3 g h
    have hU : ∀ g, (Value.slice U (R * R) cu).ownBlock = some g → w3.heap.size + 1 ≤ g ∧ g < w4.heap.size := fun g h => World.ownsRow.lt o4' g h
    have pr5 : Pr w5 w1.heap.size A3 U l.length c3 (R * R) cu l (idL R) := ⟨by rw [hw5]; exact ((o3.grows (w' := w4) (by exact bel1 g4)).alloc _).less (by omega), by rw [hw5]; exact (o4'.alloc _).less (by omega), fun g h h2 => by have := hA g h; have := hU g h2; omega⟩
    have CH := Lib.hid (l12Hermite_c R C A3 U l.length c3 (R * R) cu w1.heap.size (l, idL R) w5 HLEN.out rfl hR hC HOK.out pr5)
    have HA := Lib.hid hA
    have HU := Lib.hid hU
    obtain ⟨b0, b1, b2⟩ := m5.cells
    have bl := m5.lt
    clear hw5 m5 m6 o3 o4 o4' hA hU pr5
    go_wp2_with fail
    rw [← HW5.out]
    refine CH.out.mono ?_; rintro e w6 ⟨rfl, hres, g6⟩
    have hres' := hres
    obtain ⟨x, pr6, hx⟩ := hermRes_out hres
    clear b0 b1 b2 bl hres hres'
    have mt5 := m5'.two g6 (fun g h => by have := HA.out g h; omega) (fun g h => by have := HU.out g h; omega)
    have mt6 := m6'.two g6 (fun g h => by have := HA.out g h; omega) (fun g h => by have := HU.out g h; omega)
    have b16 : Below w1.heap.size w5 w6 := g6.below (Below.size g15) (fun g h => by have := HA.out g h; omega) (fun g h => by have := HU.out g h; omega)
    have g16 : Grows w1 w6 := Below.trans g15 b16
    cases ho : hermF R C (l, idL R) C with
    | none =>
      obtain rfl : RES = none := by rw [HR.out, ho]; rfl
      clear ho hx
      (have z2 := m2.grows (w' := w6) (by exact bel1 g16); have z3 := m3.grows (w' := w6) (by exact bel1 g16); obtain ⟨zr0, zr1, zr2⟩ := z2.cells; have zrf := z2.fz; have zrl := z2.lt; obtain ⟨yr0, yr1, yr2⟩ := z3.cells; have yrf := z3.fz; have yrl := z3.lt; go_wp2_with fail; refine bodyPost_ret (v := .tuple #[.agg #[.int .i64 0, .int .i64 0, .slice none 0 0], .agg #[.int .i64 0, .int .i64 0, .slice none 0 0], .bool false]) ?_ rfl ?_; (simp [results, Try.results60, go_sem, zr0, zr1, zr2, zrf, zrl, yr0, yr1, yr2, yrf, yrl]); exact ⟨_, _, rfl, Own.nil _ _, Own.nil _ _, by simp [Value.ownBlock], by exact bel2 g16 g01⟩)
    | some y =>
      obtain ⟨T, y⟩ := y
      have hy := hx _ ho
      simp only at hy
      subst hy
      obtain rfl : RES = some (⟨R, C, y.1⟩, ⟨R, R, y.2⟩) := by rw [HR.out, ho]; rfl
      have z2 := m2.grows g16; have z3 := m3.grows g16
      obtain ⟨zr0, zr1, zr2⟩ := z2.cells; have zrf := z2.fz; have zrl := z2.lt
      obtain ⟨yr0, yr1, yr2⟩ := z3.cells; have yrf := z3.fz; have yrl := z3.lt
      have hs1 := HS1.out
      have hs6 := g6.size
      have hs5 := Below.size g15
      clear ho hx
      go_wp2_with fail
      (refine wp_region_heldL (fun W => W.cell? ⟨w3.heap.size, 0, none⟩ = some (.int .i64 R) ∧ W.cell? ⟨w3.heap.size, 1, none⟩ = some (.int .i64 C) ∧ W.cell? ⟨w3.heap.size, 2, none⟩ = some (.slice A3 l.length c3) ∧ W.cell? ⟨w4.heap.size, 0, none⟩ = some (.int .i64 R) ∧ W.cell? ⟨w4.heap.size, 1, none⟩ = some (.int .i64 R) ∧ W.cell? ⟨w4.heap.size, 2, none⟩ = some (.slice U (R * R) cu)) (by kernel_rfl) (by ((try dsimp only); (exact two_boxes2 (v := .slice A3 l.length c3) (v' := .slice U (R * R) cu) (by ((repeat' (first | with_reducible exact mt5 | with_reducible refine MBox.alloc ?_ _ | with_reducible refine MBox.drew_ ?_ | with_reducible refine MBox.far ?_ ?_ _)); all_goals (first | omega | (simp; done) | (simp; omega)))) (by ((repeat' (first | with_reducible exact mt6 | with_reducible refine MBox.alloc ?_ _ | with_reducible refine MBox.drew_ ?_ | with_reducible refine MBox.far ?_ ?_ _)); all_goals (first | omega | (simp; done) | (simp; omega))))))) (fun hHeld => ?_); refine heldL_take (i := 0) (v := _) (by rfl) (by kernel_rfl) (by kernel_rfl) (by kernel_rfl) (fun _ _ _ h => h) (Or.inl ⟨by rfl, fun wS hSw => by ((try dsimp only at hSw); go_simp; (try with_reducible rfl))⟩) (by assumption) ?_; simp only [Act.put, List.setIfInBounds_toArray, List.set_cons_zero, List.set_cons_succ]; refine heldL_take (i := 1) (v := _) (by rfl) (by kernel_rfl) (by kernel_rfl) (by kernel_rfl) (fun _ _ _ h => h) (Or.inl ⟨by rfl, fun wS hSw => by ((try dsimp only at hSw); go_simp; (try with_reducible rfl))⟩) (by assumption) ?_; simp only [Act.put, List.setIfInBounds_toArray, List.set_cons_zero, List.set_cons_succ]; refine heldL_step (i := 2) (by kernel_rfl) (by rfl) (fun K hK => ?_); go_simp; refine hK.out _ _ (by ((try dsimp only); (exact two_boxes2 (v := .slice A3 l.length c3) (v' := .slice U (R * R) cu) (by ((repeat' (first | with_reducible exact mt5 | with_reducible refine MBox.alloc ?_ _ | with_reducible refine MBox.drew_ ?_ | with_reducible refine MBox.far ?_ ?_ _)); all_goals (first | omega | (simp; done) | (simp; omega)))) (by ((repeat' (first | with_reducible exact mt6 | with_reducible refine MBox.alloc ?_ _ | with_reducible refine MBox.drew_ ?_ | with_reducible refine MBox.far ?_ ?_ _)); all_goals (first | omega | (simp; done) | (simp; omega))))))) (fun hHeld => ?_); clear hK K; (try simp only [Act.put, List.setIfInBounds_toArray, List.set_cons_zero, List.set_cons_succ]); refine heldL_step (i := 3) (by kernel_rfl) (by rfl) (fun K hK => ?_); go_simp; refine hK.out _ _ (by ((try dsimp only); (exact two_boxes2 (v := .slice A3 l.length c3) (v' := .slice U (R * R) cu) (by ((repeat' (first | with_reducible exact mt5 | with_reducible refine MBox.alloc ?_ _ | with_reducible refine MBox.drew_ ?_ | with_reducible refine MBox.far ?_ ?_ _)); all_goals (first | omega | (simp; done) | (simp; omega)))) (by ((repeat' (first | with_reducible exact mt6 | with_reducible refine MBox.alloc ?_ _ | with_reducible refine MBox.drew_ ?_ | with_reducible refine MBox.far ?_ ?_ _)); all_goals (first | omega | (simp; done) | (simp; omega))))))) (fun hHeld => ?_); clear hK K; (try simp only [Act.put, List.setIfInBounds_toArray, List.set_cons_zero, List.set_cons_succ]); refine heldL_take (i := 4) (v := _) (by rfl) (by kernel_rfl) (by kernel_rfl) (by kernel_rfl) (fun _ _ _ h => h) (Or.inl ⟨by rfl, fun wS hSw => by ((try dsimp only at hSw); go_simp; (try with_reducible rfl))⟩) (by assumption) ?_; simp only [Act.put, List.setIfInBounds_toArray, List.set_cons_zero, List.set_cons_succ]; refine wpAnyH_done (by kernel_rfl) ?_ _; refine NoPanic.normal ?_)
      go_wp2_with fail
      refine bodyPost_ret (v := .tuple #[.agg #[.int .i64 R, .int .i64 C, .slice A3 l.length c3], .agg #[.int .i64 R, .int .i64 R, .slice U (R * R) cu], .bool true]) ?_ rfl ?_
      · simp [results, Try.results60, go_sem, zr0, zr1, zr2, zrf, zrl, yr0, yr1, yr2, yrf, yrl]
      · have hoA : Own w6 w1.heap.size (.slice A3 l.length c3) (oM2 (some (⟨(R : Int), (C : Int), y.1⟩, ⟨(R : Int), (R : Int), y.2⟩))).1.l := pr6.oa
        have hoU : Own w6 w1.heap.size (.slice U (R * R) cu) (oM2 (some (⟨(R : Int), (C : Int), y.1⟩, ⟨(R : Int), (R : Int), y.2⟩))).2.l := pr6.ou
        exact ⟨_, _, rfl, by exact ownl hoA, by exact ownl hoU, pr6.ne, by exact bel2 g16 g01⟩
end
end Go.Proofs.Ythajmffhgbenpaa
