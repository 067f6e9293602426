/- Contracts and lemmas, put together. -/
import Derived.Deep.CutBlock
import Derived.Deep.DeepCutAuto
import Derived.Deep.RegionHeld3
import Derived.Laws.BitsLemmas
import Derived.Test.YthajmffhgbenpaaPkA
import Derived.Test.YthajmffhgbenpaaPkB
import Derived.Test.YthajmffhgbenpaaPkF
import Derived.Test.YthajmffhgbenpaaPkG
/- The draws: the cursor over the code's bytes; a byte. -/
namespace Go.Proofs.Ythajmffhgbenpaa
set_option linter.unusedSimpArgs false
set_option linter.unusedVariables false
open Go.RowKit

theorem and255 (x : Int) : 0 ≤ bits .and .i64 x 255 ∧ bits .and .i64 x 255 ≤ 255 := by
  have h : (BitVec.ofInt 64 x &&& BitVec.ofInt 64 255).toNat ≤ 255 := by rw [BitVec.toNat_and]; exact Nat.le_trans Nat.and_le_right (by decide)
  have e : bits .and .i64 x 255 = IntKind.i64.wrap ((BitVec.ofInt 64 x &&& BitVec.ofInt 64 255).toNat) := rfl
  rw [e, IntKind.wrap_i64]; omega
/-- the code's bytes -/
def CodeR (w : World) (B : Nat) (A : Option Addr) (n : Nat) : Prop := ∀ i, i < n → ∃ b off x, A = some ⟨b, off, none⟩ ∧ b < B ∧ w.cell? ⟨b, off + i, none⟩ = some (.int .u8 x) ∧ 0 ≤ x ∧ x ≤ 255
theorem CodeR.keep {w w' : World} {B : Nat} {A : Option Addr} {n : Nat} (h : CodeR w B A n) (g : Below B w w') : CodeR w' B A n := fun i hi => by
  obtain ⟨b, off, x, h1, h2, h3, h4⟩ := h i hi
  exact ⟨b, off, x, h1, h2, (g.cell (p := ⟨b, off + i, none⟩) h2).trans h3, h4⟩
/-- a cursor -/
structure CurAt (w : World) (B b : Nat) (A : Option Addr) (n cap : Nat) (i : Nat) (h : Int) : Prop where
  lo : B ≤ b
  lt : b < w.heap.size
  c0 : w.cell? ⟨b, 0, none⟩ = some (.slice A n cap)
  c1 : w.cell? ⟨b, 1, none⟩ = some (.int .i64 i)
  c2 : w.cell? ⟨b, 2, none⟩ = some (.int .i64 h)
  fz : ∀ o, w.frozen? ⟨b, o, none⟩ = false
  rd : CodeR w B A n
  nn : n ≤ 1048576
def Cur (w : World) (B b : Nat) (A : Option Addr) (n cap : Nat) : Prop := ∃ (i : Nat) (h : Int), i ≤ n ∧ CurAt w B b A n cap i h
theorem below_by {w w' : World} {b B : Nat} (g : w.grownBy w' (some b)) (hb : B ≤ b) (hs : B ≤ w.heap.size) : Below B w w' :=
  ⟨g.os, g.tape, g.output, g.size, fun i hi => g.block i (by omega) (by intro e; cases e; omega)⟩
section
variable {w w' : World} {B b : Nat} {A : Option Addr} {n cap i : Nat} {h : Int}
theorem CurAt.cells (c : CurAt w B b A n cap i h) : w.cell? ⟨b, 0, none⟩ = some (.slice A n cap) ∧ w.cell? ⟨b, 1, none⟩ = some (.int .i64 i) ∧ w.cell? ⟨b, 2, none⟩ = some (.int .i64 h) := ⟨c.c0, c.c1, c.c2⟩
theorem CurAt.grows (c : CurAt w B b A n cap i h) (g : Grows w w') : CurAt w' B b A n cap i h :=
  ⟨c.lo, Nat.lt_of_lt_of_le c.lt (Below.size g), (g.cell (p := ⟨b, 0, none⟩) c.lt).trans c.c0, (g.cell (p := ⟨b, 1, none⟩) c.lt).trans c.c1, (g.cell (p := ⟨b, 2, none⟩) c.lt).trans c.c2, fun o => (g.frozen (p := ⟨b, o, none⟩) c.lt).trans (c.fz o), c.rd.keep (Below.mono g (by have := c.lo; have := c.lt; omega)), c.nn⟩
theorem CurAt.put1 (c : CurAt w B b A n cap i h) (j : Nat) : CurAt (w.setCell ⟨b, 1, none⟩ (.int .i64 j)) B b A n cap j h ∧ w.grownBy (w.setCell ⟨b, 1, none⟩ (.int .i64 j)) (some b) := by
  have g : w.grownBy (w.setCell ⟨b, 1, none⟩ (.int .i64 j)) (some b) := only_setCell (World.grownBy.refl w (some b)) rfl _
  have k := c.rd.keep (below_by g c.lo (by have := c.lo; have := c.lt; omega))
  obtain ⟨h0, h1, h2⟩ := c.cells
  have hf := c.fz
  exact ⟨⟨c.lo, by simp; exact c.lt, by simp [go_sem, h0], by simp [go_sem, h1], by simp [go_sem, h2], fun o => by simp [go_sem, hf], k, c.nn⟩, g⟩
theorem CurAt.put2 (c : CurAt w B b A n cap i h) (y : Int) : CurAt (w.setCell ⟨b, 2, none⟩ (.int .i64 y)) B b A n cap i y ∧ w.grownBy (w.setCell ⟨b, 2, none⟩ (.int .i64 y)) (some b) := by
  have g : w.grownBy (w.setCell ⟨b, 2, none⟩ (.int .i64 y)) (some b) := only_setCell (World.grownBy.refl w (some b)) rfl _
  have k := c.rd.keep (below_by g c.lo (by have := c.lo; have := c.lt; omega))
  obtain ⟨h0, h1, h2⟩ := c.cells
  have hf := c.fz
  exact ⟨⟨c.lo, by simp; exact c.lt, by simp [go_sem, h0], by simp [go_sem, h1], by simp [go_sem, h2], fun o => by simp [go_sem, hf], k, c.nn⟩, g⟩
theorem Cur.grows (c : Cur w B b A n cap) (g : Grows w w') : Cur w' B b A n cap := by
  obtain ⟨i, h, hi, c⟩ := c
  exact ⟨i, h, hi, c.grows g⟩
theorem Cur.lo (c : Cur w B b A n cap) : B ≤ b := by obtain ⟨i, h, hi, c⟩ := c; exact c.lo
theorem Cur.lt (c : Cur w B b A n cap) : b < w.heap.size := by obtain ⟨i, h, hi, c⟩ := c; exact c.lt
theorem Cur.below (c : Cur w B b A n cap) (g : w.grownBy w' (some b)) : Below B w w' := below_by g c.lo (by have := c.lo; have := c.lt; omega)
/-- a number below a bound -/
def DNum (B b : Nat) (A : Option Addr) (n cap m : Nat) (w : World) (e : Ending) (w' : World) : Prop := ∃ x : Nat, e = .returned (.int .i64 x) ∧ x < m ∧ Cur w' B b A n cap ∧ w.grownBy w' (some b)
end
section
set_option maxHeartbeats 4000000
set_option maxRecDepth 100000
theorem l1Byte_c (B b : Nat) (A : Option Addr) (n cap : Nat) (w : World) (h : Cur w B b A n cap) :
    Calls Try.prog 107 #[.pointer (some ⟨b, 0, none⟩)] w (DNum B b A n cap 256 w) := by
  obtain ⟨i, x, hi, c⟩ := h
  obtain ⟨h0, h1, h2⟩ := c.cells
  have hf := c.fz
  have hl := c.lt
  go_enter Try.func107, Try.ntmps107
  go_wp2_with fail
  obtain ⟨y, hy⟩ : ∃ y, y = wrap64 (wrap64 (x * 6364136223846793005) + 1442695040888963407) := ⟨_, rfl⟩
  rw [← hy]
  obtain ⟨c1, gb1⟩ := c.put2 y
  obtain ⟨w1, hw1⟩ : ∃ w1, w1 = w.setCell ⟨b, 2, none⟩ (.int .i64 y) := ⟨_, rfl⟩
  rw [← hw1] at c1 gb1 ⊢
  clear h0 h1 h2 hf hl hy hw1 c
  (refine wp_region_heldL (fun W => W.cell? ⟨b, 0, none⟩ = some (.slice A n cap) ∧ W.cell? ⟨b, 1, none⟩ = some (.int .i64 i) ∧ W.cell? ⟨b, 2, none⟩ = some (.int .i64 y)) (by kernel_rfl) (by ((try dsimp only); (exact (c1.grows (by exact bel0)).cells))) (fun hHeld => ?_); refine heldL_take (i := 0) (v := _) (by rfl) (by kernel_rfl) (by kernel_rfl) (by kernel_rfl) (fun _ _ _ h => h) (Or.inl ⟨by rfl, fun wS hSw => by ((try dsimp only at hSw); go_simp; (try with_reducible rfl))⟩) (by assumption) ?_; simp only [Act.put, List.setIfInBounds_toArray, List.set_cons_zero, List.set_cons_succ]; refine heldL_take (i := 1) (v := _) (by rfl) (by kernel_rfl) (by kernel_rfl) (by kernel_rfl) (fun _ _ _ h => h) (Or.inl ⟨by rfl, fun wS hSw => by ((try dsimp only at hSw); go_simp; (try with_reducible rfl))⟩) (by assumption) ?_; simp only [Act.put, List.setIfInBounds_toArray, List.set_cons_zero, List.set_cons_succ]; refine heldL_take (i := 2) (v := _) (by rfl) (by kernel_rfl) (by kernel_rfl) (by kernel_rfl) (fun _ _ _ h => h) (Or.inl ⟨by rfl, fun wS hSw => by ((try dsimp only at hSw); go_simp; (try with_reducible rfl))⟩) (by assumption) ?_; simp only [Act.put, List.setIfInBounds_toArray, List.set_cons_zero, List.set_cons_succ]; refine heldL_take (i := 3) (v := _) (by rfl) (by kernel_rfl) (by kernel_rfl) (by kernel_rfl) (fun _ _ _ h => h) (Or.inl ⟨by rfl, fun wS hSw => by ((try dsimp only at hSw); go_simp; (try with_reducible rfl))⟩) (by assumption) ?_; simp only [Act.put, List.setIfInBounds_toArray, List.set_cons_zero, List.set_cons_succ]; refine heldL_take (i := 4) (v := _) (by rfl) (by kernel_rfl) (by kernel_rfl) (by kernel_rfl) (fun _ _ _ h => h) (Or.inl ⟨by rfl, fun wS hSw => by ((try dsimp only at hSw); go_simp; (try with_reducible rfl))⟩) (by assumption) ?_; simp only [Act.put, List.setIfInBounds_toArray, List.set_cons_zero, List.set_cons_succ]; refine heldL_take (i := 5) (v := _) (by rfl) (by kernel_rfl) (by kernel_rfl) (by kernel_rfl) (fun _ _ _ h => h) (Or.inl ⟨by rfl, fun wS hSw => by ((try dsimp only at hSw); go_simp; (try with_reducible rfl))⟩) (by assumption) ?_; simp only [Act.put, List.setIfInBounds_toArray, List.set_cons_zero, List.set_cons_succ]; refine heldL_take (i := 6) (v := _) (by rfl) (by kernel_rfl) (by kernel_rfl) (by kernel_rfl) (fun _ _ _ h => h) (Or.inl ⟨by rfl, fun wS hSw => by ((try dsimp only at hSw); go_simp; (try with_reducible rfl))⟩) (by assumption) ?_; simp only [Act.put, List.setIfInBounds_toArray, List.set_cons_zero, List.set_cons_succ]; refine heldL_take (i := 7) (v := _) (by rfl) (by kernel_rfl) (by kernel_rfl) (by kernel_rfl) (fun _ _ _ h => h) (Or.inl ⟨by rfl, fun wS hSw => by ((try dsimp only at hSw); go_simp; (try with_reducible rfl))⟩) (by assumption) ?_; simp only [Act.put, List.setIfInBounds_toArray, List.set_cons_zero, List.set_cons_succ]; refine heldL_take (i := 8) (v := _) (by rfl) (by kernel_rfl) (by kernel_rfl) (by kernel_rfl) (fun _ _ _ h => h) (Or.inl ⟨by rfl, fun wS hSw => by ((try dsimp only at hSw); go_simp; (try with_reducible rfl))⟩) (by assumption) ?_; simp only [Act.put, List.setIfInBounds_toArray, List.set_cons_zero, List.set_cons_succ]; refine heldL_take (i := 9) (v := _) (by rfl) (by kernel_rfl) (by kernel_rfl) (by kernel_rfl) (fun _ _ _ h => h) (Or.inl ⟨by rfl, fun wS hSw => by ((try dsimp only at hSw); go_simp; (try with_reducible rfl))⟩) (by assumption) ?_; simp only [Act.put, List.setIfInBounds_toArray, List.set_cons_zero, List.set_cons_succ]; refine heldL_take (i := 10) (v := _) (by rfl) (by kernel_rfl) (by kernel_rfl) (by kernel_rfl) (fun _ _ _ h => h) (Or.inl ⟨by rfl, fun wS hSw => by ((try dsimp only at hSw); go_simp; (try with_reducible rfl))⟩) (by assumption) ?_; simp only [Act.put, List.setIfInBounds_toArray, List.set_cons_zero, List.set_cons_succ]; refine heldL_take (i := 11) (v := _) (by rfl) (by kernel_rfl) (by kernel_rfl) (by kernel_rfl) (fun _ _ _ h => h) (Or.inl ⟨by rfl, fun wS hSw => by ((try dsimp only at hSw); go_simp; (try with_reducible rfl))⟩) (by assumption) ?_; simp only [Act.put, List.setIfInBounds_toArray, List.set_cons_zero, List.set_cons_succ]; refine heldL_take (i := 12) (v := _) (by rfl) (by kernel_rfl) (by kernel_rfl) (by kernel_rfl) (fun _ _ _ h => h) (Or.inl ⟨by rfl, fun wS hSw => by ((try dsimp only at hSw); go_simp; (try with_reducible rfl))⟩) (by assumption) ?_; simp only [Act.put, List.setIfInBounds_toArray, List.set_cons_zero, List.set_cons_succ]; refine wpAnyH_done (by kernel_rfl) ?_ _; refine NoPanic.normal ?_)
  obtain ⟨z, hz⟩ : ∃ z, z = bits .and .i64 (bits .xor .i64 (y / 8589934592) (y / 35184372088832)) 255 := ⟨_, rfl⟩
  rw [← hz]
  have hz1 : 0 ≤ z ∧ z ≤ 255 := by rw [hz]; exact and255 _
  clear hz
  obtain ⟨z, rfl⟩ : ∃ k : Nat, z = (k : Int) := ⟨z.toNat, by omega⟩
  have c2 := c1.grows (w' := w1.drew) (by exact bel0)
  have gb2 : w.grownBy w1.drew (some b) := only_right gb1 (by exact bel0)
  obtain ⟨w2, hw2⟩ : ∃ w2, w2 = w1.drew := ⟨_, rfl⟩
  rw [← hw2] at c2 gb2 ⊢
  clear hw2 c1 gb1
  have hcap : (n : Int) ≤ 1048576 := by have := c2.nn; omega
  by_cases hlt : i < n
  · have hlt' : (i : Int) < (n : Int) := by omega
    go_wp2_with fail
    (refine wp_region_heldL (fun W => W.cell? ⟨b, 0, none⟩ = some (.slice A n cap) ∧ W.cell? ⟨b, 1, none⟩ = some (.int .i64 i) ∧ W.cell? ⟨b, 2, none⟩ = some (.int .i64 y)) (by kernel_rfl) (by ((try dsimp only); (exact (c2.grows (by exact bel0)).cells))) (fun hHeld => ?_); refine heldL_take (i := 0) (v := _) (by rfl) (by kernel_rfl) (by kernel_rfl) (by kernel_rfl) (fun _ _ _ h => h) (Or.inl ⟨by rfl, fun wS hSw => by ((try dsimp only at hSw); go_simp; (try with_reducible rfl))⟩) (by assumption) ?_; simp only [Act.put, List.setIfInBounds_toArray, List.set_cons_zero, List.set_cons_succ]; refine heldL_take (i := 1) (v := _) (by rfl) (by kernel_rfl) (by kernel_rfl) (by kernel_rfl) (fun _ _ _ h => h) (Or.inl ⟨by rfl, fun wS hSw => by ((try dsimp only at hSw); go_simp; (try with_reducible rfl))⟩) (by assumption) ?_; simp only [Act.put, List.setIfInBounds_toArray, List.set_cons_zero, List.set_cons_succ]; refine heldL_take (i := 2) (v := _) (by rfl) (by kernel_rfl) (by kernel_rfl) (by kernel_rfl) (fun _ _ _ h => h) (Or.inl ⟨by rfl, fun wS hSw => by ((try dsimp only at hSw); go_simp; (try with_reducible rfl))⟩) (by assumption) ?_; simp only [Act.put, List.setIfInBounds_toArray, List.set_cons_zero, List.set_cons_succ]; refine heldL_take (i := 3) (v := _) (by rfl) (by kernel_rfl) (by kernel_rfl) (by kernel_rfl) (fun _ _ _ h => h) (Or.inl ⟨by rfl, fun wS hSw => by ((try dsimp only at hSw); go_simp; (try with_reducible rfl))⟩) (by assumption) ?_; simp only [Act.put, List.setIfInBounds_toArray, List.set_cons_zero, List.set_cons_succ]; refine heldL_take (i := 4) (v := _) (by rfl) (by kernel_rfl) (by kernel_rfl) (by kernel_rfl) (fun _ _ _ h => h) (Or.inl ⟨by rfl, fun wS hSw => by ((try dsimp only at hSw); go_simp; (try with_reducible rfl))⟩) (by assumption) ?_; simp only [Act.put, List.setIfInBounds_toArray, List.set_cons_zero, List.set_cons_succ]; refine heldL_take (i := 5) (v := _) (by rfl) (by kernel_rfl) (by kernel_rfl) (by kernel_rfl) (fun _ _ _ h => h) (Or.inl ⟨by rfl, fun wS hSw => by ((try dsimp only at hSw); go_simp; (try with_reducible rfl))⟩) (by assumption) ?_; simp only [Act.put, List.setIfInBounds_toArray, List.set_cons_zero, List.set_cons_succ]; refine heldL_take (i := 6) (v := _) (by rfl) (by kernel_rfl) (by kernel_rfl) (by kernel_rfl) (fun _ _ _ h => h) (Or.inl ⟨by rfl, fun wS hSw => by ((try dsimp only at hSw); go_simp; (try with_reducible rfl))⟩) (by assumption) ?_; simp only [Act.put, List.setIfInBounds_toArray, List.set_cons_zero, List.set_cons_succ]; refine heldL_take (i := 7) (v := _) (by rfl) (by kernel_rfl) (by kernel_rfl) (by kernel_rfl) (fun _ _ _ h => h) (Or.inl ⟨by rfl, fun wS hSw => by ((try dsimp only at hSw); go_simp; (try with_reducible rfl))⟩) (by assumption) ?_; simp only [Act.put, List.setIfInBounds_toArray, List.set_cons_zero, List.set_cons_succ]; refine heldL_take (i := 8) (v := _) (by rfl) (by kernel_rfl) (by kernel_rfl) (by kernel_rfl) (fun _ _ _ h => h) (Or.inl ⟨by rfl, fun wS hSw => by ((try dsimp only at hSw); go_simp; (try with_reducible rfl))⟩) (by assumption) ?_; simp only [Act.put, List.setIfInBounds_toArray, List.set_cons_zero, List.set_cons_succ]; refine heldL_take (i := 9) (v := _) (by rfl) (by kernel_rfl) (by kernel_rfl) (by kernel_rfl) (fun _ _ _ h => h) (Or.inl ⟨by rfl, fun wS hSw => by ((try dsimp only at hSw); go_simp; (try with_reducible rfl))⟩) (by assumption) ?_; simp only [Act.put, List.setIfInBounds_toArray, List.set_cons_zero, List.set_cons_succ]; refine wpAnyH_done (by kernel_rfl) ?_ _; refine NoPanic.normal ?_)
    have c3 := c2.grows (w' := w2.drew) (by exact bel0)
    have gb3 : w.grownBy w2.drew (some b) := only_right gb2 (by exact bel0)
    obtain ⟨w3, hw3⟩ : ∃ w3, w3 = w2.drew := ⟨_, rfl⟩
    rw [← hw3] at c3 gb3 ⊢
    clear hw3 c2 gb2
    obtain ⟨bc, off, v, rfl, hbc, hcell, hv⟩ := c3.rd i hlt
    have hbs : bc < w3.heap.size := by have := c3.lo; have := c3.lt; omega
    go_wp2_with fail
    (refine wp_region_heldL (fun W => W.cell? ⟨b, 0, none⟩ = some (.slice (some ⟨bc, off, none⟩) n cap) ∧ W.cell? ⟨b, 1, none⟩ = some (.int .i64 i) ∧ W.cell? ⟨bc, off + i, none⟩ = some (.int .u8 v)) (by kernel_rfl) (by ((try dsimp only); (exact ⟨(c3.grows (by exact bel0)).c0, (c3.grows (by exact bel0)).c1, ((show Grows w3 w3.drew by exact bel0).cell (p := ⟨bc, off + i, none⟩) hbs).trans hcell⟩))) (fun hHeld => ?_); refine heldL_take (i := 0) (v := _) (by rfl) (by kernel_rfl) (by kernel_rfl) (by kernel_rfl) (fun _ _ _ h => h) (Or.inl ⟨by rfl, fun wS hSw => by ((try dsimp only at hSw); go_simp; (try with_reducible rfl))⟩) (by assumption) ?_; simp only [Act.put, List.setIfInBounds_toArray, List.set_cons_zero, List.set_cons_succ]; refine heldL_take (i := 1) (v := _) (by rfl) (by kernel_rfl) (by kernel_rfl) (by kernel_rfl) (fun _ _ _ h => h) (Or.inl ⟨by rfl, fun wS hSw => by ((try dsimp only at hSw); go_simp; (try with_reducible rfl))⟩) (by assumption) ?_; simp only [Act.put, List.setIfInBounds_toArray, List.set_cons_zero, List.set_cons_succ]; refine heldL_take (i := 2) (v := _) (by rfl) (by kernel_rfl) (by kernel_rfl) (by kernel_rfl) (fun _ _ _ h => h) (Or.inl ⟨by rfl, fun wS hSw => by ((try dsimp only at hSw); go_simp; (try with_reducible rfl))⟩) (by assumption) ?_; simp only [Act.put, List.setIfInBounds_toArray, List.set_cons_zero, List.set_cons_succ]; refine heldL_take (i := 3) (v := _) (by rfl) (by kernel_rfl) (by kernel_rfl) (by kernel_rfl) (fun _ _ _ h => h) (Or.inl ⟨by rfl, fun wS hSw => by ((try dsimp only at hSw); go_simp; (try with_reducible rfl))⟩) (by assumption) ?_; simp only [Act.put, List.setIfInBounds_toArray, List.set_cons_zero, List.set_cons_succ]; refine heldL_take (i := 4) (v := _) (by rfl) (by kernel_rfl) (by kernel_rfl) (by kernel_rfl) (fun _ _ _ h => h) (Or.inl ⟨by rfl, fun wS hSw => by ((try dsimp only at hSw); go_simp; (try with_reducible rfl))⟩) (by assumption) ?_; simp only [Act.put, List.setIfInBounds_toArray, List.set_cons_zero, List.set_cons_succ]; refine heldL_take (i := 5) (v := _) (by rfl) (by kernel_rfl) (by kernel_rfl) (by kernel_rfl) (fun _ _ _ h => h) (Or.inl ⟨by rfl, fun wS hSw => by ((try dsimp only at hSw); go_simp; (try with_reducible rfl))⟩) (by assumption) ?_; simp only [Act.put, List.setIfInBounds_toArray, List.set_cons_zero, List.set_cons_succ]; refine heldL_take (i := 6) (v := _) (by rfl) (by kernel_rfl) (by kernel_rfl) (by kernel_rfl) (fun _ _ _ h => h) (Or.inl ⟨by rfl, fun wS hSw => by ((try dsimp only at hSw); go_simp; (try with_reducible rfl))⟩) (by assumption) ?_; simp only [Act.put, List.setIfInBounds_toArray, List.set_cons_zero, List.set_cons_succ]; refine heldL_take (i := 7) (v := _) (by rfl) (by kernel_rfl) (by kernel_rfl) (by kernel_rfl) (fun _ _ _ h => h) (Or.inl ⟨by rfl, fun wS hSw => by ((try dsimp only at hSw); go_simp; (try with_reducible rfl))⟩) (by assumption) ?_; simp only [Act.put, List.setIfInBounds_toArray, List.set_cons_zero, List.set_cons_succ]; refine heldL_take (i := 8) (v := _) (by rfl) (by kernel_rfl) (by kernel_rfl) (by kernel_rfl) (fun _ _ _ h => h) (Or.inl ⟨by rfl, fun wS hSw => by ((try dsimp only at hSw); go_simp; (try with_reducible rfl))⟩) (by assumption) ?_; simp only [Act.put, List.setIfInBounds_toArray, List.set_cons_zero, List.set_cons_succ]; refine heldL_take (i := 9) (v := _) (by rfl) (by kernel_rfl) (by kernel_rfl) (by kernel_rfl) (fun _ _ _ h => h) (Or.inl ⟨by rfl, fun wS hSw => by ((try dsimp only at hSw); go_simp; (try with_reducible rfl))⟩) (by assumption) ?_; simp only [Act.put, List.setIfInBounds_toArray, List.set_cons_zero, List.set_cons_succ]; refine heldL_take (i := 10) (v := _) (by rfl) (by kernel_rfl) (by kernel_rfl) (by kernel_rfl) (fun _ _ _ h => h) (Or.inl ⟨by rfl, fun wS hSw => by ((try dsimp only at hSw); go_simp; (try with_reducible rfl))⟩) (by assumption) ?_; simp only [Act.put, List.setIfInBounds_toArray, List.set_cons_zero, List.set_cons_succ]; refine heldL_take (i := 11) (v := _) (by rfl) (by kernel_rfl) (by kernel_rfl) (by kernel_rfl) (fun _ _ _ h => h) (Or.inl ⟨by rfl, fun wS hSw => by ((try dsimp only at hSw); go_simp; (try with_reducible rfl))⟩) (by assumption) ?_; simp only [Act.put, List.setIfInBounds_toArray, List.set_cons_zero, List.set_cons_succ]; refine heldL_take (i := 12) (v := _) (by rfl) (by kernel_rfl) (by kernel_rfl) (by kernel_rfl) (fun _ _ _ h => h) (Or.inl ⟨by rfl, fun wS hSw => by ((try dsimp only at hSw); go_simp; (try with_reducible rfl))⟩) (by assumption) ?_; simp only [Act.put, List.setIfInBounds_toArray, List.set_cons_zero, List.set_cons_succ]; refine heldL_take (i := 13) (v := _) (by rfl) (by kernel_rfl) (by kernel_rfl) (by kernel_rfl) (fun _ _ _ h => h) (Or.inl ⟨by rfl, fun wS hSw => by ((try dsimp only at hSw); go_simp; (try with_reducible rfl))⟩) (by assumption) ?_; simp only [Act.put, List.setIfInBounds_toArray, List.set_cons_zero, List.set_cons_succ]; refine heldL_take (i := 14) (v := _) (by rfl) (by kernel_rfl) (by kernel_rfl) (by kernel_rfl) (fun _ _ _ h => h) (Or.inl ⟨by rfl, fun wS hSw => by ((try dsimp only at hSw); go_simp; (try with_reducible rfl))⟩) (by assumption) ?_; simp only [Act.put, List.setIfInBounds_toArray, List.set_cons_zero, List.set_cons_succ]; refine wpAnyH_done (by kernel_rfl) ?_ _; refine NoPanic.normal ?_)
    obtain ⟨q, hq⟩ : ∃ q, q = bits .and .i64 (IntKind.i64.wrap ((z : Int) + IntKind.i64.wrap v)) 255 := ⟨_, rfl⟩
    rw [← hq]
    have hq1 : 0 ≤ q ∧ q ≤ 255 := by rw [hq]; exact and255 _
    clear hq
    obtain ⟨q, rfl⟩ : ∃ k : Nat, q = (k : Int) := ⟨q.toNat, by omega⟩
    have c4 := c3.grows (w' := w3.drew) (by exact bel0)
    have gb4 : w.grownBy w3.drew (some b) := only_right gb3 (by exact bel0)
    obtain ⟨w4, hw4⟩ : ∃ w4, w4 = w3.drew := ⟨_, rfl⟩
    rw [← hw4] at c4 gb4 ⊢
    clear hw4 c3 gb3 hcell hbs
    obtain ⟨h0, h1, h2⟩ := c4.cells
    have hf := c4.fz
    have hl := c4.lt
    obtain ⟨c5, gb5⟩ := c4.put1 (i + 1)
    go_wp2_with fail
    go_ret
    have ei : (i : Int) + 1 = ((i + 1 : Nat) : Int) := by omega
    rw [ei]
    exact ⟨q, rfl, by omega, ⟨i + 1, y, hlt, c5⟩, gb4.trans gb5⟩
  · have hlt' : ¬ (i : Int) < (n : Int) := by omega
    go_wp2_with fail
    (refine wp_region_heldL (fun W => W.cell? ⟨b, 0, none⟩ = some (.slice A n cap) ∧ W.cell? ⟨b, 1, none⟩ = some (.int .i64 i) ∧ W.cell? ⟨b, 2, none⟩ = some (.int .i64 y)) (by kernel_rfl) (by ((try dsimp only); (exact (c2.grows (by exact bel0)).cells))) (fun hHeld => ?_); refine heldL_take (i := 0) (v := _) (by rfl) (by kernel_rfl) (by kernel_rfl) (by kernel_rfl) (fun _ _ _ h => h) (Or.inl ⟨by rfl, fun wS hSw => by ((try dsimp only at hSw); go_simp; (try with_reducible rfl))⟩) (by assumption) ?_; simp only [Act.put, List.setIfInBounds_toArray, List.set_cons_zero, List.set_cons_succ]; refine heldL_take (i := 1) (v := _) (by rfl) (by kernel_rfl) (by kernel_rfl) (by kernel_rfl) (fun _ _ _ h => h) (Or.inl ⟨by rfl, fun wS hSw => by ((try dsimp only at hSw); go_simp; (try with_reducible rfl))⟩) (by assumption) ?_; simp only [Act.put, List.setIfInBounds_toArray, List.set_cons_zero, List.set_cons_succ]; refine heldL_take (i := 2) (v := _) (by rfl) (by kernel_rfl) (by kernel_rfl) (by kernel_rfl) (fun _ _ _ h => h) (Or.inl ⟨by rfl, fun wS hSw => by ((try dsimp only at hSw); go_simp; (try with_reducible rfl))⟩) (by assumption) ?_; simp only [Act.put, List.setIfInBounds_toArray, List.set_cons_zero, List.set_cons_succ]; refine heldL_take (i := 3) (v := _) (by rfl) (by kernel_rfl) (by kernel_rfl) (by kernel_rfl) (fun _ _ _ h => h) (Or.inl ⟨by rfl, fun wS hSw => by ((try dsimp only at hSw); go_simp; (try with_reducible rfl))⟩) (by assumption) ?_; simp only [Act.put, List.setIfInBounds_toArray, List.set_cons_zero, List.set_cons_succ]; refine heldL_take (i := 4) (v := _) (by rfl) (by kernel_rfl) (by kernel_rfl) (by kernel_rfl) (fun _ _ _ h => h) (Or.inl ⟨by rfl, fun wS hSw => by ((try dsimp only at hSw); go_simp; (try with_reducible rfl))⟩) (by assumption) ?_; simp only [Act.put, List.setIfInBounds_toArray, List.set_cons_zero, List.set_cons_succ]; refine heldL_take (i := 5) (v := _) (by rfl) (by kernel_rfl) (by kernel_rfl) (by kernel_rfl) (fun _ _ _ h => h) (Or.inl ⟨by rfl, fun wS hSw => by ((try dsimp only at hSw); go_simp; (try with_reducible rfl))⟩) (by assumption) ?_; simp only [Act.put, List.setIfInBounds_toArray, List.set_cons_zero, List.set_cons_succ]; refine heldL_take (i := 6) (v := _) (by rfl) (by kernel_rfl) (by kernel_rfl) (by kernel_rfl) (fun _ _ _ h => h) (Or.inl ⟨by rfl, fun wS hSw => by ((try dsimp only at hSw); go_simp; (try with_reducible rfl))⟩) (by assumption) ?_; simp only [Act.put, List.setIfInBounds_toArray, List.set_cons_zero, List.set_cons_succ]; refine heldL_take (i := 7) (v := _) (by rfl) (by kernel_rfl) (by kernel_rfl) (by kernel_rfl) (fun _ _ _ h => h) (Or.inl ⟨by rfl, fun wS hSw => by ((try dsimp only at hSw); go_simp; (try with_reducible rfl))⟩) (by assumption) ?_; simp only [Act.put, List.setIfInBounds_toArray, List.set_cons_zero, List.set_cons_succ]; refine heldL_take (i := 8) (v := _) (by rfl) (by kernel_rfl) (by kernel_rfl) (by kernel_rfl) (fun _ _ _ h => h) (Or.inl ⟨by rfl, fun wS hSw => by ((try dsimp only at hSw); go_simp; (try with_reducible rfl))⟩) (by assumption) ?_; simp only [Act.put, List.setIfInBounds_toArray, List.set_cons_zero, List.set_cons_succ]; refine heldL_take (i := 9) (v := _) (by rfl) (by kernel_rfl) (by kernel_rfl) (by kernel_rfl) (fun _ _ _ h => h) (Or.inl ⟨by rfl, fun wS hSw => by ((try dsimp only at hSw); go_simp; (try with_reducible rfl))⟩) (by assumption) ?_; simp only [Act.put, List.setIfInBounds_toArray, List.set_cons_zero, List.set_cons_succ]; refine wpAnyH_done (by kernel_rfl) ?_ _; refine NoPanic.normal ?_)
    have c3 := c2.grows (w' := w2.drew) (by exact bel0)
    have gb3 : w.grownBy w2.drew (some b) := only_right gb2 (by exact bel0)
    go_wp2_with fail
    go_ret
    exact ⟨z, rfl, by omega, ⟨i, y, hi, c3⟩, gb3⟩
end
end Go.Proofs.Ythajmffhgbenpaa

/- The draws: a new cursor; a number below a bound, one of a list. -/
namespace Go.Proofs.Ythajmffhgbenpaa
set_option linter.unusedSimpArgs false
set_option linter.unusedVariables false
open Go.RowKit

theorem CurAt.mk_ {w : World} {B : Nat} {A : Option Addr} {n cap : Nat} (hB : B ≤ w.heap.size) (hr : CodeR w B A n) (hn : n ≤ 1048576) (h : Int) (ty : TypeId) : CurAt (w.alloc (.cells #[.slice A n cap, .int .i64 0, .int .i64 h] ty)) B w.heap.size A n cap 0 h :=
  ⟨hB, by simp, by simp [go_sem], by simp [go_sem], by simp [go_sem], fun o => by simp [go_sem], hr.keep (Below.mono (show Grows w _ by exact bel0) hB), hn⟩
def DNew (B : Nat) (A : Option Addr) (n cap : Nat) (w : World) (e : Ending) (w' : World) : Prop := ∃ b, e = .returned (.pointer (some ⟨b, 0, none⟩)) ∧ Cur w' B b A n cap ∧ Grows w w'
def DInt (B b : Nat) (A : Option Addr) (n cap : Nat) (w : World) (e : Ending) (w' : World) : Prop := ∃ x : Int, e = .returned (.int .i64 x) ∧ Cur w' B b A n cap ∧ w.grownBy w' (some b)
def DBool (B b : Nat) (A : Option Addr) (n cap : Nat) (w : World) (e : Ending) (w' : World) : Prop := ∃ x : Bool, e = .returned (.bool x) ∧ Cur w' B b A n cap ∧ w.grownBy w' (some b)
/-- one of a list -/
def DPick (B b : Nat) (A : Option Addr) (n cap : Nat) (l : List Int) (w : World) (e : Ending) (w' : World) : Prop := ∃ i : Nat, i < l.length ∧ e = .returned (.int .i64 (nth l i)) ∧ Cur w' B b A n cap ∧ w.grownBy w' (some b)
theorem DPick.int {B b n cap : Nat} {l : List Int} {A : Option Addr} {w w' : World} {e : Ending} (h : DPick B b A n cap l w e w') : DInt B b A n cap w e w' := by
  obtain ⟨x, _, h1, h2⟩ := h
  exact ⟨_, h1, h2⟩
theorem DNum.int {B b n cap m : Nat} {A : Option Addr} {w w' : World} {e : Ending} (h : DNum B b A n cap m w e w') : DInt B b A n cap w e w' := by
  obtain ⟨x, h1, _, h2⟩ := h
  exact ⟨x, h1, h2⟩
section
set_option maxHeartbeats 4000000
set_option maxRecDepth 10000
theorem l1New_c (B : Nat) (A : Option Addr) (n cap : Nat) (w : World) (hB : B ≤ w.heap.size) (hr : CodeR w B A n) (hn : n ≤ 1048576) :
    Calls Try.prog 50 #[.slice A n cap] w (DNew B A n cap w) := by
  have hn' : (n : Int) ≤ 1048576 := by omega
  go_enter Try.func50, Try.ntmps50
  go_wp2_with fail
  go_loopw [3, 4] (fun h i wr => ∃ (x : Int) (I : Nat), h = .int .i64 x ∧ i = .int .i64 I ∧ I ≤ n ∧ wr = w) (fun _ i _ => n - (intOf i).toNat)
  case atStart => exact ⟨_, 0, by first | rfl | trivial, by first | rfl | trivial, Nat.zero_le _, by first | rfl | trivial⟩
  case round =>
    obtain ⟨x, I, rfl, rfl, hI, rfl⟩ := hrel
    by_cases hlt : I < n
    · have hlt' : (I : Int) < (n : Int) := by omega
      by_cases h4 : I < 4000
      · have h4' : (I : Int) < 4000 := by omega
        obtain ⟨bc, off, v, rfl, hbc, hcell, hv⟩ := hr I hlt
        go_wp2_with fail
        go_round
        case rel => exact ⟨_, I + 1, by first | rfl | trivial, by go_num, by omega, by first | rfl | trivial⟩
        case measure => simp [intOf]; omega
      · have h4' : ¬ (I : Int) < 4000 := by omega
        have c := CurAt.mk_ (cap := cap) hB hr hn x 96
        go_wp2_with fail
        go_ret
        exact ⟨_, rfl, ⟨0, x, Nat.zero_le _, c⟩, by exact bel0⟩
    · have hlt' : ¬ (I : Int) < (n : Int) := by omega
      have c := CurAt.mk_ (cap := cap) hB hr hn x 96
      go_wp2_with fail
      go_ret
      exact ⟨_, rfl, ⟨0, x, Nat.zero_le _, c⟩, by exact bel0⟩
theorem l1Below_c (B b : Nat) (A : Option Addr) (n cap k : Nat) (w : World) (hk : k ≤ 256) (h : Cur w B b A n cap) :
    Calls Try.prog 51 #[.pointer (some ⟨b, 0, none⟩), .int .i64 k] w (DNum B b A n cap (max k 1) w) := by
  by_cases h0 : k = 0
  · subst h0
    go_enter Try.func51, Try.ntmps51
    go_wp2_with fail
    go_ret
    exact ⟨0, rfl, by omega, h, World.grownBy.refl _ _⟩
  · have h1 : ¬ ((k : Int) ≤ 0) := by omega
    have h2 : (k : Int) ≤ 256 := by omega
    have hk0 : (k : Int) ≠ 0 := by omega
    have CB := Lib.hid (l1Byte_c B b A n cap w h)
    have hm : ∀ x : Nat, (x : Int).tmod (k : Int) = ((x % k : Nat) : Int) := fun x => by rw [Int.tmod_eq_emod_of_nonneg (by omega), ← Int.natCast_emod]
    have HM := Lib.hid hm
    have HMX := Lib.hid fun x : Nat => (show x % k < max k 1 by have := Nat.mod_lt x (show 0 < k by omega); omega)
    clear hm
    go_enter Try.func51, Try.ntmps51
    go_wp2_with fail
    refine CB.out.mono ?_; rintro e w2 ⟨x, rfl, hx, c2, g2⟩
    go_wp2_with fail
    go_ret
    exact ⟨x % k, by first | (rw [← HM.out]; rfl) | (simp only [HM.out]; rfl), HMX.out x, c2, g2⟩
theorem l1Once_c (B b : Nat) (A : Option Addr) (n cap k : Nat) (w : World) (hk : k ≤ 256) (h : Cur w B b A n cap) :
    Calls Try.prog 74 #[.pointer (some ⟨b, 0, none⟩), .int .i64 k] w (DBool B b A n cap w) := by
  have CB := Lib.hid (l1Below_c B b A n cap k w hk h)
  go_enter Try.func74, Try.ntmps74
  go_wp2_with fail
  refine CB.out.mono ?_; rintro e w2 ⟨x, rfl, hx, c2, g2⟩
  go_wp2_with fail
  go_ret
  exact ⟨_, rfl, c2, g2⟩
theorem l1PickInt_c (B b : Nat) (A : Option Addr) (n cap : Nat) (L : Option Addr) (l : List Int) (m c : Nat) (w : World) (hm : l.length = m) (h0 : 0 < m) (h2 : m ≤ 256) (hr : Rd w L l) (hL : ∀ a, L = some a → a.block ≠ b) (h : Cur w B b A n cap) :
    Calls Try.prog 122 #[.pointer (some ⟨b, 0, none⟩), .slice L m c] w (DPick B b A n cap l w) := by
  have CB := Lib.hid (l1Below_c B b A n cap m w h2 h)
  have hm' : (m : Int) ≤ 256 := by omega
  go_enter Try.func122, Try.ntmps122
  go_wp2_with fail
  refine CB.out.mono ?_; rintro e w2 ⟨x, rfl, hx, c2, g2⟩
  have hxm : x < m := by omega
  have hxm' : (x : Int) < (m : Int) := by omega
  obtain ⟨bl, off, rfl, hbl, hc⟩ := hr.at_ x (by omega)
  have hc2 := g2.cell hc (by intro e; cases e; exact hL _ rfl rfl)
  go_wp2_with fail
  go_ret
  exact ⟨x, by omega, rfl, c2, g2⟩
theorem l1Odd_c (B b : Nat) (A : Option Addr) (n cap : Nat) (w : World) (h : Cur w B b A n cap) :
    Calls Try.prog 123 #[.pointer (some ⟨b, 0, none⟩)] w (DInt B b A n cap w) := by
  obtain ⟨w1, hw1⟩ : ∃ w1, w1 = w.alloc (.cells #[.int .i64 0, .int .i64 1, .int .i64 (-1), .int .i64 2, .int .i64 400000000, .int .i64 (-400000000), .int .i64 400000001, .int .i64 (-400000001), .int .i64 399999999, .int .i64 9223372036854775807, .int .i64 (-9223372036854775808)] 3) := ⟨_, rfl⟩
  have g1 : Grows w w1 := by rw [hw1]; exact bel0
  have hr : Rd w1 (some ⟨w.heap.size, 0, none⟩) [0, 1, -1, 2, 400000000, -400000000, 400000001, -400000001, 399999999, 9223372036854775807, -9223372036854775808] := by
    rw [hw1]
    intro i hi
    refine ⟨w.heap.size, 0, rfl, by simp, ?_⟩
    simp only [List.length_cons, List.length_nil] at hi
    rcases i with _ | _ | _ | _ | _ | _ | _ | _ | _ | _ | _ | i <;> first | omega | simp [go_sem, nth]
  have CP := Lib.hid ((l1PickInt_c B b A n cap (some ⟨w.heap.size, 0, none⟩) _ 11 11 w1 rfl (by omega) (by omega) hr (fun a e => by cases e; have := h.lt; simp; omega) (h.grows g1)).mono fun _ _ h => h.int)
  have HW1 := Lib.hid hw1
  clear hw1 hr
  go_enter Try.func123, Try.ntmps123
  go_wp2_with fail
  rw [← HW1.out]
  refine CP.out.mono ?_; rintro e w2 ⟨x, rfl, c2, g2⟩
  go_wp2_with fail
  go_ret
  exact ⟨x, rfl, c2, only_left g1 g2⟩
theorem l1Num_c (B b : Nat) (A : Option Addr) (n cap k : Nat) (w : World) (hk : k ≤ 100) (h : Cur w B b A n cap) :
    Calls Try.prog 124 #[.pointer (some ⟨b, 0, none⟩), .int .i64 k] w (DInt B b A n cap w) := by
  have CO := Lib.hid (l1Once_c B b A n cap 40 w (by omega) h)
  have C1 := Lib.hid fun W h => l1Odd_c B b A n cap W h
  have C2 := Lib.hid fun W h => l1Below_c B b A n cap (2 * k + 1) W (by omega) h
  have e2 : ((2 * k + 1 : Nat) : Int) = 2 * (k : Int) + 1 := by omega
  have hk' : (k : Int) ≤ 100 := by omega
  rw [e2] at C2
  clear e2
  go_enter Try.func124, Try.ntmps124
  go_wp2_with fail
  refine CO.out.mono ?_; rintro e w2 ⟨x, rfl, c2, g2⟩
  cases x
  · go_wp2_with fail
    refine (C2.out _ c2).mono ?_; rintro e w3 ⟨x, rfl, hx, c3, g3⟩
    go_wp2_with fail
    go_ret
    exact ⟨_, rfl, c3, g2.trans g3⟩
  · go_wp2_with fail
    refine (C1.out _ c2).mono ?_; rintro e w3 ⟨x, rfl, c3, g3⟩
    go_wp2_with fail
    go_ret
    exact ⟨_, rfl, c3, g2.trans g3⟩
end
end Go.Proofs.Ythajmffhgbenpaa

/- The draws: what they leave as it was; a matrix seldom spoiled. -/
namespace Go.Proofs.Ythajmffhgbenpaa
set_option linter.unusedSimpArgs false
set_option linter.unusedVariables false
open Go.RowKit

/-- blocks of S may have changed; what is new -/
structure Mv (S : Nat → Prop) (w w' : World) : Prop where
  os : w'.os = w.os
  tape : w'.tape = w.tape
  output : w'.output = w.output
  size : w.heap.size ≤ w'.heap.size
  block : ∀ i, i < w.heap.size → ¬ S i → w'.heap[i]? = w.heap[i]?
section
variable {S : Nat → Prop} {w w1 w2 : World}
theorem Mv.refl (w : World) : Mv S w w := ⟨rfl, rfl, rfl, Nat.le_refl _, fun _ _ _ => rfl⟩
theorem Mv.trans (h : Mv S w w1) (k : Mv S w1 w2) : Mv S w w2 := ⟨k.os.trans h.os, k.tape.trans h.tape, k.output.trans h.output, Nat.le_trans h.size k.size, fun i hi h1 => (k.block i (Nat.lt_of_lt_of_le hi h.size) h1).trans (h.block i hi h1)⟩
theorem Mv.left (h : Grows w w1) (k : Mv S w1 w2) : Mv S w w2 := ⟨k.os.trans h.os, k.tape.trans h.tape, k.output.trans h.output, Nat.le_trans h.size k.size, fun i hi h1 => (k.block i (Nat.lt_of_lt_of_le hi h.size) h1).trans (h.block i hi)⟩
theorem Mv.right (h : Mv S w w1) (k : Grows w1 w2) : Mv S w w2 := ⟨k.os.trans h.os, k.tape.trans h.tape, k.output.trans h.output, Nat.le_trans h.size k.size, fun i hi h1 => (k.block i (Nat.lt_of_lt_of_le hi h.size)).trans (h.block i hi h1)⟩
theorem Mv.by1 {r : Option Nat} (h : w.grownBy w1 r) (hr : ∀ g, r = some g → S g) : Mv S w w1 := ⟨h.os, h.tape, h.output, h.size, fun i hi h1 => h.block i hi (fun e => h1 (hr i e.symm))⟩
theorem Mv.by_ {b : Nat} (h : w.grownBy w1 (some b)) (hb : S b) : Mv S w w1 := .by1 h fun g e => by cases e; exact hb
theorem Mv.put (h : Mv S w w1) {p : Addr} (hp : w.heap.size ≤ p.block ∨ S p.block) (u : Value) : Mv S w (w1.setCell p u) :=
  ⟨h.os, h.tape, h.output, by simpa [World.setCell] using h.size, fun i hi hn => (Below.heap_setCell w1 p u i (fun e => by rcases hp with hp | hp; omega; exact hn (by rw [e]; exact hp))).trans (h.block i hi hn)⟩
theorem Mv.mono {S' : Nat → Prop} (h : Mv S w w1) (hS : ∀ g, g < w.heap.size → S g → S' g) : Mv S' w w1 := ⟨h.os, h.tape, h.output, h.size, fun i hi hn => h.block i hi (fun e => hn (hS i hi e))⟩
theorem Mv.by2 {b : Nat} (h : Mv S w w1) (hS : ∀ g, g < w.heap.size → S g → g = b) : w.grownBy w1 (some b) := ⟨h.os, h.tape, h.output, h.size, fun i hi hn => h.block i hi (fun e => hn (by rw [hS i hi e]))⟩
theorem Mv.below {B : Nat} (h : Mv S w w1) (hB : B ≤ w.heap.size) (hS : ∀ g, S g → B ≤ g) : Below B w w1 := ⟨h.os, h.tape, h.output, h.size, fun i hi => h.block i (by omega) (fun e => by have := hS i e; omega)⟩
theorem MBox.mv {b : Nat} {r c : Int} {v : Value} (h : MBox w b r c v) (g : Mv S w w1) (hb : ¬ S b) : MBox w1 b r c v := by
  have hk := g.block b h.lt hb
  exact ⟨Nat.lt_of_lt_of_le h.lt g.size, (World.cell?_of_block hk).trans h.c0, (World.cell?_of_block hk).trans h.c1, (World.cell?_of_block hk).trans h.c2, fun o => (World.frozen?_of_block hk).trans (h.fz o)⟩
theorem Own.mv {B : Nat} {v : Value} {l : List Int} (h : Own w B v l) (g : Mv S w w1) (h1 : ∀ g, v.ownBlock = some g → ¬ S g) : Own w1 B v l := by
  refine ⟨h.1, ?_⟩
  rcases h.2 with hz | ⟨b, cap, cur, hv, hb, hg, k⟩
  · exact .inl hz
  · have hlt : b < w.heap.size := (Array.getElem?_eq_some_iff.1 hg).1
    exact .inr ⟨b, cap, cur, hv, hb, (g.block b hlt (h1 b (by rw [hv]; simp [Value.ownBlock]))).trans hg, k⟩
theorem MBox.by_ {b k : Nat} {r c : Int} {v : Value} (h : MBox w k r c v) (g : w.grownBy w1 (some b)) (hk : k ≠ b) : MBox w1 k r c v := h.mv (Mv.by_ (S := fun i => i = b) g rfl) hk
theorem Own.by_ {B b : Nat} {v : Value} {l : List Int} (h : Own w B v l) (g : w.grownBy w1 (some b)) (hk : ∀ g, v.ownBlock = some g → g ≠ b) : Own w1 B v l := h.mv (Mv.by_ (S := fun i => i = b) g rfl) hk
theorem CurAt.put_ {B b n cap i : Nat} {A : Option Addr} {h : Int} (c : CurAt w B b A n cap i h) {p : Addr} (hp : p.block ≠ b) (hB : B ≤ p.block) (u : Value) : CurAt (w.setCell p u) B b A n cap i h := by
  have hk : (w.setCell p u).heap[b]? = w.heap[b]? := Below.heap_setCell w p u b (fun e => hp e.symm)
  have hbw : Below B w (w.setCell p u) := Below.setCell (Below.refl _ _) hB _
  exact ⟨c.lo, by simp; exact c.lt, (World.cell?_of_block hk).trans c.c0, (World.cell?_of_block hk).trans c.c1, (World.cell?_of_block hk).trans c.c2, fun o => (World.frozen?_of_block hk).trans (c.fz o), c.rd.keep hbw, c.nn⟩
theorem Cur.put_ {B b n cap : Nat} {A : Option Addr} (c : Cur w B b A n cap) {p : Addr} (hp : p.block ≠ b) (hB : B ≤ p.block) (u : Value) : Cur (w.setCell p u) B b A n cap := by
  obtain ⟨i, h, hi, c⟩ := c
  exact ⟨i, h, hi, c.put_ hp hB u⟩
theorem Cur.mv {B b n cap : Nat} {A : Option Addr} (c : Cur w B b A n cap) (g : Mv S w w1) (hb : ¬ S b) (hS : ∀ g, S g → B ≤ g) : Cur w1 B b A n cap := by
  obtain ⟨i, h, hi, c⟩ := c
  have hk := g.block b c.lt hb
  exact ⟨i, h, hi, c.lo, Nat.lt_of_lt_of_le c.lt g.size, (World.cell?_of_block hk).trans c.c0, (World.cell?_of_block hk).trans c.c1, (World.cell?_of_block hk).trans c.c2, fun o => (World.frozen?_of_block hk).trans (c.fz o), c.rd.keep (g.below (by have := c.lo; have := c.lt; omega) hS), c.nn⟩
end
/-- what a draw of a matrix gives -/
def DMat (B b : Nat) (A : Option Addr) (n cap K Bm m : Nat) (S : Nat → Prop) (w : World) (e : Ending) (w' : World) : Prop := ∃ (r c : Int) (V : Option Addr) (cv : Nat) (l : List Int), e = .returned (.agg #[.int .i64 r, .int .i64 c, .slice V l.length cv]) ∧ (-1 ≤ r ∧ r ≤ 8) ∧ l.length ≤ m ∧ Own w' Bm (.slice V l.length cv) l ∧ Cur w' B b A n cap ∧ Mv S w w' ∧ K ≤ w'.heap.size
section
set_option maxHeartbeats 4000000
set_option maxRecDepth 10000
theorem l3Spoil_c (B b : Nat) (A : Option Addr) (n cap Bm : Nat) (r c : Int) (V : Option Addr) (m cv : Nat) (l : List Int) (w : World) (h : Cur w B b A n cap) (ho : Own w Bm (.slice V m cv) l) (hm : l.length = m) (hB : B ≤ Bm) (hm2 : m ≤ 1000) (hne : ∀ g, (Value.slice V m cv).ownBlock = some g → g ≠ b) (hBw : Bm ≤ w.heap.size) (hrb : -1 ≤ r ∧ r ≤ 7) :
    Calls Try.prog 75 #[.pointer (some ⟨b, 0, none⟩), .agg #[.int .i64 r, .int .i64 c, .slice V m cv]] w (DMat B b A n cap 0 Bm (m + 1) (fun g => g = b ∨ (Value.slice V m cv).ownBlock = some g) w) := by
  subst hm
  obtain ⟨w1, hw1⟩ : ∃ w1, w1 = (w.alloc (.cells #[.int .i64 r, .int .i64 c, .slice V l.length cv] 26)).alloc (.cells #[.int .i64 0, .int .i64 0, .slice none 0 0] 26) := ⟨_, rfl⟩
  have mb3 : MBox w1 w.heap.size r c (.slice V l.length cv) := by rw [hw1]; exact (MBox.mk_ _ _ _ _ _).alloc _
  have mb4 : MBox w1 (w.heap.size + 1) 0 0 (.slice none 0 0) := by rw [hw1]; exact MBox.new_ _ _ _ _ _ (by simp)
  have g01 : Grows w w1 := by rw [hw1]; exact bel0
  have hs1 : w1.heap.size = w.heap.size + 2 := by rw [hw1]; simp
  have hbl := h.lt
  have hlo := h.lo
  have h1 := h.grows g01
  have ho1 := ho.grows g01
  have hvl : ∀ g, (Value.slice V l.length cv).ownBlock = some g → Bm ≤ g ∧ g < w.heap.size := fun g e => World.ownsRow.lt ho g e
  have CB := Lib.hid (l1Below_c B b A n cap 40 w1 (by omega) h1)
  have HW1 := Lib.hid hw1
  have HS1 := Lib.hid hs1
  have HVL := Lib.hid hvl
  have HNE := Lib.hid hne
  clear hw1 hs1 hvl hne
  go_enter Try.func75, Try.ntmps75
  go_wp2_with fail
  rw [← HW1.out]
  refine CB.out.mono ?_; rintro e w2 ⟨x, rfl, hx, c2, g2⟩
  have hs2 := g2.size
  have hs1 := HS1.out
  have mb3' := mb3.by_ g2 (by omega)
  have mb4' := mb4.by_ g2 (by omega)
  have ho2 := ho1.by_ g2 HNE.out
  have mv2 : Mv (fun g => g = b ∨ (Value.slice V l.length cv).ownBlock = some g) w w2 := Mv.left g01 (Mv.by_ g2 (.inl rfl))
  clear mb3 mb4 ho1 h1 ho h hs1 hx
  obtain ⟨d0, d1, d2⟩ := mb3'.cells
  obtain ⟨e0, e1, e2⟩ := mb4'.cells
  have df := mb3'.fz
  have dl := mb3'.lt
  have ef := mb4'.fz
  have el := mb4'.lt
  by_cases x0 : x = 0
  · subst x0
    obtain ⟨w3, hw3⟩ : ∃ w3, w3 = w2.alloc (.cells #[.int .i64 (-1), .int .i64 0, .int .i64 7, .int .i64 (r + 1)] 3) := ⟨_, rfl⟩
    have g3 : Grows w2 w3 := by rw [hw3]; exact bel0
    have hr : Rd w3 (some ⟨w2.heap.size, 0, none⟩) [-1, 0, 7, r + 1] := by
      rw [hw3]
      intro i hi
      refine ⟨w2.heap.size, 0, rfl, by simp, ?_⟩
      simp only [List.length_cons, List.length_nil] at hi
      rcases i with _ | _ | _ | _ | i <;> first | omega | simp [go_sem, nth]
    have CP := Lib.hid (l1PickInt_c B b A n cap (some ⟨w2.heap.size, 0, none⟩) _ 4 4 w3 rfl (by omega) (by omega) hr (fun a e => by cases e; simp; omega) (c2.grows g3))
    have HW3 := Lib.hid hw3
    clear hw3 hr
    go_wp2_with fail
    rw [← HW3.out]
    refine CP.out.mono ?_; rintro e w4 ⟨yi, hyi, rfl, c4, g4⟩
    obtain ⟨y, hy⟩ : ∃ y, y = nth [-1, 0, 7, r + 1] yi := ⟨_, rfl⟩
    have hyb : -1 ≤ y ∧ y ≤ 8 := by
      rw [hy]
      simp only [List.length_cons, List.length_nil] at hyi
      rcases yi with _ | _ | _ | _ | yi <;> first | omega | (simp [nth]; omega) | simp [nth]
    rw [← hy]
    clear hy hyi
    have hs4 := g4.size
    have hs3 := Below.size g3
    have mb5 := (mb3'.grows g3).by_ g4 (by omega)
    have mb6 := (mb4'.grows g3).by_ g4 (by omega)
    have ho4 := (ho2.grows g3).by_ g4 HNE.out
    have mv4 : Mv (fun g => g = b ∨ (Value.slice V l.length cv).ownBlock = some g) w w4 := (mv2.right g3).trans (Mv.by_ g4 (.inl rfl))
    clear d0 d1 d2 df dl e0 e1 e2 ef el
    obtain ⟨d0, d1, d2⟩ := mb5.cells
    obtain ⟨e0, e1, e2⟩ := mb6.cells
    have df := mb5.fz
    have dl := mb5.lt
    have ef := mb6.fz
    have el := mb6.lt
    go_wp2_with fail
    refine bodyPost_ret (v := .agg #[.int .i64 y, .int .i64 c, .slice V l.length cv]) ?_ rfl ?_
    · simp [results, Try.results75, go_sem, d0, d1, d2, df, dl, e0, e1, e2, ef, el]
    · refine ⟨y, c, V, cv, l, rfl, hyb, by omega, ?_, ?_, ?_, Nat.zero_le _⟩
      · ((repeat' (first | with_reducible exact ho4 | with_reducible refine Own.far ?_ ?_ _)); all_goals (intro g hg; have := HVL.out g hg; (try simp only); omega))
      · ((repeat' (first | with_reducible exact c4 | with_reducible refine Cur.put_ ?_ ?_ ?_ _)); all_goals ((try simp only); omega))
      · ((repeat' (first | with_reducible exact mv4 | with_reducible refine Mv.put ?_ (.inl ?_) _)); all_goals ((try simp only); omega))
  · have y0 : ((x : Int) == 0) = false := by rw [beq_eq_false_iff_ne]; omega
    by_cases x1 : x = 1
    · subst x1
      by_cases m0 : l.length = 0
      · have m0' : ¬ (0 : Int) < (l.length : Int) := by omega
        clear m0
        go_wp2_with fail
        refine bodyPost_ret (v := .agg #[.int .i64 r, .int .i64 c, .slice V l.length cv]) ?_ rfl ?_
        · simp [results, Try.results75, go_sem, d0, d1, d2, df, dl, e0, e1, e2, ef, el]
        · refine ⟨r, c, V, cv, l, rfl, by omega, by omega, ?_, ?_, ?_, Nat.zero_le _⟩
          · ((repeat' (first | with_reducible exact ho2 | with_reducible refine Own.far ?_ ?_ _)); all_goals (intro g hg; have := HVL.out g hg; (try simp only); omega))
          · ((repeat' (first | with_reducible exact c2 | with_reducible refine Cur.put_ ?_ ?_ ?_ _)); all_goals ((try simp only); omega))
          · ((repeat' (first | with_reducible exact mv2 | with_reducible refine Mv.put ?_ (.inl ?_) _)); all_goals ((try simp only); omega))
      · obtain ⟨gv, cp, e, _⟩ := ho2.form (by omega)
        simp only [Value.slice.injEq, true_and] at e
        obtain ⟨rfl, rfl⟩ := e
        have hgv := HVL.out gv rfl
        have hgn := HNE.out gv rfl
        have m0' : (0 : Int) < (l.length : Int) := by omega
        have CO := Lib.hid fun W h => l1Odd_c B b A n cap W h
        clear d0 d1 d2 df dl e0 e1 e2 ef el m0
        have d2 := mb3'.c2
        go_wp2_with fail
        (refine wp_region_heldL (fun W => W.cell? ⟨w.heap.size, 2, none⟩ = some (.slice (some ⟨gv, 0, none⟩) l.length cv)) (by kernel_rfl) (by ((try dsimp only); (first | exact mb6.c2 | exact mb5.c2 | exact (mb3'.grows (by exact bel0)).c2))) (fun hHeld => ?_); refine heldL_take (i := 0) (v := _) (by rfl) (by kernel_rfl) (by kernel_rfl) (by kernel_rfl) (fun _ _ _ h => h) (Or.inl ⟨by rfl, fun wS hSw => by ((try dsimp only at hSw); go_simp; (try with_reducible rfl))⟩) (by assumption) ?_; simp only [Act.put, List.setIfInBounds_toArray, List.set_cons_zero, List.set_cons_succ]; refine heldL_take (i := 1) (v := _) (by rfl) (by kernel_rfl) (by kernel_rfl) (by kernel_rfl) (fun _ _ _ h => h) (Or.inl ⟨by rfl, fun wS hSw => by ((try dsimp only at hSw); go_simp; (try with_reducible rfl))⟩) (by assumption) ?_; simp only [Act.put, List.setIfInBounds_toArray, List.set_cons_zero, List.set_cons_succ]; refine heldL_take (i := 2) (v := _) (by rfl) (by kernel_rfl) (by kernel_rfl) (by kernel_rfl) (fun _ _ _ h => h) (Or.inl ⟨by rfl, fun wS hSw => by ((try dsimp only at hSw); go_simp; (try with_reducible rfl))⟩) (by assumption) ?_; simp only [Act.put, List.setIfInBounds_toArray, List.set_cons_zero, List.set_cons_succ]; refine heldL_step (i := 3) (by kernel_rfl) (by rfl) (fun K hK => ?_); go_simp; (refine (CO.out _ (c2.grows (by exact bel0))).mono ?_; rintro e w3 ⟨y, rfl, c3, g3⟩; have mb5 := (mb3'.grows (w' := w2.drew) (by exact bel0)).by_ g3 (by omega); have ho3 := (ho2.grows (w' := w2.drew) (by exact bel0)).by_ g3 HNE.out; have hcl := ho3.cell 0 (by omega); have hfr := ho3.free 0; have mb6 := mb5.mv (Mv.put (S := fun g => g = gv) (Mv.refl _) (p := ⟨gv, 0, none⟩) (.inr rfl) (.int .i64 y)) (by omega)) ; (try (go_wp2_with fail)); refine hK.out _ _ (by ((try dsimp only); (first | exact mb6.c2 | exact mb5.c2 | exact (mb3'.grows (by exact bel0)).c2))) (fun hHeld => ?_); clear hK K; (try simp only [Act.put, List.setIfInBounds_toArray, List.set_cons_zero, List.set_cons_succ]); refine heldL_take (i := 4) (v := _) (by rfl) (by kernel_rfl) (by kernel_rfl) (by kernel_rfl) (fun _ _ _ h => h) (Or.inl ⟨by rfl, fun wS hSw => by ((try dsimp only at hSw); go_simp; (try with_reducible rfl))⟩) (by assumption) ?_; simp only [Act.put, List.setIfInBounds_toArray, List.set_cons_zero, List.set_cons_succ]; refine heldL_step (i := 5) (by kernel_rfl) (by rfl) (fun K hK => ?_); go_simp; refine hK.out _ _ (by ((try dsimp only); (first | exact mb6.c2 | exact mb5.c2 | exact (mb3'.grows (by exact bel0)).c2))) (fun hHeld => ?_); clear hK K; (try simp only [Act.put, List.setIfInBounds_toArray, List.set_cons_zero, List.set_cons_succ]); refine wpAnyH_done (by kernel_rfl) ?_ _; refine NoPanic.normal ?_)
        have hs3 := g3.size
        have ed : w2.drew.heap.size = w2.heap.size := rfl
        have ho4 := ho3.set 0 y
        have c4 : Cur (w3.setCell ⟨gv, 0, none⟩ (.int .i64 y)) B b A n cap := c3.put_ (by simp only; omega) (by simp only; omega) _
        have mv4 : Mv (fun g => g = b ∨ (Value.slice (some ⟨gv, 0, none⟩) l.length cv).ownBlock = some g) w (w3.setCell ⟨gv, 0, none⟩ (.int .i64 y)) := ((mv2.right (show Grows w2 w2.drew by exact bel0)).trans (Mv.by_ g3 (.inl rfl))).put (.inr (.inr rfl)) _
        have mb7 := ((mb4'.grows (w' := w2.drew) (by exact bel0)).by_ g3 (by omega)).mv (Mv.put (S := fun g => g = gv) (Mv.refl _) (p := ⟨gv, 0, none⟩) (.inr rfl) (.int .i64 y)) (by omega)
        obtain ⟨w4, hw4⟩ : ∃ w4, w4 = w3.setCell ⟨gv, 0, none⟩ (.int .i64 y) := ⟨_, rfl⟩
        rw [← hw4] at ho4 c4 mv4 mb6 mb7 ⊢
        have hs4 : w4.heap.size = w3.heap.size := by rw [hw4]; simp
        clear hw4
        obtain ⟨d0, d1, d2⟩ := mb6.cells
        obtain ⟨e0, e1, e2⟩ := mb7.cells
        have df := mb6.fz
        have dl := mb6.lt
        have ef := mb7.fz
        have el := mb7.lt
        go_wp2_with fail
        refine bodyPost_ret (v := .agg #[.int .i64 r, .int .i64 c, .slice (some ⟨gv, 0, none⟩) l.length cv]) ?_ rfl ?_
        · simp [results, Try.results75, go_sem, d0, d1, d2, df, dl, e0, e1, e2, ef, el]
        · refine ⟨r, c, _, cv, l.set 0 y, by rw [List.length_set], by omega, by rw [List.length_set]; omega, ?_, ?_, ?_, Nat.zero_le _⟩
          · rw [List.length_set]; ((repeat' (first | with_reducible exact ho4 | with_reducible refine Own.far ?_ ?_ _)); all_goals (intro g hg; have := HVL.out g hg; (try simp only); omega))
          · ((repeat' (first | with_reducible exact c4 | with_reducible refine Cur.put_ ?_ ?_ ?_ _)); all_goals ((try simp only); omega))
          · ((repeat' (first | with_reducible exact mv4 | with_reducible refine Mv.put ?_ (.inl ?_) _)); all_goals ((try simp only); omega))
    · have y1 : ((x : Int) == 1) = false := by rw [beq_eq_false_iff_ne]; omega
      by_cases x2 : x = 2
      · subst x2
        go_wp2_with (at_builtin; refine wpList_app1 rfl (.tmp 30) (.tmp 31) rfl _ 1 Bm _ l (by rfl) ho2 (by rfl) (by omega) (by omega) ?_; intro v7 w7 ho7 hg7 hv7; have mv7 : Mv (fun g => (Value.slice V l.length cv).ownBlock = some g) w2 w7 := Mv.by1 hg7 (fun g e => e); have mb5 := mb3'.mv mv7 (fun e => by have := HVL.out _ e; omega); have mb6 := mb4'.mv mv7 (fun e => by have := HVL.out _ e; omega); have c7 := c2.mv mv7 (fun e => HNE.out _ e rfl) (fun g e => by have := HVL.out _ e; omega); obtain ⟨A7, cp7, rfl, _, _⟩ := ho7.val; clear d0 d1 d2 df dl e0 e1 e2 ef el; obtain ⟨d0, d1, d2⟩ := mb5.cells; obtain ⟨e0, e1, e2⟩ := mb6.cells; have df := mb5.fz; have dl := mb5.lt; have ef := mb6.fz; have el := mb6.lt)
        have hs7 := hg7.size
        have mv8 : Mv (fun g => g = b ∨ (Value.slice V l.length cv).ownBlock = some g) w w7 := mv2.trans (mv7.mono (fun g _ e => .inr e))
        have hv8 : ∀ g, (Value.slice A7 (l ++ [1]).length cp7).ownBlock = some g → Bm ≤ g ∧ g ≠ w.heap.size ∧ g ≠ w.heap.size + 1 := fun g hg => by
          rcases hv7 with h | ⟨g', h, h2⟩
          · rw [h] at hg; have := HVL.out g hg; omega
          · rw [h] at hg; cases hg; have := HS1.out; omega
        refine bodyPost_ret (v := .agg #[.int .i64 r, .int .i64 c, .slice A7 (l ++ [1]).length cp7]) ?_ rfl ?_
        · simp [results, Try.results75, go_sem, d0, d1, d2, df, dl, e0, e1, e2, ef, el]
        · refine ⟨r, c, A7, cp7, l ++ [1], rfl, by omega, by simp, ?_, ?_, ?_, Nat.zero_le _⟩
          · ((repeat' (first | with_reducible exact ho7 | with_reducible refine Own.far ?_ ?_ _)); all_goals (intro g hg; have := hv8 g hg; (try simp only); omega))
          · ((repeat' (first | with_reducible exact c7 | with_reducible refine Cur.put_ ?_ ?_ ?_ _)); all_goals ((try simp only); omega))
          · ((repeat' (first | with_reducible exact mv8 | with_reducible refine Mv.put ?_ (.inl ?_) _)); all_goals ((try simp only); omega))
      · have y2 : ((x : Int) == 2) = false := by rw [beq_eq_false_iff_ne]; omega
        go_wp2_with fail
        refine bodyPost_ret (v := .agg #[.int .i64 r, .int .i64 c, .slice V l.length cv]) ?_ rfl ?_
        · simp [results, Try.results75, go_sem, d0, d1, d2, df, dl, e0, e1, e2, ef, el]
        · refine ⟨r, c, V, cv, l, rfl, by omega, by omega, ?_, ?_, ?_, Nat.zero_le _⟩
          · ((repeat' (first | with_reducible exact ho2 | with_reducible refine Own.far ?_ ?_ _)); all_goals (intro g hg; have := HVL.out g hg; (try simp only); omega))
          · ((repeat' (first | with_reducible exact c2 | with_reducible refine Cur.put_ ?_ ?_ ?_ _)); all_goals ((try simp only); omega))
          · ((repeat' (first | with_reducible exact mv2 | with_reducible refine Mv.put ?_ (.inl ?_) _)); all_goals ((try simp only); omega))
end
end Go.Proofs.Ythajmffhgbenpaa

/- The draws: a unimodular matrix. -/
namespace Go.Proofs.Ythajmffhgbenpaa
set_option linter.unusedSimpArgs false
set_option linter.unusedVariables false
open Go.RowKit

/-! ### plain: how large the numbers are -/
def bnd (M : Nat) (l : List Int) : Prop := ∀ i, i < l.length → -(M : Int) ≤ nth l i ∧ nth l i ≤ M
theorem bnd.up {M M' : Nat} {l : List Int} (h : bnd M l) (hM : M ≤ M') : bnd M' l := fun i hi => by have := h i hi; omega
theorem bnd.num {M : Nat} {l : List Int} (h : bnd M l) (hM : M ≤ 400000000) : allNum l = true := (allNum_iff _).2 fun i hi => (isNum_iff _).2 (by have := h i hi; omega)
theorem bnd_tab {R C M : Nat} {f : Nat → Nat → Int} (h : ∀ a b, a < R → b < C → -(M : Int) ≤ f a b ∧ f a b ≤ M) : bnd M (tab R C f) := fun i hi => by
  rw [tab_length] at hi
  obtain ⟨h1, h2, h3⟩ := idx_split hi
  rw [h3, tab_nth _ h1 h2]
  exact h _ _ h1 h2
theorem bnd.cell {R C M a b : Nat} {l : List Int} (h : bnd M l) (hl : l.length = R * C) (ha : a < R) (hb : b < C) : -(M : Int) ≤ nth l (a * C + b) ∧ nth l (a * C + b) ≤ M := h _ (by rw [hl]; exact idx_lt ha hb)
theorem addB_small {x y t : Int} {M : Nat} (hM : M ≤ 1000) (hx : -(M : Int) ≤ x ∧ x ≤ M) (hy : -(M : Int) ≤ y ∧ y ≤ M) (ht : -2 ≤ t ∧ t ≤ 2) : -((3 * M : Nat) : Int) ≤ addB x (mulB y t) ∧ addB x (mulB y t) ≤ ((3 * M : Nat) : Int) := by
  have hyt : -(2 * (M : Int)) ≤ y * t ∧ y * t ≤ 2 * (M : Int) := by
    have h : t = -2 ∨ t = -1 ∨ t = 0 ∨ t = 1 ∨ t = 2 := by omega
    rcases h with rfl | rfl | rfl | rfl | rfl <;> omega
  have n1 : isNum x = true := (isNum_iff _).2 (by omega)
  have n2 : isNum y = true := (isNum_iff _).2 (by omega)
  have n3 : isNum t = true := (isNum_iff _).2 (by omega)
  have n4 : isNum (y * t) = true := (isNum_iff _).2 (by omega)
  have n5 : isNum (x + y * t) = true := (isNum_iff _).2 (by omega)
  rw [mulB_num n2 n3, fit_yes n4, addB_num n1 n4, fit_yes n5]
  omega
theorem bnd_addT {R C i j M : Nat} {t : Int} {l : List Int} (hl : l.length = R * C) (hi : i < R) (hj : j < R) (h : bnd M l) (hM : M ≤ 1000) (ht : -2 ≤ t ∧ t ≤ 2) : bnd (3 * M) (addT R C i j t l) := bnd_tab fun a b ha hb => by
  split
  · exact addB_small hM (h.cell hl hi hb) (h.cell hl hj hb) ht
  · have := h.cell hl ha hb; omega
theorem bnd_swpT {R C i j M : Nat} {l : List Int} (hl : l.length = R * C) (hi : i < R) (hj : j < R) (h : bnd M l) : bnd M (swpT R C i j l) := bnd_tab fun a b ha hb => by
  split
  · exact h.cell hl hj hb
  · split
    · exact h.cell hl hi hb
    · exact h.cell hl ha hb
theorem bnd_negT {R C i M : Nat} {l : List Int} (hl : l.length = R * C) (hi : i < R) (h : bnd M l) (hM : M ≤ 1000) : bnd M (negT R C i l) := bnd_tab fun a b ha hb => by
  split
  · have := h.cell hl hi hb
    rw [mulB_num ((isNum_iff _).2 (by omega)) (by decide), fit_yes ((isNum_iff _).2 (by omega))]
    omega
  · exact h.cell hl ha hb
theorem bnd_idL (R : Nat) : bnd 1 (idL R) := bnd_tab fun a b ha hb => by split <;> omega
theorem pow_step {M K : Nat} (h : M * 3 ^ (K + 1) ≤ 243) : 3 * M * 3 ^ K ≤ 243 ∧ 3 * M ≤ 243 := by
  have e : M * 3 ^ (K + 1) = 3 * M * 3 ^ K := by rw [Nat.pow_succ]; rw [Nat.mul_comm 3 M, Nat.mul_assoc, Nat.mul_comm (3 ^ K) 3]
  have hp : 0 < 3 ^ K := Nat.pow_pos (by decide)
  have h2 : 3 * M ≤ 3 * M * 3 ^ K := Nat.le_mul_of_pos_right _ hp
  omega
theorem pow_less {M K : Nat} (h : M * 3 ^ (K + 1) ≤ 243) : M * 3 ^ K ≤ 243 ∧ M ≤ 243 := by
  have hp : 0 < 3 ^ K := Nat.pow_pos (by decide)
  have h1 : M * 3 ^ K ≤ M * 3 ^ (K + 1) := Nat.mul_le_mul_left _ (Nat.pow_le_pow_right (by decide) (by omega))
  have h2 : M ≤ M * 3 ^ K := Nat.le_mul_of_pos_right _ hp
  omega
section
variable {S : Nat → Prop} {w w1 w2 : World}
theorem Mv.own (h : Mv S w w1) {r : Option Nat} (g : w1.grownBy w2 r) (hr : ∀ k, r = some k → w.heap.size ≤ k ∨ S k) : Mv S w w2 :=
  ⟨g.os.trans h.os, g.tape.trans h.tape, g.output.trans h.output, Nat.le_trans h.size g.size, fun i hi hn => (g.block i (Nat.lt_of_lt_of_le hi h.size) (fun e => by rcases hr i e.symm with h | h; omega; exact hn h)).trans (h.block i hi hn)⟩
theorem MBox.own1 {k : Nat} {r c : Int} {v : Value} {o : Option Nat} (h : MBox w k r c v) (g : w.grownBy w1 o) (hk : ∀ g, o = some g → g ≠ k) : MBox w1 k r c v := h.mv (Mv.by1 (S := fun i => o = some i) g fun _ e => e) (fun e => hk k e rfl)
theorem Cur.own1 {B b n cap : Nat} {A : Option Addr} {o : Option Nat} (c : Cur w B b A n cap) (g : w.grownBy w1 o) (hk : ∀ g, o = some g → g ≠ b ∧ B ≤ g) : Cur w1 B b A n cap := c.mv (Mv.by1 (S := fun i => o = some i) g fun _ e => e) (fun e => (hk b e).1 rfl) (fun g e => (hk g e).2)
end
/-- a matrix with numbers of a size -/
def DBnd (B b : Nat) (A : Option Addr) (n cap R M : Nat) (w : World) (e : Ending) (w' : World) : Prop := ∃ (V : Option Addr) (cv : Nat) (l : List Int), e = .returned (.agg #[.int .i64 R, .int .i64 R, .slice V (R * R) cv]) ∧ l.length = R * R ∧ bnd M l ∧ Own w' w.heap.size (.slice V (R * R) cv) l ∧ Cur w' B b A n cap ∧ w.grownBy w' (some b)
section
set_option maxHeartbeats 4000000
set_option maxRecDepth 10000
theorem l6Uni_c (B b : Nat) (A : Option Addr) (n cap R : Nat) (w : World) (hR : R ≤ 8) (h : Cur w B b A n cap) :
    Calls Try.prog 121 #[.pointer (some ⟨b, 0, none⟩), .int .i64 R] w (DBnd B b A n cap R 243 w) := by
  obtain ⟨w1, hw1⟩ : ∃ w1, w1 = w.alloc (.cells #[.int .i64 0, .int .i64 0, .slice none 0 0] 26) := ⟨_, rfl⟩
  have mb4 : MBox w1 w.heap.size 0 0 (.slice none 0 0) := by rw [hw1]; exact MBox.mk_ _ _ _ _ _
  have g01 : Grows w w1 := by rw [hw1]; exact bel0
  have hs1 : w1.heap.size = w.heap.size + 1 := by rw [hw1]; simp
  have hbl := h.lt
  have hlo := h.lo
  have h1 := h.grows g01
  have CI := Lib.hid (sIdent_c R w1 (by omega))
  have C6 := Lib.hid fun W h => l1Below_c B b A n cap 6 W (by omega) h
  have HW1 := Lib.hid hw1
  have HS1 := Lib.hid hs1
  clear hw1
  go_enter Try.func121, Try.ntmps121
  go_wp2_with fail
  rw [← HW1.out]
  refine CI.out.mono ?_; rintro e w2 ⟨v2, rfl, o2, g2⟩
  obtain ⟨V, cv, rfl, _, _⟩ := o2.val
  rw [idL_length] at o2 ⊢
  have hs2 := Below.size g2
  have hW2 : w.heap.size + 1 ≤ w2.heap.size := by omega
  obtain ⟨w3, hw3⟩ : ∃ w3, w3 = w2.alloc (.cells #[.int .i64 R, .int .i64 R, .slice V (R * R) cv] 26) := ⟨_, rfl⟩
  have mb5 : MBox w3 w2.heap.size R R (.slice V (R * R) cv) := by rw [hw3]; exact MBox.mk_ _ _ _ _ _
  have g13 : Grows w1 w3 := by rw [hw3]; exact bel1 g2
  have g23 : Grows w2 w3 := by rw [hw3]; exact bel0
  have hs3 : w3.heap.size = w2.heap.size + 1 := by rw [hw3]; simp
  have hW3 : w2.heap.size + 1 ≤ w3.heap.size := by omega
  have HW3 := Lib.hid hw3
  have hvl : ∀ g, (Value.slice V (R * R) cv).ownBlock = some g → w.heap.size + 1 ≤ g ∧ g < w2.heap.size := fun g e => by have := World.ownsRow.lt o2 g e; omega
  have HVL := Lib.hid hvl
  have o3 : Own w3 (w.heap.size + 1) (.slice V (R * R) cv) (idL R) := (o2.grows g23).less (by omega)
  clear hw3 hvl o2
  go_wp2_with fail
  rw [← HW3.out]
  refine (C6.out _ (h1.grows g13)).mono ?_; rintro e w4 ⟨k0, rfl, hk0, c4, g4⟩
  have hs4 := g4.size
  have mv4 : Mv (fun g => g = b) w w4 := Mv.left (Below.trans g01 (Below.mono g13 (by omega))) (Mv.by_ g4 rfl)
  have mb4a := (mb4.grows g13).by_ g4 (by omega)
  have mb5a := mb5.by_ g4 (by omega)
  have o4 := o3.by_ g4 (fun g e => by have := HVL.out g e; omega)
  have HS3 := Lib.hid hs3
  clear mb4 mb5 o3 g4 h1 hs1 hs3
  go_wp2_with fail
  go_loopw [7] (fun k wr => ∃ (K M : Nat) (l : List Int), k = .int .i64 K ∧ K ≤ 5 ∧ M * 3 ^ K ≤ 243 ∧ RowKit.Hid (bnd M l ∧ l.length = R * R) ∧ Own wr (w.heap.size + 1) (.slice V (R * R) cv) l ∧ MBox wr w2.heap.size R R (.slice V (R * R) cv) ∧ MBox wr w.heap.size 0 0 (.slice none 0 0) ∧ Cur wr B b A n cap ∧ Mv (fun g => g = b) w wr ∧ w4.heap.size ≤ wr.heap.size) (fun k _ => (intOf k).toNat)
  case atStart => exact ⟨k0, 1, idL R, rfl, by omega, by (have : 3 ^ k0 ≤ 3 ^ 5 := Nat.pow_le_pow_right (by decide) (by omega)); omega, Lib.hid ⟨bnd_idL R, idL_length R⟩, o4, mb5a, mb4a, c4, mv4, Nat.le_refl _⟩
  case round =>
    clear o4 mb5a mb4a c4 mv4 hk0
    obtain ⟨K, M, l, rfl, hK5, hMK, HL, o, mb5, mb4, c, mv, hsz⟩ := hrel
    obtain ⟨d0, d1, d2⟩ := mb5.cells
    have dl := mb5.lt
    obtain ⟨e0, e1, e2⟩ := mb4.cells
    have ef := mb4.fz
    have el := mb4.lt
    by_cases hK : K = 0
    · have hK' : ¬ (0 : Int) < (K : Int) := by omega
      have HB := Lib.hid (show bnd 243 l from HL.out.1.up (by rw [hK] at hMK; omega))
      have HLL := Lib.hid HL.out.2
      have hvb : ∀ g, (Value.slice V (R * R) cv).ownBlock = some g → g ≠ w.heap.size := fun g e => by have := HVL.out g e; omega
      clear hMK hK
      go_wp2_with fail
      refine bodyPost_ret (v := .agg #[.int .i64 R, .int .i64 R, .slice V (R * R) cv]) ?_ rfl ?_
      · simp [results, Try.results121, go_sem, d0, d1, d2, dl, e0, e1, e2, ef, el]
      · refine ⟨V, cv, l, rfl, HLL.out, HB.out, ?_, ?_, ?_⟩
        · refine Own.less (B := w.heap.size + 1) ?_ (by omega)
          ((repeat' (first | with_reducible exact o | with_reducible refine Own.far ?_ ?_ _)); all_goals (intro g hg; have := hvb g hg; (try simp only); omega))
        · ((repeat' (first | with_reducible exact c | with_reducible refine Cur.put_ ?_ ?_ ?_ _)); all_goals ((try simp only); omega))
        · refine Mv.by2 (S := fun g => g = b) ?_ (fun g _ e => e)
          ((repeat' (first | with_reducible exact mv | with_reducible refine Mv.put ?_ (.inl ?_) _)); all_goals ((try simp only); omega))
    · by_cases hR2 : R ≤ 1
      · have hR2' : ¬ (1 : Int) < (R : Int) := by omega
        have HB := Lib.hid (show bnd 243 l from HL.out.1.up (by obtain ⟨K', rfl⟩ : ∃ K', K = K' + 1 := ⟨K - 1, by omega⟩; exact (pow_less hMK).2))
        have HLL := Lib.hid HL.out.2
        have hvb : ∀ g, (Value.slice V (R * R) cv).ownBlock = some g → g ≠ w.heap.size := fun g e => by have := HVL.out g e; omega
        have hK' : (0 : Int) < (K : Int) := by omega
        clear hMK hK
        go_wp2_with fail
        refine bodyPost_ret (v := .agg #[.int .i64 R, .int .i64 R, .slice V (R * R) cv]) ?_ rfl ?_
        · simp [results, Try.results121, go_sem, d0, d1, d2, dl, e0, e1, e2, ef, el]
        · refine ⟨V, cv, l, rfl, HLL.out, HB.out, ?_, ?_, ?_⟩
          · refine Own.less (B := w.heap.size + 1) ?_ (by omega)
            ((repeat' (first | with_reducible exact o | with_reducible refine Own.far ?_ ?_ _)); all_goals (intro g hg; have := hvb g hg; (try simp only); omega))
          · ((repeat' (first | with_reducible exact c | with_reducible refine Cur.put_ ?_ ?_ ?_ _)); all_goals ((try simp only); omega))
          · refine Mv.by2 (S := fun g => g = b) ?_ (fun g _ e => e)
            ((repeat' (first | with_reducible exact mv | with_reducible refine Mv.put ?_ (.inl ?_) _)); all_goals ((try simp only); omega))
      · obtain ⟨K', rfl⟩ : ∃ K', K = K' + 1 := ⟨K - 1, by omega⟩
        have hstep := pow_step hMK
        have hless := pow_less hMK
        have hK' : (0 : Int) < ((K' + 1 : Nat) : Int) := by omega
        have hR3 : (1 : Int) < (R : Int) := by omega
        have CR := Lib.hid fun W h => l1Below_c B b A n cap R W (by omega) h
        have CR1 := fun W h => l1Below_c B b A n cap (R - 1) W (by omega) h
        have eR : ((R - 1 : Nat) : Int) = (R : Int) - 1 := by omega
        rw [eR] at CR1
        have CR1' := Lib.hid CR1
        have C3 := Lib.hid fun W h => l1Below_c B b A n cap 3 W (by omega) h
        have C5 := Lib.hid fun W h => l1Below_c B b A n cap 5 W (by omega) h
        have HST := Lib.hid hstep
        have HLS := Lib.hid hless
        clear CR1 eR hMK hstep hless hK
        go_wp2_with fail
        refine (CR.out _ c).mono ?_; rintro e w5 ⟨I, rfl, hI, c5, g5⟩
        go_wp2_with fail
        refine (C3.out _ c5).mono ?_; rintro e w6 ⟨kd, rfl, hkd, c6, g6⟩
        go_wp2_with fail
        refine (CR1'.out _ c6).mono ?_; rintro e w7 ⟨J0, rfl, hJ0, c7, g7⟩
        have hs1 := HS1.out
        have mv7 : Mv (fun g => g = b) w w7 := ((mv.trans (Mv.by_ g5 rfl)).trans (Mv.by_ g6 rfl)).trans (Mv.by_ g7 rfl)
        have mb5' := ((mb5.by_ g5 (by omega)).by_ g6 (by omega)).by_ g7 (by omega)
        have mb4' := ((mb4.by_ g5 (by omega)).by_ g6 (by omega)).by_ g7 (by omega)
        have hn1 : ∀ g, (Value.slice V (R * R) cv).ownBlock = some g → g ≠ b := fun g e => by have := HVL.out g e; omega
        have o7 := ((o.by_ g5 hn1).by_ g6 hn1).by_ g7 hn1
        have hs7 : wr.heap.size ≤ w7.heap.size := Nat.le_trans g5.size (Nat.le_trans g6.size g7.size)
        have hIR : I < R := by omega
        obtain ⟨J, hJ⟩ : ∃ J, J = (I + 1 + J0) % R := ⟨_, rfl⟩
        have hJR : J < R := by rw [hJ]; exact Nat.mod_lt _ (by omega)
        have hIJ : I ≠ J := by
          intro e
          rw [hJ] at e
          have h1 : J0 < R - 1 := by omega
          by_cases hw : I + 1 + J0 < R
          · rw [Nat.mod_eq_of_lt hw] at e; omega
          · rw [Nat.mod_eq_sub_mod (by omega), Nat.mod_eq_of_lt (by omega)] at e; omega
        have hmod : ((I : Int) + 1 + (J0 : Int)).tmod (R : Int) = (J : Int) := by
          rw [hJ, Int.tmod_eq_emod_of_nonneg (by omega), Int.natCast_emod]; congr 1
        have HIJ := Lib.hid hIJ
        have hJ4 : (J0 : Int) ≤ 8 := by omega
        have hI3 : (I : Int) ≤ 8 := by omega
        have hR0 : (R : Int) ≠ 0 := by omega
        have HVB := Lib.hid hn1
        clear hs1 mb5 mb4 o mv c d0 d1 d2 dl e0 e1 e2 ef el g5 g6 g7 hJ hIJ hn1 hI hJ0 c5 c6
        obtain ⟨d0, d1, d2⟩ := mb5'.cells
        have dl := mb5'.lt
        by_cases k0' : kd = 0
        · subst k0'
          have hgx : ∀ (u : Obj), Grows w7 (w7.alloc u) := fun u => by exact bel0
          have CW := Lib.hid fun W o => l5Swp_c R R V l (R * R) cv I J (w.heap.size + 1) W HL.out.2 rfl (by omega) (by omega) o hIR hJR HIJ.out
          go_wp2_with fail
          refine (CW.out _ (o7.grows (hgx _))).mono ?_; rintro e w8 ⟨rfl, o8, g8⟩
          have hv8 : ∀ g, (Value.slice V (R * R) cv).ownBlock = some g → w.heap.size + 1 ≤ g ∧ g < w2.heap.size := HVL.out
          have mb5a := (mb5'.alloc _).own1 g8 (fun g e => by have := hv8 g e; omega)
          have mb4a := (mb4'.alloc _).own1 g8 (fun g e => by have := hv8 g e; omega)
          have c8 := (c7.grows (hgx _)).own1 g8 (fun g e => by have := hv8 g e; omega)
          have mv8 := (mv7.right (hgx _)).own g8 (fun g e => .inl (by have := hv8 g e; omega))
          have hs8 := g8.size
          simp at hs8
          go_wp2_with fail
          go_round
          case rel => exact ⟨K', M, _, by go_num, by omega, HLS.out.1, Lib.hid ⟨bnd_swpT HL.out.2 hIR hJR HL.out.1, swpT_length _ _ _ _ _⟩, o8, mb5a, mb4a, c8, mv8, by omega⟩
          case measure => first | (simp [intOf]; done) | (simp [intOf]; omega)
        · by_cases k1 : kd = 1
          · subst k1
            obtain ⟨w8, hw8⟩ : ∃ w8, w8 = w7.alloc (.cells #[.int .i64 1, .int .i64 I, .int .i64 I, .int .i64 0] 83) := ⟨_, rfl⟩
            have g8 : Grows w7 w8 := by rw [hw8]; exact bel0
            have hs8 : w8.heap.size = w7.heap.size + 1 := by rw [hw8]; simp
            have HW8 := Lib.hid hw8
            have CW := Lib.hid fun W o => l5Neg_c R R V l (R * R) cv I (w.heap.size + 1) W HL.out.2 rfl (by omega) (by omega) o (mkd_of (HL.out.1.num (by have := HLS.out.2; omega))) hIR
            clear hw8
            go_wp2_with fail
            rw [← HW8.out]
            refine (CW.out _ (o7.grows g8)).mono ?_; rintro e w9 ⟨rfl, o9, g9⟩
            have hv8 : ∀ g, (Value.slice V (R * R) cv).ownBlock = some g → w.heap.size + 1 ≤ g ∧ g < w2.heap.size := HVL.out
            have mb5a := (mb5'.grows g8).own1 g9 (fun g e => by have := hv8 g e; omega)
            have mb4a := (mb4'.grows g8).own1 g9 (fun g e => by have := hv8 g e; omega)
            have c9 := (c7.grows g8).own1 g9 (fun g e => by have := hv8 g e; omega)
            have mv9 := (mv7.right g8).own g9 (fun g e => .inl (by have := hv8 g e; omega))
            have hs9 := g9.size
            go_wp2_with fail
            go_round
            case rel => exact ⟨K', M, _, by go_num, by omega, HLS.out.1, Lib.hid ⟨bnd_negT HL.out.2 hIR HL.out.1 (by have := HLS.out.2; omega), negT_length _ _ _ _⟩, o9, mb5a, mb4a, c9, mv9, by omega⟩
            case measure => first | (simp [intOf]; done) | (simp [intOf]; omega)
          · obtain rfl : kd = 2 := by omega
            obtain ⟨w8, hw8⟩ : ∃ w8, w8 = w7.alloc (.cells #[.int .i64 2, .int .i64 I, .int .i64 J, .int .i64 0] 83) := ⟨_, rfl⟩
            have g8 : Grows w7 w8 := by rw [hw8]; exact bel0
            have ob8 : OBox w8 w7.heap.size 2 I J 0 := by rw [hw8]; exact OBox.new_ _ _ _ _ _ _ rfl
            have fz8 : ∀ o, w8.frozen? ⟨w7.heap.size, o, none⟩ = false := by rw [hw8]; intro o; simp [go_sem]
            have hs8 : w8.heap.size = w7.heap.size + 1 := by rw [hw8]; simp
            have HW8 := Lib.hid hw8
            clear hw8
            have hb7 : w7.heap.size ≠ b := by omega
            go_wp2_with fail
            rw [← HW8.out]
            refine (C5.out _ (c7.grows g8)).mono ?_; rintro e w9 ⟨q, rfl, hq, c9, g9⟩
            have hk9 := g9.block w7.heap.size (by omega) (by intro e; cases e; exact hb7 rfl)
            have ob9 : OBox w9 w7.heap.size 2 I J 0 := ⟨Nat.lt_of_lt_of_le ob8.lt g9.size, (World.cell?_of_block hk9).trans ob8.c0, (World.cell?_of_block hk9).trans ob8.c1, (World.cell?_of_block hk9).trans ob8.c2, (World.cell?_of_block hk9).trans ob8.c3⟩
            have fz9 : ∀ o, w9.frozen? ⟨w7.heap.size, o, none⟩ = false := fun o => (World.frozen?_of_block hk9).trans (fz8 o)
            have mb5a := (mb5'.grows g8).by_ g9 (by omega)
            have mb4a := (mb4'.grows g8).by_ g9 (by omega)
            have o9 := (o7.grows g8).by_ g9 HVB.out
            have mv9 := (mv7.right g8).trans (Mv.by_ g9 rfl)
            have hs9 := g9.size
            clear d0 d1 d2 dl
            obtain ⟨d0, d1, d2⟩ := mb5a.cells
            have dl := mb5a.lt
            obtain ⟨x0, x1, x2, x3⟩ := ob9.cells
            have xl := ob9.lt
            have hq5 : (q : Int) < 5 := by omega
            have hgx : ∀ (u : Value), Mv (fun g => g = w7.heap.size) w9 (w9.setCell ⟨w7.heap.size, 3, none⟩ u) := fun u => (Mv.refl (S := fun g => g = w7.heap.size) w9).put (p := ⟨w7.heap.size, 3, none⟩) (.inr rfl) u
            have CW := Lib.hid fun W o => l5Add_c R R V l (R * R) cv I J (w.heap.size + 1) ((q : Int) - 2) W HL.out.2 rfl (by omega) (by omega) o (mkd_of (HL.out.1.num (by have := HLS.out.2; omega))) hIR hJR (by rw [isNum_iff]; omega)
            have hv8 : ∀ g, (Value.slice V (R * R) cv).ownBlock = some g → w.heap.size + 1 ≤ g ∧ g < w2.heap.size := HVL.out
            go_wp2_with fail
            refine (CW.out _ (o9.mv (hgx _) (fun g e => by have := hv8 g e; omega))).mono ?_; rintro e wa ⟨rfl, oa, ga⟩
            have mb5b := (mb5a.mv (hgx _) (by omega)).own1 ga (fun g e => by have := hv8 g e; omega)
            have mb4b := (mb4a.mv (hgx _) (by omega)).own1 ga (fun g e => by have := hv8 g e; omega)
            have ca := (c9.mv (hgx _) (by omega) (fun g e => by omega)).own1 ga (fun g e => by have := hv8 g e; omega)
            have mva := (mv9.put (p := ⟨w7.heap.size, 3, none⟩) (.inl (by simp only; omega)) _).own ga (fun g e => .inl (by have := hv8 g e; omega))
            have hsa := ga.size
            simp at hsa
            go_wp2_with fail
            go_round
            case rel => exact ⟨K', 3 * M, _, by go_num, by omega, HST.out.1, Lib.hid ⟨bnd_addT HL.out.2 hIR hJR HL.out.1 (by have := HLS.out.2; omega) (by omega), addT_length _ _ _ _ _ _⟩, oa, mb5b, mb4b, ca, mva, by omega⟩
            case measure => first | (simp [intOf]; done) | (simp [intOf]; omega)
end
end Go.Proofs.Ythajmffhgbenpaa

/- What changes in drawing; what a draw of a matrix gives. -/
namespace Go.Proofs.Ythajmffhgbenpaa
set_option linter.unusedSimpArgs false
set_option linter.unusedVariables false
open Go.RowKit

/-- what changes in blocks that are new does not count -/
theorem Mv.over {S S2 : Nat → Prop} {w w1 w2 : World} (h : Mv S w w1) (k : Mv S2 w1 w2) (hS : ∀ g, S2 g → w.heap.size ≤ g ∨ S g) : Mv S w w2 :=
  ⟨k.os.trans h.os, k.tape.trans h.tape, k.output.trans h.output, Nat.le_trans h.size k.size, fun i hi hn => (k.block i (Nat.lt_of_lt_of_le hi h.size) (fun e => by rcases hS i e with h | h; omega; exact hn h)).trans (h.block i hi hn)⟩
theorem Mv.putM {b : Nat} (w : World) (u v x : Value) : Mv (fun g => g = b) w (((w.setCell ⟨b, 0, none⟩ u).setCell ⟨b, 1, none⟩ v).setCell ⟨b, 2, none⟩ x) :=
  (((Mv.refl (S := fun g => g = b) w).put (p := ⟨b, 0, none⟩) (.inr rfl) _).put (p := ⟨b, 1, none⟩) (.inr rfl) _).put (p := ⟨b, 2, none⟩) (.inr rfl) _
/-- what a draw of a matrix from a cursor gives -/
def DMatG (B b : Nat) (A : Option Addr) (n cap m : Nat) (w : World) (e : Ending) (w' : World) : Prop := ∃ (r c : Int) (V : Option Addr) (cv : Nat) (l : List Int), e = .returned (.agg #[.int .i64 r, .int .i64 c, .slice V l.length cv]) ∧ (-1 ≤ r ∧ r ≤ 8) ∧ l.length ≤ m ∧ Own w' w.heap.size (.slice V l.length cv) l ∧ Cur w' B b A n cap ∧ w.grownBy w' (some b)
end Go.Proofs.Ythajmffhgbenpaa

/- Reading a law's code of bytes; is it too long? -/
namespace Go.Proofs.Ythajmffhgbenpaa
set_option linter.unusedSimpArgs false
set_option linter.unusedVariables false
open Go.ChangeShapes Go.WideShapes Go.ChangeAt Go.RowKit Go.Joins

/-- What a slice of bytes that came in is. -/
def InCode (w : World) (A : Option Addr) (l : List Int) (c : Nat) : Prop := CodeR w w.heap.size A l.length ∧ l.length ≤ c ∧ c ≤ maxLen
section
variable {H : Type} {enc : TypeId × Value → H} {w : World} {sp : Nat → Bool} {held : Bool}
theorem open_code {fuel : Nat} {v : Value} {x : DataW H × List MemPlace} (h : DataW.trod enc Try.prog w 0 sp held fuel 22 [v] = some x) :
    ∃ A l c, v = .slice A (List.length l) c ∧ InCode w A l c := by
  rcases open_ints Try.underlying22 Try.underlying5 (by kernel_rfl) h with ⟨hcs, _⟩ | ⟨a, l, c, zs, hcs, _, hl, hm, hz, _, hcell, hwz⟩
  · simp at hcs
    subst hcs
    exact ⟨none, [], 0, rfl, (fun i hi => by simp at hi), by simp, by simp⟩
  · simp at hcs
    subst hcs
    have hlz : l ≤ zs.length := by rw [hz]; split <;> omega
    refine ⟨some a, zs.take l, c, by simp [Nat.min_eq_left hlz], fun i hi => ?_, by simp; omega, hm⟩
    have hi' : i < l := by simp at hi; omega
    obtain ⟨b, off, rfl, hc⟩ := ints_at hcell (by omega)
    have h1 := hc i (by omega)
    have hb := range_u8 hwz i
    exact ⟨b, off, _, rfl, World.block_lt_of_cell? w _ h1, h1, hb⟩
end
theorem big_c (A : Option Addr) (n cap : Nat) (w : World) (hn : n ≤ 9223372036854775807) :
    Calls Try.prog 5 #[.slice A n cap] w fun e w' => e = .returned (.bool (decide (1048576 < n))) ∧ w' = w := by
  by_cases h : 1048576 < n
  · have h' : (1048576 : Int) < (n : Int) := by omega
    go_enter Try.func5, Try.ntmps5
    go_wp2_with fail
    go_ret
    exact ⟨by first | rfl | (rw [decide_eq_true h]; rfl), rfl⟩
  · have h' : ¬ (1048576 : Int) < (n : Int) := by omega
    go_enter Try.func5, Try.ntmps5
    go_wp2_with fail
    go_ret
    exact ⟨by first | rfl | (rw [decide_eq_false h]; rfl), rfl⟩
end Go.Proofs.Ythajmffhgbenpaa
