/- Contracts and lemmas, put together. -/
import Derived.Test.YtpgoefdeodoacaaPkF
import Derived.Test.YtpgoefdeodoacaaQColS
/- Contracts: an operation on the rows and the columns of a form, and on the rows of a matrix, the reference's. -/
namespace Go.Proofs.Ytpgoefdeodoacaa
set_option linter.unusedSimpArgs false
set_option linter.unusedVariables false
open Go.RowKit

theorem OBox.two {w w1 : World} {r1 r2 : Option Nat} {b : Nat} {k i j t : Int} (h : OBox w b k i j t) (g : Grown2 w w1 r1 r2) (h1 : ∀ g, r1 = some g → g ≠ b) (h2 : ∀ g, r2 = some g → g ≠ b) : OBox w1 b k i j t := by
  have hk := g.block b h.lt (fun e => h1 b e.symm rfl) (fun e => h2 b e.symm rfl)
  exact ⟨Nat.lt_of_lt_of_le h.lt g.size, (World.cell?_of_block hk).trans h.c0, (World.cell?_of_block hk).trans h.c1, (World.cell?_of_block hk).trans h.c2, (World.cell?_of_block hk).trans h.c3⟩
section
set_option maxHeartbeats 4000000
set_option maxRecDepth 100000
theorem both_c (R : Nat) (A U : Option Addr) (n cap m cap2 B : Nat) (k i j t : Int) (a u a1 u1 a2 : List Int) (w : World) (pr : Pr w B A U n cap m cap2 a u)
    (HO : ∀ W, Pr W B A U n cap m cap2 a u → Calls Try.prog 154 #[.agg #[.int .i64 R, .int .i64 R, .slice A n cap], .agg #[.int .i64 R, .int .i64 R, .slice U m cap2], .agg #[.int .i64 k, .int .i64 i, .int .i64 j, .int .i64 t]] W fun e w' => e = .returned (.tuple #[]) ∧ Pr w' B A U n cap m cap2 a1 u1 ∧ Grown2 W w' (Value.slice A n cap).ownBlock (Value.slice U m cap2).ownBlock)
    (HC : ∀ W, Own W B (.slice A n cap) a1 → Calls Try.prog 155 #[.agg #[.int .i64 R, .int .i64 R, .slice A n cap], .agg #[.int .i64 k, .int .i64 i, .int .i64 j, .int .i64 t]] W fun e w' => e = .returned (.tuple #[]) ∧ Own w' B (.slice A n cap) a2 ∧ W.grownBy w' (Value.slice A n cap).ownBlock) :
    Calls Try.prog 83 #[.agg #[.int .i64 R, .int .i64 R, .slice A n cap], .agg #[.int .i64 R, .int .i64 R, .slice U m cap2], .agg #[.int .i64 k, .int .i64 i, .int .i64 j, .int .i64 t]] w fun e w' => e = .returned (.tuple #[]) ∧ Pr w' B A U n cap m cap2 a2 u1 ∧ Grown2 w w' (Value.slice A n cap).ownBlock (Value.slice U m cap2).ownBlock := by
  obtain ⟨w1, hw1⟩ : ∃ w1, w1 = ((w.alloc (.cells #[.int .i64 R, .int .i64 R, .slice A n cap] 28)).alloc (.cells #[.int .i64 R, .int .i64 R, .slice U m cap2] 28)).alloc (.cells #[.int .i64 k, .int .i64 i, .int .i64 j, .int .i64 t] 78) := ⟨_, rfl⟩
  have g01 : Grows w w1 := by rw [hw1]; exact bel0
  have ma : MBox w1 w.heap.size R R (.slice A n cap) := by rw [hw1]; exact (MBox.mk_ _ _ _ _ _).grows (by exact bel0)
  have ob : OBox w1 (w.heap.size + 1 + 1) k i j t := by rw [hw1]; exact OBox.new_ _ _ _ _ _ _ (by simp)
  have hb1 : ∀ g, (Value.slice A n cap).ownBlock = some g → g < w.heap.size := fun g h => (World.ownsRow.lt pr.oa g h).2
  have hb2 : ∀ g, (Value.slice U m cap2).ownBlock = some g → g < w.heap.size := fun g h => (World.ownsRow.lt pr.ou g h).2
  have HB1 := Lib.hid hb1
  have HB2 := Lib.hid hb2
  have HW1 := Lib.hid hw1
  have HO' := Lib.hid HO
  have HC' := Lib.hid HC
  have pr1 := pr.grows g01
  clear hw1 HO HC hb1 hb2
  go_enter Try.func83, Try.ntmps83
  go_wp2_with fail
  rw [← HW1.out]
  refine (HO'.out _ pr1).mono ?_; rintro e w2 ⟨rfl, pr2, g2⟩
  have ma2 := ma.two g2 (fun g h => by have := HB1.out g h; omega) (fun g h => by have := HB2.out g h; omega)
  have ob2 := ob.two g2 (fun g h => by have := HB1.out g h; omega) (fun g h => by have := HB2.out g h; omega)
  obtain ⟨c0, c1, c2⟩ := ma2.cells
  obtain ⟨d0, d1, d2, d3⟩ := ob2.cells
  have G2 := Lib.hid g2
  clear g2
  go_wp2_with fail
  refine (HC'.out _ pr2.oa).mono ?_; rintro e w3 ⟨rfl, o3, g3⟩
  have pr3 := pr2.setA o3 g3
  have gg := Grown2.trans (Grown2.left g01 G2.out) (Grown2.of12 g3 (World.grownBy.refl w3 (Value.slice U m cap2).ownBlock))
  clear g3 c0 c1 c2 d0 d1 d2 d3
  go_wp2_with fail
  go_end0
  exact ⟨rfl, pr3, gg⟩
/-- both, at marked lists -/
theorem bothAdd_c (R : Nat) (A U : Option Addr) (n cap m cap2 B : Nat) (i j : Nat) (t : Int) (a u : List Int) (w : World) (pr : Pr w B A U n cap m cap2 a u) (hal : a.length = n) (hul : u.length = m) (hn : n = R * R) (hm : m = R * R) (hR : R ≤ 24) (mka : mkd a) (mku : mkd u) (hi : i < R) (hj : j < R) (ht : isNum t = true) :
    Calls Try.prog 83 #[.agg #[.int .i64 R, .int .i64 R, .slice A n cap], .agg #[.int .i64 R, .int .i64 R, .slice U m cap2], .agg #[.int .i64 2, .int .i64 i, .int .i64 j, .int .i64 t]] w fun e w' => e = .returned (.tuple #[]) ∧ Pr w' B A U n cap m cap2 (addCT R R i j t (addT R R i j t a)) (addT R R i j t u) ∧ Grown2 w w' (Value.slice A n cap).ownBlock (Value.slice U m cap2).ownBlock :=
  both_c R A U n cap m cap2 B 2 i j t a u (addT R R i j t a) (addT R R i j t u) (addCT R R i j t (addT R R i j t a)) w pr
    (fun W p => l12Ops_c R R A U n cap m cap2 B 2 i j t a u _ _ W p (fun W o => l5Add_c R R A a n cap i j B t W hal hn hR hR o mka hi hj ht) (fun W o => l5Add_c R R U u m cap2 i j B t W hul hm hR hR o mku hi hj ht))
    (fun W o => l13Add_c R R A (addT R R i j t a) n cap i j B t W (by rw [addT_length, hn]) hn hR hR o (addT_mkd (hal.trans hn) mka) hi hj ht)
theorem bothSwp_c (R : Nat) (A U : Option Addr) (n cap m cap2 B : Nat) (i j : Nat) (a u : List Int) (w : World) (pr : Pr w B A U n cap m cap2 a u) (hal : a.length = n) (hul : u.length = m) (hn : n = R * R) (hm : m = R * R) (hR : R ≤ 24) (hi : i < R) (hj : j < R) (hij : i ≠ j) :
    Calls Try.prog 83 #[.agg #[.int .i64 R, .int .i64 R, .slice A n cap], .agg #[.int .i64 R, .int .i64 R, .slice U m cap2], .agg #[.int .i64 0, .int .i64 i, .int .i64 j, .int .i64 0]] w fun e w' => e = .returned (.tuple #[]) ∧ Pr w' B A U n cap m cap2 (swpCT R R i j (swpT R R i j a)) (swpT R R i j u) ∧ Grown2 w w' (Value.slice A n cap).ownBlock (Value.slice U m cap2).ownBlock :=
  both_c R A U n cap m cap2 B 0 i j 0 a u (swpT R R i j a) (swpT R R i j u) (swpCT R R i j (swpT R R i j a)) w pr
    (fun W p => l12Ops_c R R A U n cap m cap2 B 0 i j 0 a u _ _ W p (fun W o => l5Swp_c R R A a n cap i j B W hal hn hR hR o hi hj hij) (fun W o => l5Swp_c R R U u m cap2 i j B W hul hm hR hR o hi hj hij))
    (fun W o => l13Swp_c R R A (swpT R R i j a) n cap i j B W (by rw [swpT_length, hn]) hn hR hR o hi hj hij)
end
end Go.Proofs.Ytpgoefdeodoacaa
