/- Contracts and lemmas, put together. -/
import Derived.Test.YtpgoefdeodoacaaPkA
import Derived.Test.YtpgoefdeodoacaaPkD
/- For the walks of the exact laws: fractions. -/
namespace Go.Proofs.Ytpgoefdeodoacaa
set_option linter.unusedSimpArgs false
set_option linter.unusedVariables false
open Go.RowKit

/-- The slice value owns its row of fractions, in a block from B on and below H. -/
def OwnQB (w : World) (B H : Nat) (v : Value) (l : List Q2) : Prop := OwnQ w B v l ∧ ∀ k, v.ownBlock = some k → k < H

section
variable {w w' : World} {B B0 H H0 : Nat} {A : Option Addr} {l : List Int} {q q0 : List Q2} {l0 : List Int} {v v0 : Value}
theorem OwnQB.of (h : OwnQ w B v q) : OwnQB w B w.heap.size v q := ⟨h, fun k hk => (World.ownsRow.lt h k hk).2⟩
theorem OwnQB.own (h : OwnQB w B H v q) : OwnQ w B v q := h.1
theorem OwnQB.rd {n c : Nat} (h : OwnQB w B H (.slice A n c) q) : RdQ w A q := OwnQ.rd h.1
theorem OwnQB.grows (h : OwnQB w B H v q) (g : Grows w w') : OwnQB w' B H v q := ⟨h.1.grows g, h.2⟩
theorem OwnQB.mark_lo (h : OwnQB w B H v q) (o : OwnB w B0 H0 v0 l0) (g : w.grownBy w' v0.ownBlock) (hle : H ≤ B0) : OwnQB w' B H v q :=
  ⟨ownsRow_other h.1 g (fun k hk hk2 => by
    have h1 := h.2 k hk2
    have h2 := (World.ownsRow.lt o.1 k hk).1
    omega), h.2⟩
theorem OwnQB.mark_hi (h : OwnQB w B H v q) (o : OwnB w B0 H0 v0 l0) (g : w.grownBy w' v0.ownBlock) (hle : H0 ≤ B) : OwnQB w' B H v q :=
  ⟨ownsRow_other h.1 g (fun k hk hk2 => by
    have h1 := (World.ownsRow.lt h.1 k hk2).1
    have h2 := o.2 k hk
    omega), h.2⟩
theorem OwnQB.mark_loQ (h : OwnQB w B H v q) (o : OwnQB w B0 H0 v0 q0) (g : w.grownBy w' v0.ownBlock) (hle : H ≤ B0) : OwnQB w' B H v q :=
  ⟨ownsRow_other h.1 g (fun k hk hk2 => by
    have h1 := h.2 k hk2
    have h2 := (World.ownsRow.lt o.1 k hk).1
    omega), h.2⟩
theorem OwnQB.mark_hiQ (h : OwnQB w B H v q) (o : OwnQB w B0 H0 v0 q0) (g : w.grownBy w' v0.ownBlock) (hle : H0 ≤ B) : OwnQB w' B H v q :=
  ⟨ownsRow_other h.1 g (fun k hk hk2 => by
    have h1 := (World.ownsRow.lt h.1 k hk2).1
    have h2 := o.2 k hk
    omega), h.2⟩
theorem OwnB.mark_loQ (h : OwnB w B H v l) (o : OwnQB w B0 H0 v0 q0) (g : w.grownBy w' v0.ownBlock) (hle : H ≤ B0) : OwnB w' B H v l :=
  ⟨ownsRow_other h.1 g (fun k hk hk2 => by
    have h1 := h.2 k hk2
    have h2 := (World.ownsRow.lt o.1 k hk).1
    omega), h.2⟩
theorem OwnB.mark_hiQ (h : OwnB w B H v l) (o : OwnQB w B0 H0 v0 q0) (g : w.grownBy w' v0.ownBlock) (hle : H0 ≤ B) : OwnB w' B H v l :=
  ⟨ownsRow_other h.1 g (fun k hk hk2 => by
    have h1 := (World.ownsRow.lt h.1 k hk2).1
    have h2 := o.2 k hk
    omega), h.2⟩
theorem RdB.markQ (h : RdB w H A l) (o : OwnQB w B0 H0 v0 q0) (g : w.grownBy w' v0.ownBlock) (hle : H ≤ B0) : RdB w' H A l := ⟨fun i hi => by
  obtain ⟨b, off, e, hb, hc⟩ := h.1 i hi
  have hH := h.2 _ e (by omega)
  refine ⟨b, off, e, Nat.lt_of_lt_of_le hb g.size, (World.cell?_of_block (g.block b hb (fun e' => ?_))).trans hc⟩
  have := (World.ownsRow.lt o.1 b e'.symm).1
  simp at hH
  omega, h.2⟩
theorem MBox.markQ {b : Nat} {r c : Int} (h : MBox w b r c v) (o : OwnQB w B0 H0 v0 q0) (g : w.grownBy w' v0.ownBlock) (hle : b < B0 ∨ H0 ≤ b) : MBox w' b r c v := by
  have hne : some b ≠ v0.ownBlock := fun e => by
    have h1 := (World.ownsRow.lt o.1 b e.symm).1
    have h2 := o.2 b e.symm
    omega
  have hk := g.block b h.lt hne
  exact ⟨Nat.lt_of_lt_of_le h.lt g.size, (World.cell?_of_block hk).trans h.c0, (World.cell?_of_block hk).trans h.c1, (World.cell?_of_block hk).trans h.c2, fun o => (World.frozen?_of_block hk).trans (h.fz o)⟩
theorem below_markQ {W : World} (hb : Below W.heap.size W w) (o : OwnQB w B0 H0 v0 q0) (g : w.grownBy w' v0.ownBlock) (hle : W.heap.size ≤ B0) (hs : W.heap.size ≤ w.heap.size) : Below W.heap.size W w' :=
  hb.grown g hs fun k hk => Nat.le_trans hle (World.ownsRow.lt o.1 k hk).1
end

/-- (k, k+1), (k+2, k+3), .. -/
def runQ (k : Int) (n : Nat) : List Q2 := (List.range n).map fun (i : Nat) => (k + 2 * (i : Int), k + 2 * (i : Int) + 1)
theorem runQ_length (k : Int) (n : Nat) : (runQ k n).length = n := by simp [runQ]
theorem runQ_nth (k : Int) (n i : Nat) (h : i < n) : nthQ (runQ k n) i = (k + 2 * i, k + 2 * i + 1) := by
  rw [nthQ_get _ _ (by rw [runQ_length]; exact h)]; simp [runQ]

section
set_option maxHeartbeats 1000000
theorem RdQ.at_ {w : World} {A : Option Addr} {l : List Q2} (h : RdQ w A l) (i : Nat) (hi : i < l.length) : ∃ b off, A = some ⟨b, off, none⟩ ∧ b < w.heap.size ∧ w.cell? ⟨b, off + i * 2, none⟩ = some (.int .i64 (nthQ l i).1) ∧ w.cell? ⟨b, off + i * 2 + 1, none⟩ = some (.int .i64 (nthQ l i).2) := h i hi
end
end Go.Proofs.Ytpgoefdeodoacaa
