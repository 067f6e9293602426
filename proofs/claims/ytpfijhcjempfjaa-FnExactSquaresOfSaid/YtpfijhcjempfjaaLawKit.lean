/- For the walks of the exact laws: what is read, with a bound on its blocks; marks. -/
import Derived.Test.YtpfijhcjempfjaaMats
import Derived.Test.YtpfijhcjempfjaaReg
import Derived.Deep.RegionHeld3
namespace Go.Proofs.Ytpfijhcjempfjaa
open Go.RowKit

theorem Own.rd {w : World} {B n c : Nat} {A : Option Addr} {l : List Int} (h : Own w B (.slice A n c) l) : Rd w A l := by
  obtain ⟨A', c', e, hr, _⟩ := h.val
  injection e with e1 _ _
  rw [e1]; exact hr
theorem two_boxes {w W : World} {b b' : Nat} {r c r' c' : Int} {v v' : Value} (h : MBox w b r c v) (h' : MBox w b' r' c' v') (g : Grows w W) :
    W.cell? ⟨b, 0, none⟩ = some (.int .i64 r) ∧ W.cell? ⟨b, 1, none⟩ = some (.int .i64 c) ∧ W.cell? ⟨b, 2, none⟩ = some v ∧
    W.cell? ⟨b', 0, none⟩ = some (.int .i64 r') ∧ W.cell? ⟨b', 1, none⟩ = some (.int .i64 c') ∧ W.cell? ⟨b', 2, none⟩ = some v' :=
  ⟨(h.grows g).c0, (h.grows g).c1, (h.grows g).c2, (h'.grows g).c0, (h'.grows g).c1, (h'.grows g).c2⟩

/-- l is read at A, from blocks below H. -/
def RdB (w : World) (H : Nat) (A : Option Addr) (l : List Int) : Prop := Rd w A l ∧ ∀ a, A = some a → 0 < l.length → a.block < H
/-- The slice value owns its row, in a block from B on and below H. -/
def OwnB (w : World) (B H : Nat) (v : Value) (l : List Int) : Prop := Own w B v l ∧ ∀ k, v.ownBlock = some k → k < H

section
variable {w w' : World} {B B0 H H0 : Nat} {A : Option Addr} {l l0 : List Int} {v v0 : Value}
theorem RdB.of (h : Rd w A l) : RdB w w.heap.size A l := ⟨h, fun a e hl => by
  obtain ⟨b, off, e', hb, _⟩ := h 0 hl
  rw [e] at e'
  injection e' with e'
  rw [e']; exact hb⟩
theorem OwnB.of (h : Own w B v l) : OwnB w B w.heap.size v l := ⟨h, fun k hk => (World.ownsRow.lt h k hk).2⟩
theorem RdB.rd (h : RdB w H A l) : Rd w A l := h.1
theorem OwnB.own (h : OwnB w B H v l) : Own w B v l := h.1
theorem OwnB.rd {n c : Nat} (h : OwnB w B H (.slice A n c) l) : Rd w A l := by
  obtain ⟨A', c', e, hr, _⟩ := h.1.val
  injection e with e1 _ _
  rw [e1]; exact hr
theorem RdB.grows (h : RdB w H A l) (g : Grows w w') : RdB w' H A l := ⟨h.1.grows g, h.2⟩
theorem OwnB.grows (h : OwnB w B H v l) (g : Grows w w') : OwnB w' B H v l := ⟨h.1.grows g, h.2⟩
theorem OwnB.base (h : OwnB w B H v l) (hB : B0 ≤ B) : OwnB w B0 H v l := ⟨h.1.less hB, h.2⟩
/-- A mark on a row from B0 to H0 leaves what lies below B0 .. -/
theorem RdB.mark (h : RdB w H A l) (o : OwnB w B0 H0 v0 l0) (g : w.grownBy w' v0.ownBlock) (hle : H ≤ B0) : RdB w' H A l := ⟨fun i hi => by
  obtain ⟨b, off, e, hb, hc⟩ := h.1 i hi
  have hH := h.2 _ e (by omega)
  refine ⟨b, off, e, Nat.lt_of_lt_of_le hb g.size, (World.cell?_of_block (g.block b hb (fun e' => ?_))).trans hc⟩
  have := (World.ownsRow.lt o.1 b e'.symm).1
  simp at hH
  omega, h.2⟩
theorem OwnB.mark_lo (h : OwnB w B H v l) (o : OwnB w B0 H0 v0 l0) (g : w.grownBy w' v0.ownBlock) (hle : H ≤ B0) : OwnB w' B H v l :=
  ⟨World.ownsRow.kept h.1 g (by
    rcases hv : v.ownBlock with _ | k
    · exact .inl rfl
    · refine .inr (fun e => ?_)
      have h1 := h.2 k hv
      have h2 := (World.ownsRow.lt o.1 k e.symm).1
      omega), h.2⟩
/-- .. and what lies from H0 on. -/
theorem OwnB.mark_hi (h : OwnB w B H v l) (o : OwnB w B0 H0 v0 l0) (g : w.grownBy w' v0.ownBlock) (hle : H0 ≤ B) : OwnB w' B H v l :=
  ⟨World.ownsRow.kept h.1 g (by
    rcases hv : v.ownBlock with _ | k
    · exact .inl rfl
    · refine .inr (fun e => ?_)
      have h1 := (World.ownsRow.lt h.1 k hv).1
      have h2 := o.2 k e.symm
      omega), h.2⟩
theorem MBox.mark {b : Nat} {r c : Int} (h : MBox w b r c v) (o : OwnB w B0 H0 v0 l0) (g : w.grownBy w' v0.ownBlock) (hle : b < B0 ∨ H0 ≤ b) : MBox w' b r c v := by
  have hne : some b ≠ v0.ownBlock := fun e => by
    have h1 := (World.ownsRow.lt o.1 b e.symm).1
    have h2 := o.2 b e.symm
    omega
  have hk := g.block b h.lt hne
  exact ⟨Nat.lt_of_lt_of_le h.lt g.size, (World.cell?_of_block hk).trans h.c0, (World.cell?_of_block hk).trans h.c1, (World.cell?_of_block hk).trans h.c2, fun o => (World.frozen?_of_block hk).trans (h.fz o)⟩
theorem below_mark {W : World} (hb : Below W.heap.size W w) (o : OwnB w B0 H0 v0 l0) (g : w.grownBy w' v0.ownBlock) (hle : W.heap.size ≤ B0) (hs : W.heap.size ≤ w.heap.size) : Below W.heap.size W w' :=
  hb.grown g hs fun k hk => Nat.le_trans hle (World.ownsRow.lt o.1 k hk).1
end
end Go.Proofs.Ytpfijhcjempfjaa
