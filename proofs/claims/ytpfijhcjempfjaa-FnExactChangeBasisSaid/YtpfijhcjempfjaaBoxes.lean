/- Boxes of matrices: stores. -/
import Derived.Test.YtpfijhcjempfjaaMat2
import Derived.Deep.RegionHeld3
import Derived.Deep.DeepCutAuto
namespace Go.Proofs.Ytpfijhcjempfjaa
open Go.RowKit

theorem MBox.far {w : World} {b : Nat} {r c : Int} {v : Value} (h : MBox w b r c v) {p : Addr} (hne : b ≠ p.block) (u : Value) : MBox (w.setCell p u) b r c v :=
  MBox.only h (only_setCell (p := p) (World.grownBy.refl w (some p.block)) rfl u) hne
theorem MBox.alloc {w : World} {b : Nat} {r c : Int} {v : Value} (h : MBox w b r c v) (o : Obj) : MBox (w.alloc o) b r c v := h.grows ((Below.refl _ _).alloc (Nat.le_refl _) o)
theorem MBox.put {w : World} {b : Nat} {r c : Int} {v : Value} (h : MBox w b r c v) (r' c' : Int) (v' : Value) : MBox (((w.setCell ⟨b, 0, none⟩ (.int .i64 r')).setCell ⟨b, 1, none⟩ (.int .i64 c')).setCell ⟨b, 2, none⟩ v') b r' c' v' := by
  obtain ⟨h0, h1, h2⟩ := h.cells
  have hl := h.lt
  have hf := h.fz
  exact ⟨by simp; exact hl, by simp [go_sem, h0], by simp [go_sem, h1], by simp [go_sem, h2], fun o => by simp [go_sem, hf]⟩

end Go.Proofs.Ytpfijhcjempfjaa
