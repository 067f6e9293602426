/- Contracts and lemmas, put together. -/
import Derived.Deep.CutBlock
import Derived.Deep.DeepCutAuto
import Derived.Test.YtfilbjbogggaoaaGreatPkGD
/- The program's Hermite form: small lemmas, a block of a text. -/
namespace Go.Proofs.YtfilbjbogggaoaaGreat
set_option linter.unusedSimpArgs false
set_option linter.unusedVariables false
open Go.RowKit

theorem WBox.drew_ {w : World} {b : Nat} {R C : Int} {A U V : Value} {bd : Bool} (h : WBox w b R C A U V bd) : WBox w.drew b R C A U V bd := h.grows (by exact bel0)
theorem WBox.far {w : World} {b : Nat} {R C : Int} {A U V : Value} {bd : Bool} (h : WBox w b R C A U V bd) {p : Addr} (hne : b ≠ p.block) (u : Value) : WBox (w.setCell p u) b R C A U V bd :=
  h.of_block (Below.heap_setCell _ _ _ _ hne) (by simp [World.setCell])
theorem wk6 {w : World} {b : Nat} {R C : Int} {A U V : Value} {bd : Bool} (h : WBox w b R C A U V bd) : w.cell? ⟨b, 0, none⟩ = some (.int .i64 R) ∧ w.cell? ⟨b, 1, none⟩ = some (.int .i64 C) ∧ w.cell? ⟨b, 2, none⟩ = some A ∧ w.cell? ⟨b, 3, none⟩ = some (.int .i64 R) ∧ w.cell? ⟨b, 4, none⟩ = some (.int .i64 R) ∧ w.cell? ⟨b, 5, none⟩ = some U := ⟨h.c0, h.c1, h.c2, h.c3, h.c4, h.c5⟩
theorem elimF_none {R C t j p k k' : Nat} {s : LL} (h : elimF R C t j p s k = none) (hk : k ≤ k') : elimF R C t j p s k' = none := by
  induction k' with
  | zero => rw [show k = 0 by omega] at h; exact h
  | succ k' ih =>
    by_cases e : k = k' + 1
    · rw [← e]; exact h
    · rw [elimF, ih (by omega)]; rfl
theorem upF_none {R C t j k k' : Nat} {s : LL} (h : upF R C t j s k = none) (hk : k ≤ k') : upF R C t j s k' = none := by
  induction k' with
  | zero => rw [show k = 0 by omega] at h; exact h
  | succ k' ih =>
    by_cases e : k = k' + 1
    · rw [← e]; exact h
    · rw [upF, ih (by omega)]; rfl
theorem elimE_skip {R C t j p i : Nat} {s z : LL} (hi : t ≤ i) (h : some z = elimF R C t j p s (i - t)) (hc : i = p ∨ nth z.1 (i * C + j) = 0) : some z = elimF R C t j p s (i + 1 - t) := by
  rw [sub_up hi, elimF, ← h, show t + (i - t) = i by omega]
  simp only [Option.bind_some]
  rw [if_pos hc]
theorem elimE_next {R C t j p i : Nat} {s z : LL} (hi : t ≤ i) (h : some z = elimF R C t j p s (i - t)) (h1 : i ≠ p) (h2 : nth z.1 (i * C + j) ≠ 0) : addS R C i p (-(nth z.1 (i * C + j) / nth z.1 (p * C + j))) z = elimF R C t j p s (i + 1 - t) := by
  rw [sub_up hi, elimF, ← h, show t + (i - t) = i by omega]
  simp only [Option.bind_some]
  rw [if_neg (not_or.2 ⟨h1, h2⟩)]

/-- The block of number k in a text. -/
def blockOf (k : Nat) : Code → Option Code
  | .seq a b => (blockOf k a).orElse fun _ => blockOf k b
  | .cond _ a b => (blockOf k a).orElse fun _ => blockOf k b
  | .block i c => if i = k then some (.block i c) else blockOf k c
  | .loop c => blockOf k c
  | _ => none

end Go.Proofs.YtfilbjbogggaoaaGreat
