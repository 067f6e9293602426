/- Contracts and lemmas, put together. -/
import Derived.Test.YtpgoefdeodoacaaPkB
import Derived.Test.YtpgoefdeodoacaaPkG
import Derived.Test.YtpgoefdeodoacaaPkH
import Derived.Test.YtpgoefdeodoacaaPkI
/- Contracts: the lattice of the vectors whose products with a vector are multiples of a number. -/
namespace Go.Proofs.Ytpgoefdeodoacaa
set_option linter.unusedSimpArgs false
set_option linter.unusedVariables false
open Go.RowKit

/-- the first N columns of a kernel, a basis of their rows -/
def cutO (o : Option MX) (N : Nat) : Option MX := o.bind fun k => basO ⟨k.r, N, fcL k.r.toNat k.c.toNat N k.l⟩
def conO (v : List Int) (n : Int) : Option MX := if 1 ≤ n then cutO (kerO ⟨((v.length + 1 : Nat) : Int), 1, v ++ [n]⟩) v.length else none
theorem cutO_ok {o : Option MX} {N : Nat} {m : MX} (h : cutO o N = some m) : m.ok = true := by
  unfold cutO at h
  obtain ⟨x, _, h2⟩ := Option.bind_eq_some_iff.1 h
  exact basO_ok h2
theorem conO_ok {v : List Int} {n : Int} {m : MX} (h : conO v n = some m) : m.ok = true := by
  unfold conO at h
  split at h
  · exact cutO_ok h
  · cases h
theorem cutO_some {T C N : Nat} {l : List Int} : cutO (some ⟨T, C, l⟩) N = basO ⟨T, N, fcL T C N l⟩ := by
  show basO _ = _
  simp only [Int.toNat_natCast]

section
set_option maxHeartbeats 2000000
theorem kerO_no {a : MX} (h : a.ok = false) : kerO a = none := by unfold kerO; rw [hermO_no h]; rfl
theorem keep3 {W : World} {b b' : Nat} {r c r' c' : Int} {v v' : Value} (h : MBox W b r c v) (h' : MBox W b' r' c' v') : W.cell? ⟨b, 1, none⟩ = some (.int .i64 c) ∧ W.cell? ⟨b, 2, none⟩ = some v ∧ W.cell? ⟨b', 2, none⟩ = some v' := ⟨h.c1, h.c2, h'.c2⟩
end
end Go.Proofs.Ytpgoefdeodoacaa
