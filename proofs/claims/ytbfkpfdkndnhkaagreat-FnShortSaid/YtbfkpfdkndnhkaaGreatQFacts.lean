/- Contracts and lemmas, put together. -/
import Derived.Test.YtbfkpfdkndnhkaaGreatPkA
/- Facts of the whole program that every row asks for: shown once. -/
namespace Go.Proofs.YtbfkpfdkndnhkaaGreat
set_option linter.unusedSimpArgs false
set_option linter.unusedVariables false

theorem fLaid : laidOutB Tryz.pinned.checked.prog = true := by kernel_rfl
theorem fRowed : mapsRowed Tryz.pinned.checked.prog = true := by kernel_rfl
theorem fStops : Tryz.pinned.checked.prog.stopsHeard = true := by kernel_rfl
theorem fEnter : Tryz.pinned.checked.prog.mayEnter = true := by kernel_rfl
theorem fLift : Tryz.pinned.checked.prog.liftsFinal = ({ program := "", sum := "", func := "", spec := "" } : OpenClaim).lifted := by kernel_rfl
theorem fMake : Tryz.pinned.checked.prog.make = some ({ program := "", sum := "", func := "", spec := "" } : OpenClaim).make := by kernel_rfl
end Go.Proofs.YtbfkpfdkndnhkaaGreat
