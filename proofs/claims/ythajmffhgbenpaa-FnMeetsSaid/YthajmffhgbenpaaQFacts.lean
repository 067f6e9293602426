/- Contracts and lemmas, put together. -/
import Derived.Test.YthajmffhgbenpaaPkA
/- Facts of the whole program that every row asks for: shown once. -/
namespace Go.Proofs.Ythajmffhgbenpaa
set_option linter.unusedSimpArgs false
set_option linter.unusedVariables false

theorem fLaid : laidOutB Try.pinned.checked.prog = true := by kernel_rfl
theorem fRowed : mapsRowed Try.pinned.checked.prog = true := by kernel_rfl
theorem fStops : Try.pinned.checked.prog.stopsHeard = true := by kernel_rfl
theorem fEnter : Try.pinned.checked.prog.mayEnter = true := by kernel_rfl
theorem fLift : Try.pinned.checked.prog.liftsFinal = ({ program := "", sum := "", func := "", spec := "" } : OpenClaim).lifted := by kernel_rfl
theorem fMake : Try.pinned.checked.prog.make = some ({ program := "", sum := "", func := "", spec := "" } : OpenClaim).make := by kernel_rfl
end Go.Proofs.Ythajmffhgbenpaa
