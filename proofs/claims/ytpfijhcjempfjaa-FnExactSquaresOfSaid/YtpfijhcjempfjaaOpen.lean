/- Reading a law's arguments: integers, slices of integers, matrices. -/
import Derived.Test.YtpfijhcjempfjaaMem
import Derived.ProofKit
import Derived.OpenShut
import Derived.ShutString
import Derived.ChangeOld
import Derived.Below
import Derived.Lib.SmallJoins
namespace Go.Proofs.Ytpfijhcjempfjaa
open Go.ChangeShapes Go.WideShapes Go.ChangeAt Go.RowKit Go.Joins

theorem own : ownKnob Try.prog.godebug = none := by kernel_rfl
theorem laidOut : laidOutB Try.prog = true := by kernel_rfl

/-- What a slice of integers that came in is: its numbers fit, it is no longer than its room. -/
def InRow (w : World) (A : Option Addr) (l : List Int) (c : Nat) : Prop := Rd w A l ∧ l.length ≤ c ∧ c ≤ maxLen ∧ ∀ n ∈ l, (Lit.int .i64 n).wf = true

section
variable {H : Type} {enc : TypeId × Value → H} {w : World} {sp : Nat → Bool} {held : Bool}
theorem open_row {fuel : Nat} {v : Value} {x : DataW H × List MemPlace} (h : DataW.trod enc Try.prog w 0 sp held fuel 22 [v] = some x) :
    ∃ A l c, v = .slice A (List.length l) c ∧ InRow w A l c := by
  rcases open_ints Try.underlying22 Try.underlying3 (by kernel_rfl) h with ⟨hcs, _⟩ | ⟨a, l, c, zs, hcs, _, hl, hm, hz, _, hcell, hwz⟩
  · simp at hcs
    subst hcs
    exact ⟨none, [], 0, rfl, Rd.nil _ _, by simp, by simp, by simp⟩
  · simp at hcs
    subst hcs
    have hlz : l ≤ zs.length := by rw [hz]; split <;> omega
    refine ⟨some a, zs.take l, c, by simp [Nat.min_eq_left hlz], fun i hi => ?_, by simp; omega, hm, fun n hn => hwz n (List.mem_of_mem_take hn)⟩
    have hi' : i < l := by simp at hi; omega
    obtain ⟨b, off, rfl, hc⟩ := ints_at hcell (by omega)
    have h1 := hc i (by omega)
    refine ⟨b, off, rfl, World.block_lt_of_cell? w _ h1, ?_⟩
    rw [h1]
    unfold nth
    simp only [List.getD_eq_getElem?_getD, List.getElem?_take, if_pos hi']
end
end Go.Proofs.Ytpfijhcjempfjaa
