/- Contracts and lemmas, put together. -/
import Derived.Test.YtfilbjbogggaoaaGreatPkN
import Derived.Test.YtfilbjbogggaoaaGreatPkO
/- Plain: what FnMinimum needs. -/
namespace Go.Proofs.YtfilbjbogggaoaaGreat
set_option linter.unusedSimpArgs false
set_option linter.unusedVariables false
open Go.RowKit

theorem fmn_facts {g : MX} {n : Int} (h : minO g = some n) : ∃ (R : Nat) (s : List KV), g.r = R ∧ 1 ≤ R ∧ R ≤ 6 ∧ shtO g = some s ∧ 0 < s.length ∧ s.length ≤ 4000 ∧ kisO g = some (2 * (s.length : Int)) ∧ ∀ k ∈ s, k.2.length ≤ 6 ∧ vOk g.r g.c g.l k.2 = true ∧ vVal g.r g.c g.l k.2 = n := by
  obtain ⟨R, eg, h0, hR6, _⟩ := minO_def h
  obtain ⟨s, hs, hp, hk, hv⟩ := sht_facts h
  exact ⟨R, s, by rw [eg], h0, hR6, hs, hp, shtO_len hs, hk, fun k hk => ⟨shtO_row hs hk, hv k hk⟩⟩
theorem fmn_change {g u : MX} {n : Int} (h : minO g = some n) (hu : MixR g.r.toNat u) : ((cbO g u).isSome && (minO (oM (cbO g u))).isSome) = true → oN (minO (oM (cbO g u))) = n := by
  intro hh
  simp only [Bool.and_eq_true] at hh
  obtain ⟨x, hx⟩ := Option.isSome_iff_exists.1 hh.1
  rw [hx] at hh ⊢
  have h2 := hh.2
  have e : oM (some x) = x := rfl
  rw [e] at h2 ⊢
  obtain ⟨m, hm⟩ := Option.isSome_iff_exists.1 h2
  rw [hm]
  exact min_change h hu hx hm
end Go.Proofs.YtfilbjbogggaoaaGreat
