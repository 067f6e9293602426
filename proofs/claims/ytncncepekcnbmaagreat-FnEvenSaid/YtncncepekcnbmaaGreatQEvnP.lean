/- Contracts and lemmas, put together. -/
import Derived.Test.YtncncepekcnbmaaGreatPkN
import Derived.Test.YtncncepekcnbmaaGreatQEvT
/- Plain: what the counts of a form hold. -/
namespace Go.Proofs.YtncncepekcnbmaaGreat
set_option linter.unusedSimpArgs false
set_option linter.unusedVariables false
open Go.RowKit

theorem th_facts {r c b : Int} {l a : List Int} (h : thO ⟨r, c, l⟩ b = some a) : 0 ≤ b ∧ b ≤ 10000 ∧ (a.length : Int) = b + 1 ∧ nth a 0 = 1 ∧ (evB r c l = true → ∀ j, j % 2 = 1 → nth a j = 0) := by
  unfold thO at h
  obtain ⟨s, h1, rfl⟩ := Option.map_eq_some_iff.1 h
  have hb : ∃ x, boxO ⟨r, c, l⟩ b = some x := by
    unfold shvO at h1
    obtain ⟨x, h2, _⟩ := Option.bind_eq_some_iff.1 h1
    exact ⟨x, h2⟩
  obtain ⟨x, hx⟩ := hb
  obtain ⟨b0, b1⟩ := boxO_bound hx
  have hm : ∀ k ∈ s, k.1 = vVal r c l k.2 ∧ vOk r c l k.2 = true ∧ 1 ≤ k.1 ∧ k.1 ≤ b := fun k hk => shvO_mem h1 hk
  refine ⟨b0, b1, by rw [thF_length]; omega, thF_zero (fun k hk => (hm k hk).2.2.1) (Nat.le_refl _), fun he j hj => thF_odd (fun k hk => ⟨(hm k hk).2.2.1, ?_⟩) (Nat.le_refl _) hj⟩
  rw [(hm k hk).1]
  exact even_val he (hm k hk).2.1
end Go.Proofs.YtncncepekcnbmaaGreat
