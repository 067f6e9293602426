/- Contracts and lemmas, put together. -/
import Derived.Test.YtfilbjbogggaoaaGreatPkN
import Derived.Test.YtfilbjbogggaoaaGreatQThtJ
/- Plain: what FnTheta needs. -/
namespace Go.Proofs.YtfilbjbogggaoaaGreat
set_option linter.unusedSimpArgs false
set_option linter.unusedVariables false
open Go.RowKit

theorem thO_len2 (g : MX) (b : Int) : (oL (thO g b)).length ≤ 10001 := by
  cases h : thO g b with
  | none => show ([] : List Int).length ≤ 10001; simp
  | some a =>
    show a.length ≤ 10001
    obtain ⟨s, hs, rfl, hb⟩ := thO_list h
    unfold shvO at hs
    obtain ⟨x, hx, _⟩ := Option.bind_eq_some_iff.1 hs
    obtain ⟨b0, b1⟩ := boxO_bound hx
    rw [thF_length]; omega
theorem the_change {g u : MX} {x : Int} {N : Nat} (hN : (N : Int) = max 0 (min g.r 6)) (hu : MixR N u) : ((thO g x).isSome && (cbO g u).isSome && (thO (oM (cbO g u)) x).isSome) = true → eqL (oL (thO g x)) (oL (thO (oM (cbO g u)) x)) = true := by
  intro h
  simp only [Bool.and_eq_true] at h
  obtain ⟨⟨h1, h2⟩, h3⟩ := h
  obtain ⟨a, ha⟩ := Option.isSome_iff_exists.1 h1
  obtain ⟨m, hm⟩ := Option.isSome_iff_exists.1 h2
  rw [hm] at h3 ⊢
  have em : oM (some m) = m := rfl
  rw [em] at h3 ⊢
  obtain ⟨a', ha'⟩ := Option.isSome_iff_exists.1 h3
  have hr : g.r.toNat = N := by
    obtain ⟨s, hs, _, _⟩ := thO_list ha
    obtain ⟨R, eg, hd⟩ := shvO_nat hs
    obtain ⟨_, R', e1, _, hR, _⟩ := isSq_nat (isDef_sq hd)
    have e2 : g.r = R := congrArg MX.r eg
    omega
  rw [ha, ha']; unfold eqL; rw [decide_eq_true_iff]
  exact th_change ha (by rw [hr]; exact hu) hm ha'
theorem the_side {r c : Int} {l : List Int} {x : Int} : ((thO ⟨r, c, l⟩ x).isSome && dsOk r c l 1 1 [2] && (thO ⟨dsR r c l 1 1 [2], dsR r c l 1 1 [2], dsV r c l 1 1 [2]⟩ x).isSome && (thO ⟨1, 1, [2]⟩ x).isSome && jok (oL (thO ⟨r, c, l⟩ x)) (oL (thO ⟨1, 1, [2]⟩ x))) = true →
    eqL (oL (thO ⟨dsR r c l 1 1 [2], dsR r c l 1 1 [2], dsV r c l 1 1 [2]⟩ x)) (jres (oL (thO ⟨r, c, l⟩ x)) (oL (thO ⟨1, 1, [2]⟩ x))) = true := by
  intro h
  simp only [Bool.and_eq_true] at h
  obtain ⟨⟨⟨⟨h1, h2⟩, h3⟩, h4⟩, h5⟩ := h
  obtain ⟨a, ha⟩ := Option.isSome_iff_exists.1 h1
  obtain ⟨e, he⟩ := Option.isSome_iff_exists.1 h3
  obtain ⟨d, hd⟩ := Option.isSome_iff_exists.1 h4
  rw [ha, hd] at h5 ⊢
  rw [he]; unfold eqL; rw [decide_eq_true_iff]
  exact theta_side ha h2 he hd h5
end Go.Proofs.YtfilbjbogggaoaaGreat
