/- Contracts and lemmas, put together. -/
import Derived.Test.YtfilbjbogggaoaaGreatPkP
/- Plain: the counts of the direct sum with (2) are the join. -/
namespace Go.Proofs.YtfilbjbogggaoaaGreat
set_option linter.unusedSimpArgs false
set_option linter.unusedVariables false
open Go.RowKit

theorem psum_sumN (a b : List Int) (k : Nat) : ∀ i, psum a b k i = sumN i fun t => nth a t * nth b (k - t)
  | 0 => rfl
  | i + 1 => by rw [psum, sumN, psum_sumN a b k i]; rfl
theorem jtList_nth {a b : List Int} {n k : Nat} (hk : k < n) : nth (jtList a b n) k = psum a b k (k + 1) := by
  rw [nth_get _ _ (by rw [jtList_length]; exact hk)]; simp [jtList]
/-- the list of counts, and what it counts -/
theorem thO_parts {g : MX} {b : Int} {a : List Int} (h : thO g b = some a) : ∃ (R : Nat) (s : List KV), g = ⟨R, R, g.l⟩ ∧ shvO ⟨R, R, g.l⟩ b = some s ∧ a = thF b.toNat s s.length ∧ 0 ≤ b ∧ ∀ k ∈ s, 1 ≤ k.1 ∧ k.1 ≤ b := by
  obtain ⟨s, hs, ha, hb⟩ := thO_list h
  obtain ⟨R, eg, _⟩ := shvO_nat hs
  have hs' : shvO ⟨R, R, g.l⟩ b = some s := by rw [← eg]; exact hs
  exact ⟨R, s, eg, hs', ha, hb, fun k hk => by obtain ⟨_, _, _, _, k1, kb⟩ := shvO_in hs' hk; exact ⟨k1, kb⟩⟩
/-- the join of counts -/
theorem theta_side {r c : Int} {l : List Int} {b : Int} {a e d : List Int} (hg : thO ⟨r, c, l⟩ b = some a) (ho : dsOk r c l 1 1 [2] = true) (he : thO ⟨dsR r c l 1 1 [2], dsR r c l 1 1 [2], dsV r c l 1 1 [2]⟩ b = some e) (hd : thO ⟨1, 1, [2]⟩ b = some d) (hj : jok a d = true) : e = jres a d := by
  obtain ⟨R, s, eg, hs, rfl, hb, bs⟩ := thO_parts hg
  have e1 : r = R := congrArg MX.r eg
  have e2 : c = R := congrArg MX.c eg
  subst e1 e2
  have hs : shvO ⟨R, R, l⟩ b = some s := hs
  obtain ⟨R2, s2, eg2, hs2, rfl, _, bs2⟩ := thO_parts hd
  have e3 : (1 : Int) = R2 := congrArg MX.r eg2
  obtain rfl : R2 = 1 := by omega
  have hs2 : shvO ⟨(1 : Nat), (1 : Nat), [2]⟩ b = some s2 := hs2
  have er : dsR R R l 1 1 [2] = ((R + 1 : Nat) : Int) := by unfold dsR; rw [if_pos ho]; omega
  have ev : dsV R R l 1 1 [2] = tab (R + 1) (R + 1) (dsF R 1 l [2]) := by unfold dsV; rw [if_pos ho]; simp only [Int.toNat_natCast]; rfl
  rw [er, ev] at he
  obtain ⟨R3, s3, eg3, hs3, rfl, _, bs3⟩ := thO_parts he
  have e5 : ((R + 1 : Nat) : Int) = R3 := congrArg MX.r eg3
  obtain rfl : R3 = R + 1 := by omega
  have hs3 : shvO ⟨((R + 1 : Nat) : Int), ((R + 1 : Nat) : Int), tab (R + 1) (R + 1) (dsF R 1 l [2])⟩ b = some s3 := hs3
  obtain ⟨n, rfl⟩ : ∃ n : Nat, b = n := ⟨b.toNat, by omega⟩
  simp only [Int.toNat_natCast] at hj ⊢
  have hS : Side2 R (fnOf R l) (fnOf (R + 1) (tab (R + 1) (R + 1) (dsF R 1 l [2]))) := by
    refine ⟨fun i j hi hj => ?_, fun i hi => ?_, fun j hj => ?_, ?_⟩
    · show nth _ (i * (R + 1) + j) = nth l (i * R + j)
      rw [tab_nth _ (by omega) (by omega), dsF_a hi hj]
    · show nth _ (i * (R + 1) + R) = 0
      rw [tab_nth _ (by omega) (by omega), dsF_0 (by omega) (by omega)]
    · show nth _ (R * (R + 1) + j) = 0
      rw [tab_nth _ (by omega) (by omega), dsF_0 (by omega) (by omega)]
    all_goals (
      show nth _ (R * (R + 1) + R) = 2
      rw [tab_nth _ (by omega) (by omega), dsF_b (by omega) (by omega)]
      simp [nth])
  rw [jres_yes hj]
  have hl : min (thF n s s.length).length (thF n s2 s2.length).length = n + 1 := by rw [thF_length, thF_length]; omega
  rw [hl]
  refine nth_ext (by rw [thF_length, jtList_length]) fun j hj' => ?_
  rw [thF_length] at hj'
  rw [jtList_nth (by omega), psum_sumN]
  exact side_join bs bs2 bs3 (fun j hj => cnt_side hS hs hs2 hs3 (by omega)) (by omega)
end Go.Proofs.YtfilbjbogggaoaaGreat
