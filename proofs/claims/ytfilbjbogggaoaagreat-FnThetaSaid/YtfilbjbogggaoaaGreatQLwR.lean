/- Contracts and lemmas, put together. -/
import Derived.Test.YtfilbjbogggaoaaGreatPkA
import Derived.Test.YtfilbjbogggaoaaGreatPkB
/- Contracts: the laws' row, absolute value, equal lists. -/
namespace Go.Proofs.YtfilbjbogggaoaaGreat
set_option linter.unusedSimpArgs false
set_option linter.unusedVariables false
open Go.RowKit

section
set_option maxHeartbeats 4000000
set_option maxRecDepth 10000
theorem abs_c (x : Int) (w : World) :
    Calls Tryz.prog 16 #[.int .i64 x] w fun e w' => ∃ y, e = .returned (.int .i64 y) ∧ Grows w w' := by
  by_cases h : x < wrap64 (-x)
  all_goals (
    go_enter Tryz.func16, Tryz.ntmps16
    go_wp2_with fail
    go_ret
    first | exact ⟨⟨_, rfl⟩, by exact bel0⟩ | exact ⟨_, rfl, by exact bel0⟩ | exact bel0)
theorem sameInts_c (A B : Option Addr) (a b : List Int) (c d : Nat) (w : World) (ha : Rd w A a) (hb : Rd w B b) (hl : a.length ≤ 1099511627776) (hl2 : b.length ≤ 1099511627776) :
    Calls Tryz.prog 47 #[.slice A a.length c, .slice B b.length d] w fun e w' => e = .returned (.bool (eqL a b)) ∧ Grows w w' := by
  by_cases hnm : b.length = a.length
  · obtain ⟨n, hn⟩ : ∃ n, n = a.length := ⟨_, rfl⟩
    rw [hnm] at hl2 ⊢
    rw [← hn] at hl hl2 hnm ⊢
    have HN := Lib.hid hn
    have HM := Lib.hid hnm
    clear hn hnm
    go_enter Tryz.func47, Tryz.ntmps47
    go_wp2_with fail
    go_loopw [5] (fun k wr => ∃ (i : Nat), k = .int .i64 i ∧ i ≤ n ∧ (∀ t, t < i → nth a t = nth b t) ∧ Grows w wr) (fun k _ => n - (intOf k).toNat)
    case atStart => exact ⟨0, rfl, Nat.zero_le _, fun t h => by omega, Below.refl _ _⟩
    case round =>
      obtain ⟨i, rfl, hi, he, hgr⟩ := hrel
      have HE := Lib.hid he
      clear he
      by_cases hlt : i < n
      · obtain ⟨b1, o1, rfl, hbs1, hc1⟩ := (ha.grows hgr).at_ i (by rw [← HN.out]; exact hlt)
        obtain ⟨b2, o2, rfl, hbs2, hc2⟩ := (hb.grows hgr).at_ i (by rw [HM.out]; exact hlt)
        have i1 : (i : Int) < (n : Int) := by omega
        by_cases hx : nth a i = nth b i
        · have hx' : (nth a i != nth b i) = false := by simpa using hx
          have HX := Lib.hid hx
          clear hx
          go_wp2_with fail
          go_quiet (fail)
          go_wp2_with fail
          go_round
          case rel => exact ⟨i + 1, by go_num, by omega, fun t ht => by (by_cases e : t = i); (· subst e; exact HX.out); (· exact HE.out t (by omega)), below_drewN hgr _⟩
          case measure => simp [intOf]; omega
        · have hx' : (nth a i != nth b i) = true := by simpa using hx
          have HX := Lib.hid (eqL_at hx)
          clear hx
          go_wp2_with fail
          go_quiet (fail)
          go_wp2_with fail
          go_ret
          exact ⟨by rw [HX.out]; rfl, below_drewN hgr _⟩
      · obtain rfl : i = n := by omega
        have HX := Lib.hid (eqL_all (a := a) (b := b) (by rw [HM.out]; exact HN.out.symm) (fun t ht => HE.out t (by have := HN.out; omega)))
        go_wp2_with fail
        go_ret
        exact ⟨by rw [HX.out]; rfl, hgr⟩
  · have HX := Lib.hid (eqL_len (a := a) (b := b) (fun e => hnm e.symm))
    generalize a.length = n at *
    generalize b.length = m at *
    have hnm' : ((n : Int) != (m : Int)) = true := by simp; omega
    go_enter Tryz.func47, Tryz.ntmps47
    go_wp2_with fail
    go_ret
    exact ⟨by rw [HX.out]; rfl, Below.refl _ _⟩
end
end Go.Proofs.YtfilbjbogggaoaaGreat
