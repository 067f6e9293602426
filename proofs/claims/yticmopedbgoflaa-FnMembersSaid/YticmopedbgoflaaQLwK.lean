/- Contracts and lemmas, put together. -/
import Derived.Test.YticmopedbgoflaaPkDr
import Derived.Test.YticmopedbgoflaaQLatL
/- Contracts: the laws' own helpers. -/
namespace Go.Proofs.Yticmopedbgoflaa
set_option linter.unusedSimpArgs false
set_option linter.unusedVariables false
open Go.RowKit

theorem tameB_no {l : List Int} {i : Nat} (hi : i < l.length) (h : 1000 < nth l i ∨ nth l i < -1000) : tameB l = false := by
  cases e : tameB l
  · rfl
  · have := (tameB_iff l).1 e i hi; omega
theorem tameB_yes {l : List Int} (h : ∀ i, i < l.length → -1000 ≤ nth l i ∧ nth l i ≤ 1000) : tameB l = true := (tameB_iff l).2 h
section
set_option maxHeartbeats 4000000
set_option maxRecDepth 10000
theorem tame_c (r c : Int) (A : Option Addr) (l : List Int) (cap : Nat) (w : World) (ha : Rd w A l) (hl : l.length ≤ 1099511627776) :
    Calls Try.prog 28 #[.agg #[.int .i64 r, .int .i64 c, .slice A l.length cap]] w fun e w' => e = .returned (.bool (tameB l)) ∧ Grows w w' := by
  obtain ⟨w1, hw1⟩ : ∃ w1, w1 = w.alloc (.cells #[.int .i64 r, .int .i64 c, .slice A l.length cap] 26) := ⟨_, rfl⟩
  have mb : MBox w1 w.heap.size r c (.slice A l.length cap) := by rw [hw1]; exact MBox.mk_ _ _ _ _ _
  have g01 : Grows w w1 := by rw [hw1]; exact bel0
  have ha1 := ha.grows g01
  have HW1 := Lib.hid hw1
  have HN := Lib.hid fun i (hi : i < l.length) h => tameB_no hi h
  have HY := Lib.hid (@tameB_yes l)
  clear hw1 ha
  generalize tameB l = RES at *
  obtain ⟨mb_0, mb_1, mb_2⟩ := mb.cells
  go_enter Try.func28, Try.ntmps28
  go_wp2_with fail
  rw [← HW1.out]
  go_loopw [3] (fun i wr => ∃ I : Nat, i = .int .i64 I ∧ I ≤ l.length ∧ wr = w1 ∧ RowKit.Hid (∀ k, k < I → -1000 ≤ nth l k ∧ nth l k ≤ 1000)) (fun i _ => l.length - (intOf i).toNat)
  case atStart => exact ⟨0, rfl, Nat.zero_le _, by first | rfl | trivial, Lib.hid fun k hk => absurd hk (Nat.not_lt_zero _)⟩
  case round =>
    obtain ⟨I, rfl, hI, rfl, HD⟩ := hrel
    by_cases hlt : I < l.length
    · have hlt' : (I : Int) < (l.length : Int) := by omega
      obtain ⟨bs, fs, rfl, hbs, s0⟩ := ha1.at_ I hlt
      obtain ⟨y, hy⟩ : ∃ y, y = nth l I := ⟨_, rfl⟩
      rw [← hy] at s0
      have HYY := Lib.hid hy
      clear hy
      by_cases h1 : 1000 < y
      · obtain rfl := HN.out I hlt (.inl (by rw [← HYY.out]; exact h1))
        go_wp2_with fail
        go_ret
        exact ⟨rfl, by exact bel1 g01⟩
      · by_cases h2 : y < -1000
        · obtain rfl := HN.out I hlt (.inr (by rw [← HYY.out]; exact h2))
          go_wp2_with fail
          go_ret
          exact ⟨rfl, by exact bel1 g01⟩
        · have HD2 : RowKit.Hid (∀ k, k < I + 1 → -1000 ≤ nth l k ∧ nth l k ≤ 1000) := Lib.hid fun k hk => by
            by_cases e : k = I
            · rw [e, ← HYY.out]; omega
            · exact HD.out k (by omega)
          go_wp2_with fail
          go_round
          case rel => exact ⟨I + 1, by go_num, by omega, by first | rfl | trivial, HD2⟩
          case measure => first | (simp [intOf]; done) | (simp [intOf]; omega)
    · have hlt' : ¬ (I : Int) < (l.length : Int) := by omega
      obtain rfl : I = l.length := by omega
      obtain rfl := HY.out HD.out
      go_wp2_with fail
      go_ret
      exact ⟨rfl, by exact bel1 g01⟩
theorem lrow_c (A : Option Addr) (n cap : Nat) (w : World) :
    Calls Try.prog 20 #[.slice A n cap] w fun e w' => e = .returned (.agg #[.int .i64 1, .int .i64 n, .slice A n cap]) ∧ Grows w w' := by
  go_enter Try.func20, Try.ntmps20
  go_wp2_with fail
  refine bodyPost_ret (v := .agg #[.int .i64 1, .int .i64 n, .slice A n cap]) ?_ rfl ?_
  · simp [results, Try.results20, go_sem]
  · exact ⟨rfl, by exact bel0⟩
theorem abs_c (x : Int) (w : World) :
    Calls Try.prog 41 #[.int .i64 x] w fun e w' => ∃ y, e = .returned (.int .i64 y) ∧ Grows w w' := by
  by_cases h : x < wrap64 (-x)
  all_goals (
    go_enter Try.func41, Try.ntmps41
    go_wp2_with fail
    go_ret
    first | exact ⟨⟨_, rfl⟩, by exact bel0⟩ | exact ⟨_, rfl, by exact bel0⟩ | exact bel0)
theorem sameInts_c (A B : Option Addr) (a b : List Int) (c d : Nat) (w : World) (ha : Rd w A a) (hb : Rd w B b) (hl : a.length ≤ 1099511627776) (hl2 : b.length ≤ 1099511627776) :
    Calls Try.prog 39 #[.slice A a.length c, .slice B b.length d] w fun e w' => e = .returned (.bool (eqL a b)) ∧ Grows w w' := by
  by_cases hnm : b.length = a.length
  · obtain ⟨n, hn⟩ : ∃ n, n = a.length := ⟨_, rfl⟩
    rw [hnm] at hl2 ⊢
    rw [← hn] at hl hl2 hnm ⊢
    have HN := Lib.hid hn
    have HM := Lib.hid hnm
    clear hn hnm
    go_enter Try.func39, Try.ntmps39
    go_wp2_with fail
    go_loopw [5] (fun k wr => ∃ (i : Nat), k = .int .i64 i ∧ i ≤ n ∧ (∀ t, t < i → nth a t = nth b t) ∧ Grows w wr) (fun k _ => n - (intOf k).toNat)
    case atStart => exact ⟨0, rfl, Nat.zero_le _, fun t h => by omega, Below.refl _ _⟩
    case round =>
      obtain ⟨i, rfl, hi, he, hgr⟩ := hrel
      have HE := Lib.hid he
      clear he
      by_cases hlt : i < n
      · obtain ⟨b1, o1, rfl, hbs1, hc1⟩ := (ha.grows hgr).at_ i (by rw [← HN.out]; exact hlt)
        obtain ⟨b2, o2, rfl, hbs2, hc2⟩ := (hb.grows hgr).at_ i (by rw [HM.out]; exact hlt)
        have i1 : (i : Int) < (n : Int) := by omega
        by_cases hx : nth a i = nth b i
        · have hx' : (nth a i != nth b i) = false := by simpa using hx
          have HX := Lib.hid hx
          clear hx
          go_wp2_with fail
          go_quiet (fail)
          go_wp2_with fail
          go_round
          case rel => exact ⟨i + 1, by go_num, by omega, fun t ht => by (by_cases e : t = i); (· subst e; exact HX.out); (· exact HE.out t (by omega)), below_drewN hgr _⟩
          case measure => simp [intOf]; omega
        · have hx' : (nth a i != nth b i) = true := by simpa using hx
          have HX := Lib.hid (eqL_at hx)
          clear hx
          go_wp2_with fail
          go_quiet (fail)
          go_wp2_with fail
          go_ret
          exact ⟨by rw [HX.out]; rfl, below_drewN hgr _⟩
      · obtain rfl : i = n := by omega
        have HX := Lib.hid (eqL_all (a := a) (b := b) (by rw [HM.out]; exact HN.out.symm) (fun t ht => HE.out t (by have := HN.out; omega)))
        go_wp2_with fail
        go_ret
        exact ⟨by rw [HX.out]; rfl, hgr⟩
  · have HX := Lib.hid (eqL_len (a := a) (b := b) (fun e => hnm e.symm))
    generalize a.length = n at *
    generalize b.length = m at *
    have hnm' : ((n : Int) != (m : Int)) = true := by simp; omega
    go_enter Try.func39, Try.ntmps39
    go_wp2_with fail
    go_ret
    exact ⟨by rw [HX.out]; rfl, Below.refl _ _⟩
end
end Go.Proofs.Yticmopedbgoflaa
