/- Contracts and lemmas, put together. -/
import Derived.Test.YtncncepekcnbmaaPkD
/- Plain: the squares of the orthogonal vectors together are the determinant. -/
namespace Go.Proofs.Ytncncepekcnbmaa
set_option linter.unusedSimpArgs false
set_option linter.unusedVariables false

def prodP (L : List Int) : Nat → Q2
  | 0 => (1, 1)
  | i + 1 => mulQ (prodP L i) (makeQ (nth L i) (befP L i))
theorem okQ_zero : okQ (0, 0) = false := isRat_zero
theorem mkQ_same {m b : Int} (hb : 0 < b) (h : okQ (mkQ (m * b) b) = true) : mkQ (m * b) b = (m, 1) := by
  have hg : gcdI (m * b) b = b := by
    unfold gcdI
    have : Int.gcd (m * b) b = b.natAbs := by rw [Int.mul_comm, Int.gcd_mul_right_left]
    rw [this]; omega
  rw [mkQ_pos hb, hg] at h ⊢
  rw [Int.mul_tdiv_cancel _ (by omega), Int.tdiv_self (by omega)] at h ⊢
  unfold keepQ at h ⊢
  split
  · rfl
  · rename_i hn; rw [if_neg hn] at h; rw [okQ_zero] at h; cases h
/-- a fraction out of positive numbers -/
theorem makeQ_pos {m b : Int} (hm : 0 < m) (hb : 0 < b) (h : okQ (makeQ m b) = true) : ∃ g m' b' : Int, 0 < g ∧ m = g * m' ∧ b = g * b' ∧ 0 < m' ∧ 0 < b' ∧ makeQ m b = (m', b') := by
  have hn : (isNum m && isNum b) = true := by
    cases hc : (isNum m && isNum b)
    · unfold makeQ at h; rw [hc] at h; simp only [Bool.false_eq_true, if_false] at h; rw [okQ_zero] at h; cases h
    · rfl
  have e : makeQ m b = mkQ m b := by unfold makeQ; rw [if_pos hn]
  rw [e, mkQ_pos hb] at h ⊢
  have hg : 0 < gcdI m b := gcdI_pos (by omega)
  obtain ⟨m', h1⟩ : gcdI m b ∣ m := Int.gcd_dvd_left ..
  obtain ⟨b', h2⟩ : gcdI m b ∣ b := Int.gcd_dvd_right ..
  refine ⟨gcdI m b, m', b', hg, h1, h2, ?_, ?_, ?_⟩
  · rw [h1] at hm; exact Int.pos_of_mul_pos_right hm (by omega)
  · rw [h2] at hb; exact Int.pos_of_mul_pos_right hb (by omega)
  · have t1 : m.tdiv (gcdI m b) = m' := by conv => lhs; arg 1; rw [h1]
                                           exact Int.mul_tdiv_cancel_left _ (by omega)
    have t2 : b.tdiv (gcdI m b) = b' := by conv => lhs; arg 1; rw [h2]
                                           exact Int.mul_tdiv_cancel_left _ (by omega)
    rw [t1, t2] at h ⊢
    unfold keepQ at h ⊢
    split
    · rfl
    · rename_i hn; rw [if_neg hn] at h; rw [okQ_zero] at h; cases h
theorem befP_pos {L : List Int} {n : Nat} (h : ∀ k, k < n → 0 < nth L k) {i : Nat} (hi : i ≤ n) : 0 < befP L i := by
  cases i with
  | zero => exact Int.one_pos
  | succ i => exact h i (by omega)
theorem prodP_ok {L : List Int} {n : Nat} (h : ∀ k, k < n → 0 < nth L k) (i : Nat) (hi : i ≤ n) (ho : okQ (prodP L i) = true) : prodP L i = (befP L i, 1) := by
  induction i with
  | zero => rfl
  | succ i ih =>
    rw [prodP] at ho ⊢
    have h1 : (okQ (prodP L i) && okQ (makeQ (nth L i) (befP L i))) = true := by
      cases hc : (okQ (prodP L i) && okQ (makeQ (nth L i) (befP L i)))
      · unfold mulQ at ho; rw [hc] at ho; simp only [Bool.false_eq_true, if_false] at ho; rw [okQ_zero] at ho; cases ho
      · rfl
    have h2 := h1
    rw [Bool.and_eq_true] at h2
    have hp := ih (by omega) h2.1
    have hm := h i (by omega)
    have hb := befP_pos h (show i ≤ n by omega)
    obtain ⟨g, m', b', hg, e1, e2, hm', hb', e3⟩ := makeQ_pos hm hb h2.2
    have e4 : mulQ (prodP L i) (makeQ (nth L i) (befP L i)) = mkQ (befP L i * m') (1 * b') := by
      unfold mulQ; rw [if_pos h1, hp, e3]
    rw [e4] at ho ⊢
    have e5 : befP L i * m' = nth L i * b' := by rw [e1, e2]; simp only [Int.mul_assoc]; rw [Int.mul_comm b' m']
    rw [e5, Int.one_mul] at ho ⊢
    exact mkQ_same hb' ho
theorem sqQ_pos {L : List Int} {n i : Nat} (h : ∀ k, k < n → 0 < nth L k) (hi : i < n) (ho : okQ (makeQ (nth L i) (befP L i)) = true) : 0 < (makeQ (nth L i) (befP L i)).1 := by
  obtain ⟨g, m', b', _, _, _, hm', _, e3⟩ := makeQ_pos (h i hi) (befP_pos h (by omega)) ho
  rw [e3]; exact hm'
theorem sqP_nth (L : List Int) (n i : Nat) (h : i < n) : nthQ (sqP L n) i = makeQ (nth L i) (befP L i) := by
  induction n with
  | zero => omega
  | succ n ih =>
    rw [sqP]
    unfold nthQ at *
    rw [List.getD_eq_getElem?_getD] at *
    by_cases e : i = n
    · subst e
      rw [List.getElem?_append_right (by rw [sqP_length]; exact Nat.le_refl _), sqP_length, Nat.sub_self]; rfl
    · rw [List.getElem?_append_left (by rw [sqP_length]; omega)]
      exact ih (by omega)
/-- what is known of a definite form -/
theorem def_facts {r c : Int} {l : List Int} (h : isDef r c l = true) : ∃ (L : List Int) (d : Int), sqO r c l = some (sqP L L.length) ∧ L.length ≤ 6 ∧ (∀ k, k < L.length → 0 < nth L k) ∧ dtO ⟨r, c, l⟩ = some d ∧ 0 < d ∧ befP L L.length = d := by
  have hq := isDef_sq h
  obtain ⟨_, R, rfl, rfl, hR, hlen, _⟩ := isSq_nat hq
  obtain ⟨L, hL, hp⟩ := isDef_minors h
  have hll := lmP_length hL
  obtain ⟨d, hd, hd0⟩ := isDef_det h
  have e1 : oL (lmO R R l) = L := by rw [lmO_yes hq, hL]; rfl
  refine ⟨L, d, by unfold sqO; rw [if_pos h, e1], by omega, fun k hk => hp k (by omega), hd, hd0, ?_⟩
  rw [dtO_yes hq] at hd
  rcases Nat.eq_zero_or_pos R with e | e
  · subst e
    rw [hll]
    have : (some 1 : Option Int) = some d := hd
    simpa [befP] using this
  · obtain ⟨R', rfl⟩ : ∃ R', R = R' + 1 := ⟨R - 1, by omega⟩
    have h2 := lmP_get hL (k := R') (by omega)
    rw [subm_self hlen, hd] at h2
    rw [hll]
    exact (Option.some.inj h2).symm
end Go.Proofs.Ytncncepekcnbmaa
