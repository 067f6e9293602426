/- Contracts and lemmas, put together. -/
import Derived.Test.YticmopedbgoflaaQCB
import Derived.Test.YticmopedbgoflaaQGmM
import Derived.Test.YticmopedbgoflaaQMulT
import Derived.Test.YticmopedbgoflaaQVqT
/- Plain: a form has the same values in every basis; the values of a Gram matrix. -/
namespace Go.Proofs.Yticmopedbgoflaa
set_option linter.unusedSimpArgs false
set_option linter.unusedVariables false
open Go.RowKit

theorem MX.eta (m : MX) : (⟨m.r, m.c, m.l⟩ : MX) = m := rfl
/-- the sum over the rows of a change of basis -/
theorem qf_change {N R : Nat} {g u h : Nat → Nat → Int} {v : Nat → Int} (hh : ∀ i j, i < N → j < N → h i j = sumN R fun b => (sumN R fun a => u i a * g a b) * u j b) : qf N h v = qf R g fun a => sumN N fun i => v i * u i a := by
  unfold qf
  have e1 : ∀ i, i < N → sumN N (fun j => v i * h i j * v j) = sumN R fun a => sumN R fun b => (v i * u i a) * g a b * (sumN N fun j => v j * u j b) := fun i hi => by
    rw [sumN_congr fun j hj => by rw [hh i j hi hj]]
    have e2 : ∀ j, v i * (sumN R fun b => (sumN R fun a => u i a * g a b) * u j b) * v j = sumN R fun b => sumN R fun a => (v i * u i a) * g a b * (v j * u j b) := fun j => by
      rw [← sumN_mul, Int.mul_comm _ (v j), ← sumN_mul]
      refine sumN_congr fun b _ => ?_
      rw [Int.mul_comm (sumN R fun a => u i a * g a b) (u j b), ← sumN_mul, ← sumN_mul, ← sumN_mul]
      refine sumN_congr fun a _ => ?_
      ac_rfl
    rw [sumN_congr fun j _ => e2 j, sumN_swap]
    rw [sumN_congr (g := fun b => sumN R fun a => (v i * u i a) * g a b * sumN N fun j => v j * u j b) fun b _ => ?_]
    · rw [sumN_swap]
    · rw [sumN_swap]
      exact sumN_congr fun a _ => by rw [← sumN_mul]
  rw [sumN_congr e1, sumN_swap]
  refine sumN_congr fun a _ => ?_
  rw [sumN_swap]
  refine sumN_congr fun b _ => ?_
  rw [Int.mul_assoc, Int.mul_comm (sumN N fun i => v i * u i a), ← sumN_mul]
  exact sumN_congr fun i _ => by ac_rfl
theorem isGram_nat' {r c : Int} {l : List Int} (h : isGram r c l = true) : ∃ R : Nat, r = R ∧ c = R ∧ R ≤ 6 ∧ l.length = R * R := by
  obtain ⟨_, R, e1, e2, h3, h4, _⟩ := isSq_nat (isGram_sq h)
  exact ⟨R, e1, e2, h3, h4⟩
theorem ok_nat {m : MX} (h : m.ok = true) : ∃ R C : Nat, m = ⟨R, C, m.l⟩ ∧ R ≤ 24 ∧ C ≤ 24 ∧ m.l.length = R * C := by
  obtain ⟨r, c, l⟩ := m
  obtain ⟨R, C, e1, e2, h3, h4, h5, _⟩ := isMat_nat h
  subst e1 e2
  exact ⟨R, C, rfl, h3, h4, h5⟩
theorem mulO_in {a b p : MX} (h : mulO a b = some p) : a.ok = true ∧ b.ok = true ∧ a.c = b.r := by
  unfold mulO at h
  split at h
  · rename_i hh
    unfold mulOk at hh
    simp only [Bool.and_eq_true, beq_iff_eq] at hh
    exact ⟨hh.1.1.1, hh.1.1.2, hh.1.2⟩
  · cases h
theorem cbO_cells {R : Nat} {l : List Int} {u h : MX} (hh : cbO ⟨R, R, l⟩ u = some h) : ∃ N : Nat, u = ⟨N, R, u.l⟩ ∧ h = ⟨N, N, h.l⟩ ∧ u.l.length = N * R ∧ ∀ i j, i < N → j < N → fnOf N h.l i j = sumN R fun b => (sumN R fun a => nth u.l (i * R + a) * fnOf R l a b) * nth u.l (j * R + b) := by
  unfold cbO at hh
  split at hh
  · obtain ⟨p, h1, h2⟩ := Option.bind_eq_some_iff.1 hh
    obtain ⟨hu, _, hc⟩ := mulO_in h1
    obtain ⟨N, C, eu, hN, hC, hul⟩ := ok_nat hu
    rw [eu] at hc
    have hCR : C = R := by simp only at hc; omega
    subst hCR
    rw [eu] at h1 h2
    obtain ⟨p1, p2, p3, p4⟩ := mulO_cells h1
    obtain ⟨pr, pc, pl⟩ := p
    simp only at p1 p2 p3 p4
    subst p1 p2
    have e3 : trM ⟨N, C, u.l⟩ = ⟨C, N, trL N C u.l⟩ := rfl
    rw [e3] at h2
    obtain ⟨q1, q2, q3, q4⟩ := mulO_cells h2
    obtain ⟨hr, hc2, hl⟩ := h
    simp only at q1 q2 q3 q4
    subst q1 q2
    refine ⟨N, eu, rfl, hul, fun i j hi hj => ?_⟩
    show nth hl (i * N + j) = _
    rw [q4 i j hi hj]
    refine sumN_congr fun b hb => ?_
    rw [p4 i b hi hb]
    have t : nth (trL N C u.l) (b * N + j) = nth u.l (j * C + b) := tab_nth (fun j i => nth u.l (i * C + j)) hb hj
    rw [t]; rfl
  · cases hh
/-- a form has the same values in every basis -/
theorem val_change {r c : Int} {l v : List Int} {u h p : MX} (hh : cbO ⟨r, c, l⟩ u = some h) (hp : mulO ⟨1, v.length, v⟩ u = some p) (h1 : vOk h.r h.c h.l v = true) (h2 : vOk r c l p.l = true) : vVal h.r h.c h.l v = vVal r c l p.l := by
  obtain ⟨hg, _⟩ := vOk_parts h2
  obtain ⟨R, rfl, rfl, hR, hl⟩ := isGram_nat' hg
  obtain ⟨N, eu, eh, hul, hcell⟩ := cbO_cells hh
  obtain ⟨_, hv, _⟩ := vOk_parts h1
  rw [eh] at h1 hv ⊢
  simp only at h1 hv ⊢
  have hv' : v.length = N := by omega
  rw [eu, hv'] at hp
  obtain ⟨p1, p2, p3, p4⟩ := mulO_cells (R := 1) (K := N) (C := R) hp
  rw [vVal_qf h1, vVal_qf h2]
  rw [qf_change (u := fun i a => nth u.l (i * R + a)) hcell]
  unfold qf
  have e : ∀ a, a < R → nth p.l a = sumN N fun i => nth v i * nth u.l (i * R + a) := fun a ha => by
    have := p4 0 a (by omega) ha
    rw [Nat.zero_mul, Nat.zero_add] at this
    rw [this]
    exact sumN_congr fun i _ => by rw [Nat.zero_mul, Nat.zero_add]
  refine sumN_congr fun a ha => sumN_congr fun b hb => ?_
  rw [e a ha, e b hb]
/-- the first cells' squares together -/
def sqSum (l : List Int) (n : Nat) : Int := sumN n fun j => nth l j * nth l j
theorem sqSum_succ (l : List Int) (n : Nat) : sqSum l (n + 1) = sqSum l n + nth l n * nth l n := rfl
theorem sqSum_bd {l : List Int} (h : ∀ i, i < l.length → isNum (nth l i) = true) {n : Nat} (hn : n ≤ l.length) : 0 ≤ sqSum l n ∧ sqSum l n ≤ 160000000000000000 * (n : Int) := by
  induction n with
  | zero => exact ⟨Int.le_refl 0, Int.le_refl 0⟩
  | succ n ih =>
    obtain ⟨h1, h2⟩ := ih (by omega)
    have hx := (isNum_iff _).1 (h n (by omega))
    have h3 : 0 ≤ nth l n * nth l n := by rcases Int.le_total 0 (nth l n) with h | h; exact Int.mul_nonneg h h; exact Int.mul_nonneg_of_nonpos_of_nonpos h h
    have h4 : nth l n * nth l n ≤ 400000000 * 400000000 := by
      rcases Int.le_total 0 (nth l n) with h | h
      · exact Int.mul_le_mul hx.2 hx.2 h (by decide)
      · rw [← Int.neg_mul_neg]; exact Int.mul_le_mul (by omega) (by omega) (by omega) (by decide)
    rw [sqSum_succ]
    omega
/-- the first vector of the unit vectors -/
def unitL (k : Nat) : List Int := (List.replicate k 0).set 0 1
theorem unitL_nth {k i : Nat} (h0 : 0 < k) : nth (unitL k) i = if i = 0 then 1 else 0 := by
  unfold unitL
  rw [nth_set _ _ _ _ (by simpa using h0)]
  split
  · rfl
  · unfold nth; simp only [List.getD_eq_getElem?_getD, List.getElem?_replicate]; split <;> rfl
theorem unitL_length (k : Nat) : (unitL k).length = k := by unfold unitL; simp
theorem qf_unit {n : Nat} {f : Nat → Nat → Int} (h : 0 < n) : (qf n f fun i => if i = 0 then 1 else 0) = f 0 0 := by
  unfold qf
  rw [sumN_only (k := 0) h fun i _ hne => sumN_zero fun j _ => by show (if i = 0 then (1 : Int) else 0) * f i j * (if j = 0 then 1 else 0) = 0; rw [if_neg hne]; simp]
  rw [sumN_only (k := 0) h fun j _ hne => by show (if (0 : Nat) = 0 then (1 : Int) else 0) * f 0 j * (if j = 0 then 1 else 0) = 0; rw [if_neg hne]; simp]
  simp
theorem gmO_ok {b m : MX} (h : gmO b = some m) : m.ok = true := by
  unfold gmO at h
  split at h
  · rename_i hh
    have h2 := hh
    unfold gmOk at h2
    rw [Bool.and_eq_true] at h2
    obtain ⟨R, C, e1, e2, hR, hC, hl, hn⟩ := isMat_nat h2.1
    have h3 := h2.2
    cases h
    show isMat b.r b.r (gmL b.r.toNat b.c.toNat b.l) = true
    rw [e1, e2] at h3 ⊢
    simp only [Int.toNat_natCast] at h3 ⊢
    rw [isMat_made hR hR (show (gmL R C b.l).length = R * R from mulL_length _ _ _ _ _)]
    exact h3
  · cases h
/-- what the law needs of a Gram matrix -/
structure GmF (r c : Int) (l : List Int) (k : Nat) : Prop where
  rr : (oM (gmO ⟨r, c, l⟩)).r = (k : Int)
  le : k ≤ 24
  pos : 0 < k → ∃ C : Nat, c = (C : Int) ∧ C ≤ l.length ∧ C ≤ 24 ∧ (∀ i, i < l.length → isNum (nth l i) = true) ∧ (gmO ⟨r, c, l⟩).isSome = true ∧ ∀ x, oM (gmO ⟨r, c, l⟩) = x → vOk x.r x.c x.l (unitL k) = true → vVal x.r x.c x.l (unitL k) = sqSum l C
  big : 6 < k → ∀ x v, oM (gmO ⟨r, c, l⟩) = x → vOk x.r x.c x.l v = false
  zero : k = 0 → ∀ x, oM (gmO ⟨r, c, l⟩) = x → vVal x.r x.c x.l [] = 0
theorem gmF (r c : Int) (l : List Int) : ∃ k, GmF r c l k := by
  cases h : gmOk r c l
  · have e : gmO ⟨r, c, l⟩ = none := by unfold gmO; simp only; rw [h]; rfl
    refine ⟨0, by rw [e]; rfl, by omega, fun h => absurd h (Nat.lt_irrefl 0), fun h => by omega, fun _ x hx => ?_⟩
    rw [e] at hx
    subst hx
    show vVal 0 0 [] [] = 0
    decide
  · have h2 := h
    unfold gmOk at h2
    rw [Bool.and_eq_true] at h2
    obtain ⟨R, C, rfl, rfl, hR, hC, hl, hn⟩ := isMat_nat h2.1
    have e : gmO ⟨R, C, l⟩ = some ⟨R, R, gmL R C l⟩ := by unfold gmO; simp only; rw [if_pos h]; simp only [Int.toNat_natCast]
    refine ⟨R, by rw [e]; rfl, hR, fun h0 => ⟨C, rfl, ?_, hC, hn, by rw [e]; rfl, fun x hx hv => ?_⟩, fun h6 x v hx => ?_, fun h0 x hx => ?_⟩
    · rw [hl]; exact Nat.le_mul_of_pos_left C h0
    · rw [e] at hx
      have hx' : x = ⟨R, R, gmL R C l⟩ := hx.symm
      subst hx'
      rw [vVal_qf hv]
      have e1 : qf R (fnOf R (gmL R C l)) (nth (unitL R)) = qf R (fnOf R (gmL R C l)) fun i => if i = 0 then 1 else 0 := by
        congr 1; funext i; exact unitL_nth h0
      rw [e1, qf_unit h0]
      show nth (gmL R C l) (0 * R + 0) = _
      have t : nth (gmL R C l) (0 * R + 0) = dotTo l (trL R C l) C R 0 0 C := tab_nth (fun i j => dotTo l (trL R C l) C R i j C) h0 h0
      rw [t, dotTo_sum]
      refine sumN_congr fun j hj => ?_
      have t2 : nth (trL R C l) (j * R + 0) = nth l (0 * C + j) := tab_nth (fun j i => nth l (i * C + j)) hj h0
      rw [t2, Nat.zero_mul, Nat.zero_add]
    · rw [e] at hx
      have hx' : x = ⟨R, R, gmL R C l⟩ := hx.symm
      subst hx'
      cases hv : vOk R R (gmL R C l) v
      · rfl
      · obtain ⟨hg, _⟩ := vOk_parts hv
        obtain ⟨R', e1, _, e3, _⟩ := isGram_nat' hg
        omega
    · rw [e] at hx
      have hx' : x = ⟨R, R, gmL R C l⟩ := hx.symm
      subst hx'
      subst h0
      cases hv : vOk (0 : Nat) (0 : Nat) (gmL 0 C l) []
      · unfold vVal; rw [hv]; rfl
      · rw [vVal_qf hv]; rfl
/-- the same, with names -/
theorem gmF2 (r c : Int) (l : List Int) : ∃ (k : Nat) (xc : Int) (xl : List Int) (five : Bool), k ≤ 24 ∧ (oM (gmO ⟨r, c, l⟩) = ⟨k, xc, xl⟩ ∧ (gmO ⟨r, c, l⟩).isSome = five) ∧ xl.length ≤ 576 ∧
    (0 < k → ∃ C : Nat, c = (C : Int) ∧ C ≤ l.length ∧ C ≤ 24 ∧ (∀ i, i < l.length → isNum (nth l i) = true) ∧ five = true ∧ (vOk k xc xl (unitL k) = true → vVal k xc xl (unitL k) = sqSum l C)) ∧
    (6 < k → ∀ v, vOk k xc xl v = false) ∧ (k = 0 → vVal k xc xl [] = 0) := by
  obtain ⟨k, hkr, hk24, hkp, hkb, hkz⟩ := gmF r c l
  have hl := oM_length (o := gmO ⟨r, c, l⟩) fun m h => gmO_ok h
  refine ⟨k, (oM (gmO ⟨r, c, l⟩)).c, (oM (gmO ⟨r, c, l⟩)).l, _, hk24, ⟨by rw [← hkr], rfl⟩, hl, fun h => ?_, fun h v => ?_, fun h => ?_⟩
  · obtain ⟨C, h1, h2, h3, h4, h5, h6⟩ := hkp h
    refine ⟨C, h1, h2, h3, h4, h5, fun hv => ?_⟩
    have := h6 _ rfl
    rw [hkr] at this
    exact this hv
  · have := hkb h _ v rfl
    rwa [hkr] at this
  · have := hkz h _ rfl
    rwa [hkr] at this
end Go.Proofs.Yticmopedbgoflaa
