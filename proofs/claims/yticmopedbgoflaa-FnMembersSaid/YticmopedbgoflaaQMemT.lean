/- Contracts and lemmas, put together. -/
import Derived.Test.YticmopedbgoflaaQLatL
/- Plain: a vector of a lattice is found by its coordinates if the basis of the rows and the vector is found. -/
namespace Go.Proofs.Yticmopedbgoflaa
set_option linter.unusedSimpArgs false
set_option linter.unusedVariables false
open Go.RowKit

theorem leastF_one {C t j : Nat} {a : List Int} (h0 : nth a (t * C + j) ≠ 0) {k : Nat} (h : ∀ i, t < i → i < t + k → nth a (i * C + j) = 0 ∨ absI (nth a (t * C + j)) ≤ absI (nth a (i * C + j))) (hk : 0 < k) : leastF C t j a k = some t := by
  induction k with
  | zero => omega
  | succ k ih =>
    rw [leastF]
    by_cases e : k = 0
    · subst e
      rw [Nat.add_zero, if_neg h0]; rfl
    · have i1 := ih (fun i h1 h2 => h i h1 (by omega)) (by omega)
      rw [i1]
      split
      · rfl
      · rename_i hz
        rcases h (t + k) (by omega) (by omega) with e2 | e2
        · exact absurd e2 hz
        · simp only
          rw [if_neg (by omega)]
theorem least_zero {R C t j : Nat} {a : List Int} (h : ∀ i, t ≤ i → i < R → nth a (i * C + j) = 0) : least R C t j a = none := by
  cases e : least R C t j a with
  | none => rfl
  | some p => obtain ⟨h1, h2, h3, _⟩ := least_some e; exact absurd (h p h1 h2) h3
theorem elimF_skip {R C t j p : Nat} {s : LL} {k : Nat} (h : ∀ i, t ≤ i → i < t + k → i = p ∨ nth s.1 (i * C + j) = 0) : elimF R C t j p s k = some s := by
  induction k with
  | zero => rfl
  | succ k ih =>
    rw [elimF, ih fun i h1 h2 => h i h1 (by omega)]
    simp only [Option.bind_some]
    rw [if_pos (h (t + k) (by omega) (by omega))]
theorem upF_same {R C t j : Nat} {s s' : LL} (hn : allNum s.1 = true) {k : Nat} (ht : t < R) (hk : k ≤ t) (hj : j < C) (hq : ∀ i, i < k → nth s.1 (i * C + j) / nth s.1 (t * C + j) = 0) (h : upF R C t j s k = some s') : ∀ r b, r < R → b < C → nth s'.1 (r * C + b) = nth s.1 (r * C + b) := by
  induction k generalizing s' with
  | zero => cases h; exact fun _ _ _ _ => rfl
  | succ k ih =>
    rw [upF] at h
    obtain ⟨q, h1, h2⟩ := Option.bind_eq_some_iff.1 h
    have S := ih (by omega) (fun i hi => hq i (by omega)) h1
    obtain ⟨e1, _⟩ := addS_fst h2
    have ok := (addS_ok h2).n1
    rw [e1] at ok
    intro r b hr hb
    rw [e1]
    by_cases e : r = k
    · subst e
      rw [addT_same hr hb ok, S r b hr hb, S t b ht hb, S r j hr hj, S t j ht hj, hq r (by omega)]
      simp
    · rw [addT_other hr hb e, S r b hr hb]
/-- the stack of a lattice's rows and a vector of it, when the columns below j are done -/
structure Sim (R C : Nat) (l v : List Int) (j : Nat) (x : TS) : Prop where
  tR : x.1 ≤ R
  piv : ∀ i, i < R → (pv C l i < j ↔ i < x.1)
  rows : ∀ r b, r < R → b < C → nth x.2.1 (r * C + b) = nth l (r * C + b)
  rest : ∃ s, crdF C l v x.1 = some s ∧ s.1.length = C ∧ ∀ b, b < C → nth x.2.1 (R * C + b) = nth s.1 b
  inl : ∃ y : Nat → Int, (∀ b, b < C → nth x.2.1 (R * C + b) = lc R (mt C l) y b) ∧ ∀ i, i < x.1 → y i = 0
theorem crdS_go {C : Nat} {l : List Int} {I : Nat} {s : List Int × List Int} (h1 : (nth s.1 (pv C l I)).tmod (nth l (I * C + pv C l I)) = 0) (h2 : allNum (subRow C l I (crdQ C l I s.1) s.1) = true) : crdS C l I s = some (subRow C l I (crdQ C l I s.1) s.1, s.2 ++ [crdQ C l I s.1]) := by
  unfold crdS; rw [if_pos ⟨h1, h2⟩]
theorem colS_sim {R C j : Nat} {l v : List Int} (H : Her R C (mt C l) (pv C l)) (hj : j < C) {x y : TS} (ok : Ok2 (R + 1) C x.2) (S : Sim R C l v j x) (h : colS (R + 1) C j x = some y) : Sim R C l v (j + 1) y := by
  obtain ⟨t, a, u⟩ := x
  obtain ⟨hT, hp, hrow, ⟨s, hs, hsl, hse⟩, ⟨z, hz, hz0⟩⟩ := S
  simp only at hT hp hrow hs hse hz hz0
  have ha : allNum a = true := ok.n1
  have hal : a.length = (R + 1) * C := ok.l1
  by_cases hpt : t < R ∧ pv C l t = j
  · obtain ⟨htR, hpj⟩ := hpt
    have hP : 0 < nth l (t * C + j) := by have := H.pos t htR; rw [hpj] at this; exact this
    have hD : nth a (R * C + j) = z t * nth l (t * C + j) := by
      rw [hz j hj, ← hpj]
      exact H.at_ htR hz0
    have hPa := hrow t j htR hj
    have hzero : ∀ i, t < i → i < R → nth a (i * C + j) = 0 := fun i h1 h2 => by
      rw [hrow i j h2 hj]
      exact H.zero i j h2 (by rw [← hpj]; exact H.up t i h1 h2)
    have hD2 : nth a (R * C + j) = 0 ∨ absI (nth a (t * C + j)) ≤ absI (nth a (R * C + j)) := by
      by_cases e : z t = 0
      · left; rw [hD, e, Int.zero_mul]
      · right
        rw [hPa, hD, absI_natAbs, absI_natAbs, Int.natAbs_mul]
        have : 1 ≤ (z t).natAbs := by omega
        have := Nat.mul_le_mul_right (nth l (t * C + j)).natAbs this
        omega
    have hleast : least (R + 1) C t j a = some t := leastF_one (by rw [hPa]; omega) (fun i h1 h2 => by
      by_cases e : i = R
      · rw [e]; exact hD2
      · exact .inl (hzero i h1 (by omega))) (by omega)
    have hL := Lst.of hleast
    have hdiv : nth a (R * C + j) / nth a (t * C + j) = z t := by rw [hD, hPa]; exact Int.mul_ediv_cancel _ (by omega)
    unfold colS at h
    simp only at h
    rw [if_pos (by omega), hleast] at h
    simp only at h
    obtain ⟨⟨s1, p1⟩, h1, h2⟩ := Option.bind_eq_some_iff.1 h
    -- what the passes leave
    have R1 : p1 = t ∧ Ok2 (R + 1) C s1 ∧ (∀ r b, r < R → b < C → nth s1.1 (r * C + b) = nth l (r * C + b)) ∧ (∀ b, b < C → nth s1.1 (R * C + b) = addB (nth s.1 b) (mulB (nth l (t * C + b)) (-(z t)))) ∧ ∀ b, b < C → nth s1.1 (R * C + b) = nth s.1 b + nth l (t * C + b) * (-(z t)) := by
      by_cases e : nth a (R * C + j) = 0
      · have ho : othB (R + 1) C t j t a = false := othB_no fun i h1 h2 h3 => by
          by_cases e2 : i = R
          · rw [e2]; exact e
          · exact hzero i (by omega) (by omega)
        rw [redM_end (s := (a, u)) ho] at h1
        cases h1
        have hzt : z t = 0 := by
          rw [hD] at e
          rcases Int.mul_eq_zero.1 e with e2 | e2
          · exact e2
          · omega
        refine ⟨rfl, ok, hrow, fun b hb => ?_, fun b hb => ?_⟩
        · have n1 : isNum (nth s.1 b) = true := by rw [← hse b hb]; exact nth_num ha _
          have n2 : isNum (nth l (t * C + b)) = true := by rw [← hrow t b htR hb]; exact nth_num ha _
          rw [hzt, sub_cell n1 n2 (by decide), Int.mul_zero, Int.sub_zero, n1, show isNum 0 = true from by decide]
          exact hse b hb
        · rw [hzt]; simp; exact hse b hb
      · have ho : othB (R + 1) C t j t a = true := (othB_iff _ _ _ _ _ _).2 ⟨R, by omega, by omega, by omega, e⟩
        cases he : elimF (R + 1) C t j t (a, u) (R + 1 - t) with
        | none => rw [redM_fail (s := (a, u)) ho he] at h1; cases h1
        | some s2 =>
          have he2 := he
          rw [show R + 1 - t = (R - t) + 1 by omega, elimF, elimF_skip (s := (a, u)) (fun i h1 h2 => by
            by_cases e2 : i = t
            · exact .inl e2
            · exact .inr (hzero i (by omega) (by omega)))] at he2
          simp only [Option.bind_some] at he2
          rw [show t + (R - t) = R by omega, if_neg (by
            intro h3
            rcases h3 with h3 | h3
            · omega
            · exact e h3), hdiv] at he2
          obtain ⟨e1, _⟩ := addS_fst he2
          have ok2 := addS_ok he2
          have n2 := ok2.n1
          rw [e1] at n2
          have old : ∀ r b, r < R → b < C → nth s2.1 (r * C + b) = nth l (r * C + b) := fun r b hr hb => by
            rw [e1, addT_other (by omega) hb (by omega)]; exact hrow r b hr hb
          have new : ∀ b, b < C → nth s2.1 (R * C + b) = nth s.1 b + nth l (t * C + b) * (-(z t)) := fun b hb => by
            rw [e1, addT_same (by omega) hb n2]
            simp only
            rw [hse b hb, hrow t b htR hb]
          have new2 : ∀ b, b < C → nth s2.1 (R * C + b) = addB (nth s.1 b) (mulB (nth l (t * C + b)) (-(z t))) := fun b hb => by
            rw [e1]
            unfold addT
            rw [tab_nth _ (by omega) hb, if_pos rfl]
            simp only
            rw [hse b hb, hrow t b htR hb]
          have z2 : nth s2.1 (R * C + j) = 0 := by
            rw [new j hj, ← hse j hj, hD, Int.mul_neg, Int.mul_comm]; omega
          have hl2 : least (R + 1) C t j s2.1 = some t := leastF_one (by rw [old t j htR hj]; omega) (fun i h1 h2 => by
            by_cases e2 : i = R
            · rw [e2]; exact .inl z2
            · left
              rw [old i j (by omega) hj, ← hrow i j (by omega) hj]; exact hzero i h1 (by omega)) (by omega)
          rw [redM_next (s := (a, u)) ok hL hj ho he hl2, redM_end (othB_no fun i h1 h2 h3 => by
            by_cases e2 : i = R
            · rw [e2]; exact z2
            · rw [old i j (by omega) hj, ← hrow i j (by omega) hj]; exact hzero i (by omega) (by omega))] at h1
          cases h1
          exact ⟨rfl, ok2, old, new2, new⟩
    obtain ⟨rfl, ok1, hr1, hn1, hx1⟩ := R1
    unfold swapIf negIf at h2
    simp only [if_true] at h2
    rw [if_neg (by rw [hr1 _ j htR hj]; omega)] at h2
    obtain ⟨s3, h3, h4⟩ := Option.map_eq_some_iff.1 h2
    subst h4
    have U := upF_same ok1.n1 (by omega) (Nat.le_refl _) hj (fun i hi => by
      rw [hr1 i j (by omega) hj, hr1 _ j htR hj]
      have r := H.red i p1 hi htR
      rw [hpj] at r
      exact Int.ediv_eq_zero_of_lt r.1 r.2) h3
    have hq : crdQ C l p1 s.1 = z p1 := by
      unfold crdQ
      rw [hpj, ← hse j hj, hD]
      exact Int.mul_tdiv_cancel _ (by omega)
    have hs2 : crdF C l v (p1 + 1) = some (subRow C l p1 (z p1) s.1, s.2 ++ [z p1]) := by
      rw [crdF_next hs, crdS_go, hq]
      · rw [hpj, ← hse j hj, hD]; exact Int.mul_tmod_left _ _
      · rw [hq, allNum_iff]
        intro b hb
        rw [subRow_length] at hb
        rw [subRow_nth hb, ← hn1 b hb]
        exact nth_num ok1.n1 _
    refine ⟨htR, fun i hi => ?_, fun r b hr hb => ?_, ⟨_, hs2, subRow_length _ _ _ _ _, fun b hb => ?_⟩, ⟨fun i => if i = p1 then 0 else z i, fun b hb => ?_, fun i hi => ?_⟩⟩
    · simp only
      constructor
      · intro h5
        refine Classical.byContradiction fun h6 => ?_
        have := H.up p1 i (by omega) hi
        omega
      · intro h5
        by_cases e : i = p1
        · rw [e, hpj]; omega
        · have := (hp i hi).2 (by omega); omega
    · simp only; rw [U r b (by omega) hb]; exact hr1 r b hr hb
    · simp only; rw [U R b (by omega) hb, subRow_nth hb]; exact hn1 b hb
    · simp only
      rw [U R b (by omega) hb, hx1 b hb, ← hse b hb, hz b hb]
      have e1 : ∀ i, (if i = p1 then (0 : Int) else z i) = z i + (-(z p1)) * (if i = p1 then 1 else 0) := fun i => by
        split
        · rename_i e; rw [e]; omega
        · omega
      have e2 : lc R (mt C l) (fun i => if i = p1 then (0 : Int) else z i) b = lc R (mt C l) (fun i => z i + (-(z p1)) * (if i = p1 then 1 else 0)) b := lc_congr fun i _ => by rw [e1 i]
      rw [e2, lc_add R (mt C l) z fun i => (-(z p1)) * (if i = p1 then 1 else 0), lc_mul R (mt C l) (-(z p1)) fun i => if i = p1 then 1 else 0, lc_row (mt C l) htR b, Int.mul_comm]
      rfl
    · simp only at hi ⊢
      by_cases e : i = p1
      · rw [if_pos e]
      · rw [if_neg e]; exact hz0 i (by omega)
  · have hne : ∀ i, i < R → pv C l i ≠ j := fun i hi e => by
      have h1 : ¬ i < t := fun h2 => by have := (hp i hi).2 h2; omega
      by_cases e2 : i = t
      · subst e2; exact hpt ⟨hi, e⟩
      · have := H.up t i (by omega) hi
        have := (hp t (by omega)).1 (by omega)
        omega
    have hzero : ∀ i, t ≤ i → i < R → nth l (i * C + j) = 0 := fun i h1 h2 => by
      have h3 : ¬ pv C l i < j := fun h4 => by have := (hp i h2).1 h4; omega
      have := hne i h2
      exact H.zero i j h2 (by omega)
    have hlz : least (R + 1) C t j a = none := least_zero fun i h1 h2 => by
      by_cases e : i = R
      · rw [e, hz j hj]
        exact lc_zero fun k hk => by
          by_cases e2 : k < t
          · exact .inl (hz0 k e2)
          · exact .inr (hzero k (by omega) hk)
      · rw [hrow i j (by omega) hj]; exact hzero i h1 (by omega)
    unfold colS at h
    simp only at h
    rw [if_pos (by omega), hlz] at h
    simp only at h
    cases h
    refine ⟨hT, fun i hi => ?_, hrow, ⟨s, hs, hsl, hse⟩, ⟨z, hz, hz0⟩⟩
    rw [← hp i hi]
    have := hne i hi
    omega
theorem hermF_sim {R C : Nat} {l v u : List Int} (H : Her R C (mt C l) (pv C l)) (hl : l.length = R * C) (hv : v.length = C) (ok : Ok2 (R + 1) C (l ++ v, u)) (hin : InL R C (mt C l) (nth v)) {j : Nat} (hj : j ≤ C) {x : TS} (h : hermF (R + 1) C (l ++ v, u) j = some x) : Sim R C l v j x := by
  induction j generalizing x with
  | zero =>
    cases h
    have cell : ∀ b, b < C → nth (l ++ v) (R * C + b) = nth v b := fun b hb => by
      rw [nth_append_right _ _ _ (by omega), hl, Nat.add_sub_cancel_left]
    obtain ⟨z, hz⟩ := hin
    refine ⟨Nat.zero_le _, fun i _ => by simp, fun r b hr hb => nth_append_left _ _ _ (by rw [hl]; exact idx_lt hr hb), ⟨_, rfl, hv, cell⟩, ⟨z, fun b hb => ?_, fun i hi => absurd hi (Nat.not_lt_zero _)⟩⟩
    exact (cell b hb).trans (hz b hb)
  | succ j ih =>
    rw [hermF] at h
    obtain ⟨y, h1, h2⟩ := Option.bind_eq_some_iff.1 h
    exact colS_sim H (by omega) (hermF_HI ok (by omega) h1).ok (ih (by omega) h1) h2
/-- the coordinates are found where the basis is found -/
theorem crdO_sim {R C : Nat} {l v : List Int} {m : MX} (hlat : latB R C l = true) (hv : v.length = C) (hm : isMat ((R + 1 : Nat) : Int) C (l ++ v) = true) (hb : basO ⟨((R + 1 : Nat) : Int), C, l ++ v⟩ = some m) (hin : InL R C (mt C l) (nth v)) : ∃ x, crdO ⟨R, C, l⟩ v = some x := by
  obtain ⟨hl, H⟩ := latB_her hlat
  have hn : allNum v = true := by
    obtain ⟨_, _, _, _, _, _, hll, hnn⟩ := isMat_nat hm
    rw [allNum_iff]
    intro i hi
    have := hnn (l.length + i) (by rw [List.length_append]; omega)
    rw [nth_append_right _ _ _ (by omega), Nat.add_sub_cancel_left] at this
    exact this
  unfold basO at hb
  obtain ⟨x, h1, _⟩ := Option.map_eq_some_iff.1 hb
  rw [hermO_nat hm] at h1
  obtain ⟨y, h2, _⟩ := Option.map_eq_some_iff.1 h1
  have S := hermF_sim H hl hv (ok2_start hm) hin (Nat.le_refl C) h2
  obtain ⟨hT, hp, hrow, ⟨s, hs, hsl, hse⟩, ⟨z, hz, hz0⟩⟩ := S
  have e : y.1 = R := by
    by_cases e : y.1 < R
    · have := (hp y.1 e).1 (H.lt _ e); omega
    · omega
  rw [e] at hs hz0
  refine ⟨s.2, ?_⟩
  rw [crdO_yes hlat hv hn, hs]
  simp only [Option.bind_some]
  rw [if_pos]
  rw [zeroB_iff]
  intro i hi
  rw [hsl] at hi
  rw [← hse i hi, hz i hi]
  exact lc_zero fun k hk => .inl (hz0 k hk)
theorem mem_law {R C : Nat} {l v : List Int} {s b : MX} (hlat : latB R C l = true) (hs : stkO ⟨R, C, l⟩ ⟨1, v.length, v⟩ = some s) (hb : basO s = some b) : (crdO ⟨R, C, l⟩ v).isSome = eqMat b.r b.c b.l R C l := by
  have hok := stkO_ok hs
  unfold stkO at hs
  split at hs
  · rename_i hc
    simp only [Bool.and_eq_true, decide_eq_true_eq] at hc
    obtain ⟨⟨⟨h1, h2⟩, h3⟩, h4⟩ := hc
    cases hs
    have hv : v.length = C := by omega
    obtain ⟨hl, H⟩ := latB_her hlat
    have hm : isMat ((R + 1 : Nat) : Int) C (l ++ v) = true := hok
    obtain ⟨T, _, B⟩ := basO_D hm hb
    obtain ⟨br, bc, bl⟩ := b
    have e1 := B.r; have e2 := B.c
    simp only at e1 e2
    subst e1 e2
    have old : ∀ r b, r < R → b < C → mt C (l ++ v) r b = mt C l r b := fun r b hr hb => nth_append_left _ _ _ (by rw [hl]; exact idx_lt hr hb)
    have cell : ∀ b, b < C → mt C (l ++ v) R b = nth v b := fun b hb => by
      show nth (l ++ v) (R * C + b) = _
      rw [nth_append_right _ _ _ (by omega), hl, Nat.add_sub_cancel_left]
    have sub : ∀ w, InL R C (mt C l) w → InL (R + 1) C (mt C (l ++ v)) w := fun w h => h.trans fun i hi => (InL.row (k := i) (show i < R + 1 by omega)).congr fun j hj => (old i j hi hj).symm
    by_cases e : T = R ∧ bl = l
    · obtain ⟨rfl, rfl⟩ := e
      have hin : InL T C (mt C bl) (nth v) := ((B.same _).1 (InL.row (k := T) (show T < T + 1 by omega))).congr fun j hj => (cell j hj).symm
      obtain ⟨x, hx⟩ := crdO_sim hlat hv hm hb hin
      rw [hx]
      simp [eqMat, (eqL_iff _ _).2 rfl]
    · have h5 : eqMat T C bl R C l = false := by
        cases h : eqMat T C bl R C l
        · rfl
        · unfold eqMat at h
          simp only [Bool.and_eq_true, beq_iff_eq] at h
          exact absurd ⟨by omega, (eqL_iff _ _).1 h.2.2⟩ e
      rw [h5]
      cases hx : crdO ⟨R, C, l⟩ v with
      | none => rfl
      | some x =>
        exfalso
        have hin := crdO_in hx
        refine e (her_eq B.len hl B.her H fun w => ⟨fun h => ((B.same w).2 h).trans fun i hi => ?_, fun h => (B.same w).1 (sub w h)⟩)
        by_cases e3 : i = R
        · subst e3; exact hin.congr cell
        · exact (InL.row (k := i) (show i < R by omega)).congr fun j hj => old i j (by omega) hj
  · cases hs
/-- the cells of a product -/
theorem mulO_cells {R K C : Nat} {a b : List Int} {p : MX} (h : mulO ⟨R, K, a⟩ ⟨K, C, b⟩ = some p) : p.r = R ∧ p.c = C ∧ p.l.length = R * C ∧ ∀ i j, i < R → j < C → nth p.l (i * C + j) = sumN K fun k => nth a (i * K + k) * nth b (k * C + j) := by
  have e := mulO_eq ⟨R, K, a⟩ ⟨K, C, b⟩
  rw [h] at e
  obtain ⟨e1, e2, e3, e4⟩ := e
  have hok : mulOk R K a K C b = true := e4.symm
  have e1' : p.r = mulR R K a K C b := e1
  have e2' : p.c = mulC R K a K C b := e2
  have e3' : p.l = mulV R K a K C b := e3
  unfold mulR at e1'; unfold mulC at e2'; unfold mulV at e3'
  rw [hok] at e1' e2' e3'
  simp only [if_true, Int.toNat_natCast] at e1' e2' e3'
  refine ⟨e1', e2', by rw [e3', mulL_length], fun i j hi hj => ?_⟩
  rw [e3']
  have t := tab_nth (R := R) (C := C) (i := i) (j := j) (fun i j => dotTo a b K C i j K) hi hj
  refine Eq.trans t ?_
  have : ∀ n, dotTo a b K C i j n = sumN n fun t => nth a (i * K + t) * nth b (t * C + j) := fun n => by
    induction n with
    | zero => rfl
    | succ n ih => rw [dotTo, sumN, ih]
  exact this K
end Go.Proofs.Yticmopedbgoflaa
