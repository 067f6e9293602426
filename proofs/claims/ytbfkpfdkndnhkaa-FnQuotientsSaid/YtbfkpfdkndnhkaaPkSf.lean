/- Contracts and lemmas, put together. -/
import Derived.Test.YtbfkpfdkndnhkaaPkB
import Derived.Test.YtbfkpfdkndnhkaaPkE
import Derived.Test.YtbfkpfdkndnhkaaPkSa
import Derived.Test.YtbfkpfdkndnhkaaPkSe
import Derived.Test.YtbfkpfdkndnhkaaPkT
/- Plain: the Smith form keeps the classes of a lattice; it is a diagonal. -/
namespace Go.Proofs.Ytbfkpfdkndnhkaa
set_option linter.unusedSimpArgs false
set_option linter.unusedVariables false

theorem lc_id {C : Nat} (x : Nat → Int) {j : Nat} (hj : j < C) : lc C (fun i j => if i = j then 1 else 0) x j = x j := by
  unfold lc
  rw [← sumN_one hj x]
  exact sumN_congr fun i _ => Int.mul_comm _ _
/-- the vectors of two lattices correspond -/
structure LRel (R C : Nat) (a b : Mt) : Prop where
  iso : ∃ V W : Mt, (∀ x, InL R C a x ↔ InL R C b (fun j => lc C V x j)) ∧ ∀ y, InL R C b y ↔ InL R C a (fun j => lc C W y j)
  ind : (∀ x : Nat → Int, (∀ j, j < C → lc R a x j = 0) → ∀ i, i < R → x i = 0) → ∀ x : Nat → Int, (∀ j, j < C → lc R b x j = 0) → ∀ i, i < R → x i = 0
  dvd : ∀ d : Int, (∀ i j, i < R → j < C → d ∣ a i j) → ∀ i j, i < R → j < C → d ∣ b i j
theorem dvd_sum {n : Nat} {d : Int} {f : Nat → Int} (h : ∀ i, i < n → d ∣ f i) : d ∣ sumN n f := by
  induction n with
  | zero => exact ⟨0, by simp [sumN]⟩
  | succ n ih => rw [sumN]; exact Int.dvd_add (ih fun i hi => h i (by omega)) (h n (by omega))
theorem LRel.trans {R C : Nat} {a b c : Mt} (h1 : LRel R C a b) (h2 : LRel R C b c) : LRel R C a c := by
  obtain ⟨V1, W1, t1, s1⟩ := h1.iso
  obtain ⟨V2, W2, t2, s2⟩ := h2.iso
  refine ⟨⟨fun i j => lc C V2 (V1 i) j, fun i j => lc C W1 (W2 i) j, fun x => ?_, fun y => ?_⟩, fun h => h2.ind (h1.ind h), fun d h => h2.dvd d (h1.dvd d h)⟩
  · rw [t1 x, t2]
    exact ⟨fun h => h.congr fun j _ => lc_lc C C V1 V2 x j, fun h => h.congr fun j _ => (lc_lc C C V1 V2 x j).symm⟩
  · rw [s2 y, s1]
    exact ⟨fun h => h.congr fun j _ => lc_lc C C W2 W1 y j, fun h => h.congr fun j _ => (lc_lc C C W2 W1 y j).symm⟩
theorem LRel.rows {R C : Nat} {a b u : Mt} (H : HerD R C a b u) : LRel R C a b := by
  have s : ∀ x, InL R C a x ↔ InL R C b x := fun x => H.same (Nat.le_refl R) (fun i j h1 h2 _ => absurd h2 (by omega)) x
  have e : ∀ {m : Mt} x, InL R C m x ↔ InL R C m (fun j => lc C (fun i j => if i = j then 1 else 0) x j) := fun x => ⟨fun h => h.congr fun j hj => lc_id x hj, fun h => h.congr fun j hj => (lc_id x hj).symm⟩
  refine ⟨⟨_, _, fun x => (s x).trans (e x), fun y => (s y).symm.trans (e y)⟩, fun h x hx => ?_, fun d h i j hi hj => ?_⟩
  · refine H.un.ind x (fun k hk => ?_)
    refine h (fun k => lc R u x k) (fun j hj => ?_) k hk
    rw [← hx j hj, ← lc_lc]
    exact lc_congr fun i hi => by rw [H.made i j hi hj]
  · rw [H.made i j hi hj]
    exact dvd_sum fun k hk => Int.dvd_trans (h k j hk hj) ⟨u i k, Int.mul_comm _ _⟩
theorem LRel.cols {R C : Nat} {a b E F : Mt} (hb : ∀ i j, i < R → j < C → b i j = lc C E (a i) j) (h1 : ∀ x j, j < C → lc C F (fun k => lc C E x k) j = x j) (h2 : ∀ x j, j < C → lc C E (fun k => lc C F x k) j = x j) : LRel R C a b := by
  have eb : ∀ (y : Nat → Int) j, j < C → lc R b y j = lc C E (fun k => lc R a y k) j := fun y j hj => by
    rw [← lc_lc]
    exact lc_congr fun i hi => by rw [hb i j hi hj]
  have cg : ∀ (M : Mt) {x y : Nat → Int} (_ : ∀ k, k < C → x k = y k) j, lc C M x j = lc C M y j := fun M x y h j => lc_congr fun k hk => by rw [h k hk]
  have t : ∀ x, InL R C a x ↔ InL R C b (fun j => lc C E x j) := fun x => by
    constructor
    · rintro ⟨y, hy⟩
      exact ⟨y, fun j hj => by rw [eb y j hj]; exact cg E hy j⟩
    · rintro ⟨y, hy⟩
      refine ⟨y, fun j hj => ?_⟩
      rw [← h1 x j hj, ← h1 (fun k => lc R a y k) j hj]
      exact cg F (fun k hk => (hy k hk).trans (eb y k hk)) j
  refine ⟨⟨E, F, t, fun y => ?_⟩, fun h x hx => ?_, fun d h i j hi hj => ?_⟩
  · rw [t fun j => lc C F y j]
    exact ⟨fun h => h.congr fun j hj => h2 y j hj, fun h => h.congr fun j hj => (h2 y j hj).symm⟩
  · refine h x fun j hj => ?_
    rw [← h1 (fun k => lc R a x k) j hj]
    rw [cg F (y := fun _ => 0) (fun k hk => by rw [← eb x k hk]; exact hx k hk) j]
    exact lc_zero fun _ _ => .inl rfl
  · rw [hb i j hi hj]
    exact dvd_sum fun k hk => Int.dvd_trans (h i k hi hk) ⟨E k j, rfl⟩

/-! ### the operations -/
/-- column i and a multiple of column j -/
def addF (i j : Nat) (t : Int) : Mt := fun k b => (if k = b then 1 else 0) + (if b = i then (if k = j then t else 0) else 0)
theorem lc_addF {C i j : Nat} (hj : j < C) (t : Int) (x : Nat → Int) {b : Nat} (hb : b < C) : lc C (addF i j t) x b = if b = i then x b + x j * t else x b := by
  have e : lc C (addF i j t) x b = lc C (fun i j => if i = j then 1 else 0) x b + sumN C (fun k => x k * (if b = i then (if k = j then t else 0) else 0)) := by
    unfold lc addF
    rw [← sumN_add]
    exact sumN_congr fun k _ => Int.mul_add _ _ _
  rw [e, lc_id x hb]
  by_cases h : b = i
  · rw [if_pos h, sumN_only (k := j) hj fun k _ hne => by rw [if_pos h, if_neg hne, Int.mul_zero]]
    rw [if_pos h, if_pos rfl]
  · rw [if_neg h, sumN_zero fun k _ => by rw [if_neg h, Int.mul_zero], Int.add_zero]
theorem LRel.addC {R C i j : Nat} {t : Int} {a b : Mt} (hj : j < C) (hij : i ≠ j) (hb : ∀ r c, r < R → c < C → b r c = if c = i then a r c + a r j * t else a r c) : LRel R C a b := by
  have inv : ∀ (t : Int) (x : Nat → Int) c, c < C → lc C (addF i j (-t)) (fun k => lc C (addF i j t) x k) c = x c := fun t x c hc => by
    rw [lc_addF hj _ _ hc, lc_addF hj _ _ hc, lc_addF hj _ _ hj]
    by_cases h : c = i
    · rw [if_pos h, if_pos h, if_neg (Ne.symm hij), Int.mul_neg]; omega
    · rw [if_neg h, if_neg h]
  refine LRel.cols (E := addF i j t) (F := addF i j (-t)) (fun r c hr hc => by rw [hb r c hr hc, lc_addF hj _ _ hc]) (inv t) fun x c hc => ?_
  have := inv (-t) x c hc
  rwa [Int.neg_neg] at this
def swpF (i j : Nat) : Mt := fun k b => if k = sw i j b then 1 else 0
theorem lc_swpF {C i j : Nat} (hi : i < C) (hj : j < C) (x : Nat → Int) {b : Nat} (hb : b < C) : lc C (swpF i j) x b = x (sw i j b) := by
  unfold lc swpF
  rw [← sumN_one (sw_lt hi hj hb) x]
  exact sumN_congr fun k _ => Int.mul_comm _ _
theorem LRel.swpC {R C i j : Nat} {a b : Mt} (hi : i < C) (hj : j < C) (hb : ∀ r c, r < R → c < C → b r c = a r (sw i j c)) : LRel R C a b := by
  have inv : ∀ (x : Nat → Int) c, c < C → lc C (swpF i j) (fun k => lc C (swpF i j) x k) c = x c := fun x c hc => by
    rw [lc_swpF hi hj _ hc, lc_swpF hi hj _ (sw_lt hi hj hc), sw_sw]
  exact LRel.cols (E := swpF i j) (F := swpF i j) (fun r c hr hc => by rw [hb r c hr hc, lc_swpF hi hj _ hc]) inv inv
theorem LRel.refl (R C : Nat) (a : Mt) : LRel R C a a := LRel.rows (HerD.one R C a)
/-- the state of the rounds: rows and columns before t are done -/
structure SmD (R C t : Nat) (m : Mt) (a : List Int) : Prop where
  rel : LRel R C m (mt C a)
  zr : ∀ i j, i < R → j < C → (i < t ∨ j < t) → i ≠ j → nth a (i * C + j) = 0
  dp : ∀ i, i < t → i < R → i < C → 0 < nth a (i * C + i)
theorem SmD.keep {R C t : Nat} {m : Mt} {a b : List Int} (h : SmD R C t m a) (hr : LRel R C (mt C a) (mt C b)) (hs : ∀ i j, i < R → j < C → (i < t ∨ j < t) → nth b (i * C + j) = nth a (i * C + j)) : SmD R C t m b :=
  ⟨h.rel.trans hr, fun i j hi hj hc hne => by rw [hs i j hi hj hc]; exact h.zr i j hi hj hc hne, fun i hi hR hC => by rw [hs i i hR hC (.inl hi)]; exact h.dp i hi hR hC⟩
theorem SmD.addR {R C t : Nat} {m : Mt} {a : List Int} (h : SmD R C t m a) {i j : Nat} {x : Int} (hi : i < R) (hj : j < R) (hit : t ≤ i) (hjt : t ≤ j) (hij : i ≠ j) (hn : allNum (addT R C i j x a) = true) : SmD R C t m (addT R C i j x a) := by
  have cell : ∀ r c, r < R → c < C → nth (addT R C i j x a) (r * C + c) = if r = i then nth a (r * C + c) + nth a (j * C + c) * x else nth a (r * C + c) := fun r c hr hc => by
    by_cases e : r = i
    · subst e; rw [if_pos rfl]; exact addT_same hr hc hn
    · rw [if_neg e]; exact addT_other hr hc e
  refine h.keep (LRel.rows ((HerD.one R C (mt C a)).add hj hij x cell fun _ _ _ _ => rfl)) fun r c hr hc hh => ?_
  rw [cell r c hr hc]
  by_cases e : r = i
  · rw [if_pos e, h.zr j c hj hc (.inr (by omega)) (by omega)]; simp
  · rw [if_neg e]
theorem sw_cases (i j a : Nat) : sw i j a = if a = i then j else if a = j then i else a := by unfold sw; rfl
theorem SmD.swpR {R C t : Nat} {m : Mt} {a : List Int} (h : SmD R C t m a) {i j : Nat} (hi : i < R) (hj : j < R) (hit : t ≤ i) (hjt : t ≤ j) : SmD R C t m (swpT R C i j a) := by
  have cell : ∀ r c, r < R → c < C → nth (swpT R C i j a) (r * C + c) = nth a (sw i j r * C + c) := fun r c hr hc => by
    rw [swpT_cell hr hc, sw_cases]
    split
    · rfl
    · split <;> rfl
  refine h.keep (LRel.rows ((HerD.one R C (mt C a)).swp hi hj cell fun _ _ _ _ => rfl)) fun r c hr hc hh => ?_
  rw [cell r c hr hc, sw_cases]
  by_cases e : r = i
  · rw [if_pos e, h.zr j c hj hc (.inr (by omega)) (by omega), e, h.zr i c hi hc (.inr (by omega)) (by omega)]
  · rw [if_neg e]
    by_cases e2 : r = j
    · rw [if_pos e2, h.zr i c hi hc (.inr (by omega)) (by omega), e2, h.zr j c hj hc (.inr (by omega)) (by omega)]
    · rw [if_neg e2]
theorem SmD.negR {R C t : Nat} {m : Mt} {a : List Int} (h : SmD R C t m a) (hl : a.length = R * C) (hn : allNum a = true) {i : Nat} (hi : i < R) (hit : t ≤ i) : SmD R C t m (negT R C i a) := by
  have cell : ∀ r c, r < R → c < C → nth (negT R C i a) (r * C + c) = if r = i then - nth a (r * C + c) else nth a (r * C + c) := fun r c hr hc => by
    rw [negT_cell hl hn hr hc]
  refine h.keep (LRel.rows ((HerD.one R C (mt C a)).neg cell fun _ _ _ _ => rfl)) fun r c hr hc hh => ?_
  rw [cell r c hr hc]
  by_cases e : r = i
  · rw [if_pos e, h.zr r c hr hc (.inr (by omega)) (by omega)]; rfl
  · rw [if_neg e]
theorem SmD.addC {R C t : Nat} {m : Mt} {a : List Int} (h : SmD R C t m a) {i j : Nat} {x : Int} (hi : i < C) (hj : j < C) (hit : t ≤ i) (hjt : t ≤ j) (hij : i ≠ j) (hn : allNum (addCT R C i j x a) = true) : SmD R C t m (addCT R C i j x a) := by
  have cell : ∀ r c, r < R → c < C → nth (addCT R C i j x a) (r * C + c) = if c = i then nth a (r * C + c) + nth a (r * C + j) * x else nth a (r * C + c) := fun r c hr hc => by
    by_cases e : c = i
    · subst e; rw [if_pos rfl]; exact addCT_same hc hr hn
    · rw [if_neg e]; exact addCT_other hr hc e
  refine h.keep (LRel.addC hj hij cell) fun r c hr hc hh => ?_
  rw [cell r c hr hc]
  by_cases e : c = i
  · rw [if_pos e, h.zr r j hr hj (.inl (by omega)) (by omega)]; simp
  · rw [if_neg e]
theorem SmD.swpC {R C t : Nat} {m : Mt} {a : List Int} (h : SmD R C t m a) {i j : Nat} (hi : i < C) (hj : j < C) (hit : t ≤ i) (hjt : t ≤ j) : SmD R C t m (swpCT R C i j a) := by
  have cell : ∀ r c, r < R → c < C → nth (swpCT R C i j a) (r * C + c) = nth a (r * C + sw i j c) := fun r c hr hc => by
    rw [swpCT_cell hr hc, sw_cases]
    split
    · rfl
    · split <;> rfl
  refine h.keep (LRel.swpC hi hj cell) fun r c hr hc hh => ?_
  rw [cell r c hr hc, sw_cases]
  by_cases e : c = i
  · rw [if_pos e, h.zr r j hr hj (.inl (by omega)) (by omega), e, h.zr r i hr hi (.inl (by omega)) (by omega)]
  · rw [if_neg e]
    by_cases e2 : c = j
    · rw [if_pos e2, h.zr r i hr hi (.inl (by omega)) (by omega), e2, h.zr r j hr hj (.inl (by omega)) (by omega)]
    · rw [if_neg e2]

/-! ### the rounds -/
theorem SmD.piv {R C t : Nat} {m : Mt} {q : Pl} {s : L3} (h : SmD R C t m s.1) (htR : t < R) (htC : t < C) (h1 : q.1 < R) (h2 : q.2 < C) (h3 : t ≤ q.1) (h4 : t ≤ q.2) : SmD R C t m (piv R C t q s).1 := by
  unfold Proofs.Ytbfkpfdkndnhkaa.piv
  dsimp only
  have h5 : SmD R C t m (if q.1 = t then s else swpR3 R C q.1 t s).1 := by
    split
    · exact h
    · exact h.swpR h1 htR h3 (Nat.le_refl t)
  split
  · exact h5
  · exact h5.swpC h2 htC h4 (Nat.le_refl t)
theorem SmD.smA {R C t : Nat} {m : Mt} {s : L3} (hs : Ok3 R C s) (h : SmD R C t m s.1) (htR : t < R) (htC : t < C) {k : Nat} (hk : t + 1 + k ≤ R) {s' : L3} (e : smA R C t s k = some s') : SmD R C t m s'.1 := by
  induction k generalizing s' with
  | zero => cases e; exact h
  | succ k ih =>
    rw [Proofs.Ytbfkpfdkndnhkaa.smA] at e
    obtain ⟨x, h1, h2⟩ := Option.bind_eq_some_iff.1 e
    have H := ih (by omega) h1
    have E := smA_AI hs htR htC (by omega) h1
    split at h2
    · cases h2; exact H
    · obtain ⟨rfl, ok'⟩ := addR3_ok E.ok h2
      exact H.addR (by omega) htR (by omega) (Nat.le_refl t) (by omega) ok'.n1
theorem SmD.smB {R C t : Nat} {m : Mt} {s : L3} (hs : Ok3 R C s) (h : SmD R C t m s.1) (htR : t < R) (htC : t < C) {k : Nat} (hk : t + 1 + k ≤ C) {s' : L3} (e : smB R C t s k = some s') : SmD R C t m s'.1 := by
  induction k generalizing s' with
  | zero => cases e; exact h
  | succ k ih =>
    rw [Proofs.Ytbfkpfdkndnhkaa.smB] at e
    obtain ⟨x, h1, h2⟩ := Option.bind_eq_some_iff.1 e
    have H := ih (by omega) h1
    have E := smB_BI hs htR htC (by omega) h1
    split at h2
    · cases h2; exact H
    · obtain ⟨rfl, ok'⟩ := addC3_ok E.ok h2
      exact H.addC (by omega) htC (by omega) (Nat.le_refl t) (by omega) ok'.n1
theorem SmD.round {R C t : Nat} {m : Mt} {s y : L3} {b : Bool} (hs : Ok3 R C s) (h : SmD R C t m s.1) (htR : t < R) (htC : t < C) (e : smRound R C t s = some (y, b)) : SmD R C t m y.1 ∧ (b = false → lf R C t y.1 = false ∧ nth y.1 (t * C + t) ≠ 0) := by
  unfold smRound at e
  cases hl : lst R C t s.1 with
  | none => rw [hl] at e; cases e
  | some q =>
    rw [hl] at e
    dsimp only at e
    obtain ⟨⟨hq1, hq2, hq3, hq4⟩, hqn, hqle⟩ := (lst_LI R C t s.1).yes q hl
    obtain ⟨x, h1, e⟩ := Option.bind_eq_some_iff.1 e
    obtain ⟨y0, h2, h3⟩ := Option.bind_eq_some_iff.1 e
    have okp := piv_ok hs htR htC hq2 hq4
    have A := smA_AI okp htR htC (by omega) h1
    have B := smB_BI A.ok htR htC (by omega) h2
    have D0 := h.piv htR htC hq2 hq4 hq1 hq3 (q := q)
    have D1 := D0.smA okp htR htC (by omega) h1
    have D2 := D1.smB A.ok htR htC (by omega) h2
    have hne : nth y0.1 (t * C + t) ≠ 0 := by
      rw [B.same t t htR htC (.inl (Nat.le_refl t)), A.same t t htR htC (.inl (Nat.le_refl t)), piv_cell htR htC hq2 hq4]
      exact hqn
    unfold smEnd at h3
    split at h3
    · cases h3; exact ⟨D2, fun h => by cases h⟩
    · rename_i hlf
      split at h3
      · rename_i i hi
        obtain ⟨z, h4, h5⟩ := Option.map_eq_some_iff.1 h3
        obtain ⟨hi1, hi2, _⟩ := ndI_some hi
        cases h5
        obtain ⟨rfl, ok'⟩ := addR3_ok B.ok h4
        exact ⟨D2.addR htR (by omega) (Nat.le_refl t) (by omega) (by omega) ok'.n1, fun h => by cases h⟩
      · cases h3
        exact ⟨D2, fun _ => ⟨by simpa using hlf, hne⟩⟩
theorem SmD.all {R C t : Nat} {m : Mt} {s : L3} {o : Option L3} (k : SmT R C t s o) (hs : Ok3 R C s) (h : SmD R C t m s.1) (htR : t < R) (htC : t < C) : ∀ y, o = some y → SmD R C (t + 1) m y.1 := by
  induction k with
  | bad _ => intro y e; cases e
  | again e _ ih => exact ih (round_done hs htR htC e) (SmD.round hs h htR htC e).1
  | done e =>
    rename_i s y
    intro z hz
    cases hz
    obtain ⟨D, hd⟩ := SmD.round hs h htR htC e
    obtain ⟨hlf, hne⟩ := hd rfl
    have ok := round_done hs htR htC e
    unfold lf at hlf
    rw [Bool.or_eq_false_iff] at hlf
    have cA : ∀ r, t < r → r < R → nth y.1 (r * C + t) = 0 := fun r h1 h2 => Classical.byContradiction fun hc => by
      have := lfA_true.2 ⟨r, h1, (show r < t + 1 + (R - t - 1) by omega), hc⟩
      rw [hlf.1] at this; cases this
    have cB : ∀ b, t < b → b < C → nth y.1 (t * C + b) = 0 := fun b h1 h2 => Classical.byContradiction fun hc => by
      have := lfB_true.2 ⟨b, h1, (show b < t + 1 + (C - t - 1) by omega), hc⟩
      rw [hlf.2] at this; cases this
    have fin : ∀ a : List Int, SmD R C t m a → (∀ r, t < r → r < R → nth a (r * C + t) = 0) → (∀ b, t < b → b < C → nth a (t * C + b) = 0) → 0 < nth a (t * C + t) → SmD R C (t + 1) m a := fun a D cA cB hp => by
      refine ⟨D.rel, fun i j hi hj hc hij => ?_, fun i hi hR hC => ?_⟩
      · by_cases e1 : i < t ∨ j < t
        · exact D.zr i j hi hj e1 hij
        · by_cases e2 : i = t
          · subst e2; exact cB j (by omega) hj
          · obtain rfl : j = t := by omega
            exact cA i (by omega) hi
      · by_cases e1 : i = t
        · rw [e1]; exact hp
        · exact D.dp i (by omega) hR hC
    unfold ngv
    split
    · rename_i hneg
      have cell : ∀ r c, r < R → c < C → nth (negT R C t y.1) (r * C + c) = if r = t then - nth y.1 (r * C + c) else nth y.1 (r * C + c) := fun r c hr hc => negT_cell ok.l1 ok.n1 hr hc
      refine fin _ (D.negR ok.l1 ok.n1 htR (Nat.le_refl t)) (fun r h1 h2 => ?_) (fun b h1 h2 => ?_) ?_
      · show nth (negT R C t y.1) _ = 0
        rw [cell r t h2 htC, if_neg (by omega)]; exact cA r h1 h2
      · show nth (negT R C t y.1) _ = 0
        rw [cell t b htR h2, if_pos rfl, cB b h1 h2]; rfl
      · show 0 < nth (negT R C t y.1) _
        rw [cell t t htR htC, if_pos rfl]; omega
    · exact fin _ D cA cB (by omega)
/-- the end of the rounds: a diagonal -/
structure SmE (R C n : Nat) (m : Mt) (a : List Int) : Prop where
  d : SmD R C n m a
  nR : n ≤ R
  nC : n ≤ C
  rest : ∀ i j, n ≤ i → i < R → n ≤ j → j < C → nth a (i * C + j) = 0
theorem SmD.end {R C t : Nat} {m : Mt} {s : L3} {o : Option L3} (k : SmF R C t s o) (hs : Ok3 R C s) (h : SmD R C t m s.1) (htR : t ≤ R) (htC : t ≤ C) : ∀ y, o = some y → ∃ n, SmE R C n m y.1 := by
  induction k with
  | stop e =>
    rename_i t s
    intro y hy
    cases hy
    refine ⟨t, h, htR, htC, fun i j h1 h2 h3 h4 => ?_⟩
    rcases e with e | e
    · exact absurd ⟨by omega, by omega⟩ e
    · exact (lst_LI R C t s.1).no e i j ⟨h1, h2, h3, h4⟩
  | bad _ _ _ _ => intro y e; cases e
  | step h1 h2 _ k _ ih => exact ih (k.ok hs h1 h2 _ rfl) (SmD.all k hs h h1 h2 _ rfl) (by omega) (by omega)
end Go.Proofs.Ytbfkpfdkndnhkaa

/- Plain: the orders of a quotient: how many, what their product is, and those of a lattice over three times itself. -/
namespace Go.Proofs.Ytbfkpfdkndnhkaa
set_option linter.unusedSimpArgs false
set_option linter.unusedVariables false

/-- the product of the first numbers of a list -/
def prI (l : List Int) : Nat → Int
  | 0 => 1
  | i + 1 => prI l i * nth l i
theorem prI_app {a b : List Int} {k : Nat} (h : k ≤ a.length) : prI (a ++ b) k = prI a k := by
  induction k with
  | zero => rfl
  | succ k ih => rw [prI, prI, ih (by omega), nth_append_left _ _ _ (by omega)]
theorem prI_gtF {f : List Int} {k : Nat} (h : ∀ i, i < k → 1 ≤ nth f i) : prI (gtF f k) (gtF f k).length = prI f k ∧ ∀ i, i < (gtF f k).length → 1 ≤ nth (gtF f k) i := by
  induction k with
  | zero => exact ⟨rfl, fun i hi => absurd hi (Nat.not_lt_zero _)⟩
  | succ k ih =>
    obtain ⟨h1, h2⟩ := ih fun i hi => h i (by omega)
    have hk := h k (by omega)
    by_cases e : 1 < nth f k
    · rw [gtF_more e, List.length_append]
      constructor
      · show prI (gtF f k ++ [nth f k]) ((gtF f k).length + 1) = _
        rw [prI, prI, prI_app (Nat.le_refl _), h1, nth_append_right _ _ _ (Nat.le_refl _), Nat.sub_self]; rfl
      · intro i hi
        simp only [List.length_singleton] at hi
        by_cases e2 : i < (gtF f k).length
        · rw [nth_append_left _ _ _ e2]; exact h2 i e2
        · rw [nth_append_right _ _ _ (by omega), show i - (gtF f k).length = 0 by omega]; exact hk
    · rw [gtF_less e, prI, h1, show nth f k = 1 by omega, Int.mul_one]
      exact ⟨rfl, h2⟩
theorem prI_pos {l : List Int} {n : Nat} (h : ∀ i, i < n → 1 ≤ nth l i) : ∀ k, k ≤ n → 1 ≤ prI l k := by
  intro k
  induction k with
  | zero => intro _; exact Int.le_refl _
  | succ k ih =>
    intro hk
    have h1 := ih (by omega)
    have h2 := h k (by omega)
    rw [prI]
    have := Int.mul_le_mul h1 h2 (by omega) (by omega)
    omega
theorem prI_le {l : List Int} {n : Nat} (h : ∀ i, i < n → 1 ≤ nth l i) {k : Nat} (hk : k ≤ n) : prI l k ≤ prI l n := by
  induction n with
  | zero => rw [show k = 0 by omega]; exact Int.le_refl _
  | succ n ih =>
    by_cases e : k = n + 1
    · rw [e]; exact Int.le_refl _
    · have h1 := ih (fun i hi => h i (by omega)) (by omega)
      have h2 := prI_pos (fun i hi => h i (show i < n + 1 by omega)) n (by omega)
      have h3 := h n (by omega)
      rw [prI]
      have := Int.mul_le_mul_of_nonneg_left h3 (show 0 ≤ prI l n by omega)
      rw [Int.mul_one] at this
      omega
theorem smD_E {R C : Nat} {l : List Int} {d : MX} (h : isMat R C l = true) (hd : smD ⟨R, C, l⟩ = some d) : ∃ (n : Nat) (a : List Int), d = ⟨R, C, a⟩ ∧ SmE R C n (mt C l) a := by
  rw [smD_nat h] at hd
  obtain ⟨y, h1, rfl⟩ := Option.map_eq_some_iff.1 hd
  obtain ⟨R', C', e1, e2, _, _, hlen, hnum⟩ := isMat_nat h
  obtain rfl : R = R' := by omega
  obtain rfl : C = C' := by omega
  unfold smF at h1
  split at h1
  · rename_i hx
    have D : SmD R C 0 (mt C l) (l, idL R, idL C).1 := ⟨LRel.refl R C _, fun i j _ _ hc => by omega, fun i hi => by omega⟩
    obtain ⟨n, hn⟩ := SmD.end hx.choose_spec ⟨hlen, idL_length R, idL_length C, (allNum_iff _).2 hnum, idL_num R, idL_num C⟩ D (Nat.zero_le _) (Nat.zero_le _) _ h1
    exact ⟨n, y.1, rfl, hn⟩
  · cases h1
theorem dgs_E {R C n : Nat} {m : Mt} {a : List Int} (h : SmE R C n m a) : ∀ k, k ≤ R → k ≤ C → (dgs C a k).length = min n k ∧ ∀ i, i < min n k → nth (dgs C a k) i = nth a (i * C + i) := by
  intro k
  induction k with
  | zero => intro _ _; exact ⟨by simp [dgs], fun i hi => by omega⟩
  | succ k ih =>
    intro hR hC
    obtain ⟨h1, h2⟩ := ih (by omega) (by omega)
    by_cases e : k < n
    · have hp := h.d.dp k e (by omega) (by omega)
      rw [dgs_more (by omega)]
      refine ⟨by rw [List.length_append, h1]; simp only [List.length_singleton]; omega, fun i hi => ?_⟩
      by_cases e2 : i < k
      · rw [nth_append_left _ _ _ (by omega)]; exact h2 i (by omega)
      · obtain rfl : i = k := by omega
        rw [nth_append_right _ _ _ (by omega), h1, show i - min n i = 0 by omega]; rfl
    · rw [dgs_zero (h.rest k k (by omega) (by omega) (by omega) (by omega))]
      exact ⟨by omega, fun i hi => h2 i (by omega)⟩
/-- a diagonal with positive numbers is in Hermite form -/
theorem SmE.her {R : Nat} {m : Mt} {a : List Int} (h : SmE R R R m a) : Her R R (mt R a) fun i => i :=
  ⟨fun i hi => hi, fun i k hik _ => hik, fun i hi => h.d.dp i hi hi hi, fun i j hi hj => h.d.zr i j hi (by omega) (.inl hi) (by omega), fun k i hk hi => by
    have : mt R a k i = 0 := h.d.zr k i (by omega) hi (.inl (by omega)) (by omega)
    rw [this]
    exact ⟨Int.le_refl _, h.d.dp i hi hi hi⟩⟩
theorem SmE.full {R C n : Nat} {m : Mt} {a : List Int} (h : SmE R C n m a) (hi : ∀ x : Nat → Int, (∀ j, j < C → lc R m x j = 0) → ∀ i, i < R → x i = 0) : n = R := by
  refine Classical.byContradiction fun hne => ?_
  have hn : n < R := by have := h.nR; omega
  have := h.d.rel.ind hi (fun i => if i = n then 1 else 0) (fun j hj => by
    rw [lc_row _ hn]
    by_cases e : j < n
    · exact h.d.zr n j hn hj (.inr e) (by omega)
    · exact h.rest n j (Nat.le_refl _) hn (by omega) hj) n hn
  simp at this
theorem LRel.prod {R : Nat} {m h a : Mt} {p q : Nat → Nat} (hr : LRel R R m a) (H : Her R R h p) (Ha : Her R R a q) (e : ∀ y, InL R R h y ↔ InL R R m y) : prodN R (fun i => (h i i).toNat) = prodN R (fun i => (a i i).toNat) := by
  obtain ⟨V, W, t, s⟩ := hr.iso
  have sub : ∀ (M : Mt) (x y : Nat → Int) j, lc R M x j - lc R M y j = lc R M (fun k => x k - y k) j := fun M x y j => by
    have e1 : lc R M (fun k => x k - y k) j = lc R M (fun k => x k + (-1) * y k) j := lc_congr fun k _ => by rw [show x k - y k = x k + (-1) * y k by omega]
    rw [e1, lc_add R M x (fun k => (-1) * y k), lc_mul]; omega
  refine Nat.le_antisymm (index_le H Ha (fun x j => lc R V x j) fun x y hxy => ?_) (index_le Ha H (fun x j => lc R W x j) fun x y hxy => ?_)
  · rw [e, t]
    exact hxy.congr fun j _ => (sub V x y j).symm
  · rw [s, ← e]
    exact hxy.congr fun j _ => (sub W x y j).symm
/-- the orders and their product -/
theorem quo_D {R C R' C' : Nat} {l l' o : List Int} {fr : Int} (h : quoO ⟨R, C, l⟩ ⟨R', C', l'⟩ = some (o, fr)) :
    fr = (R : Int) - R' ∧ o.length ≤ 24 ∧ (∀ k, idxO ⟨R, C, l⟩ ⟨R', C', l'⟩ = some k → prI o o.length = k ∧ isNum k = true) ∧ (∀ i, i < o.length → 1 ≤ nth o i) ∧
    (R = R' → (∀ i j, i < R → j < C → mt C l' i j = 3 * mt C l i j) → o.length = R ∧ ∀ i, i < R → nth o i = 3) := by
  unfold quoO at h
  obtain ⟨m, hm, h2⟩ := Option.bind_eq_some_iff.1 h
  unfold quoA at h2
  obtain ⟨f, hf, h3⟩ := Option.map_eq_some_iff.1 h2
  obtain ⟨rfl, h4⟩ := Prod.mk.inj h3
  unfold facO at hf
  obtain ⟨d, hd, h5⟩ := Option.map_eq_some_iff.1 hf
  obtain ⟨hl, hl', rfl, c, rfl, hcm, hlen, hrow⟩ := crmO_D hm
  obtain ⟨n, a, rfl, E⟩ := smD_E hcm hd
  simp only [Int.toNat_natCast] at h5
  have H := (latB_her hl).2
  have H' := (latB_her hl').2
  have comb : ∀ z j, j < C' → lc R' (mt C' l') z j = lc R (mt C' l) (fun t => lc R' (mt R c) z t) j := fun z j hj => by
    rw [← lc_lc]
    exact lc_congr fun i hi => by rw [hrow i hi j hj]
  have hind : ∀ x : Nat → Int, (∀ j, j < R → lc R' (mt R c) x j = 0) → ∀ i, i < R' → x i = 0 := fun z hz0 => H'.ind fun j hj => by
    rw [comb z j hj]
    exact lc_zero fun t ht => .inl (hz0 t ht)
  have hn : n = R' := E.full hind
  subst hn
  have hnR := E.nC
  obtain ⟨f1, f2⟩ := dgs_E E (min n R) (by omega) (by omega)
  rw [show min n (min n R) = n by omega] at f1 f2
  rw [h5] at f1 f2
  have hR24 : R ≤ 24 := by
    obtain ⟨_, _, e1, e2, _, h24, _⟩ := isMat_nat hcm
    omega
  have fpos : ∀ i, i < f.length → 1 ≤ nth f i := fun i hi => by
    rw [f1] at hi
    rw [f2 i hi]
    have := E.d.dp i hi hi (by omega)
    omega
  obtain ⟨g1, g2⟩ := prI_gtF (f := f) (k := f.length) fpos
  refine ⟨by rw [← h4, f1], by have := gtF_length f f.length; omega, fun k hk => ?_, g2, fun hRR h3 => ?_⟩
  · obtain ⟨e1, _, _, _, hh, p, HH, hiff, hkp⟩ := idxO_D hk
    have hkn : isNum k = true := by
      unfold idxO at hk
      obtain ⟨_, _, k2⟩ := Option.bind_eq_some_iff.1 hk
      split at k2
      · obtain ⟨_, _, k3⟩ := Option.bind_eq_some_iff.1 k2
        exact prdD_num k3
      · cases k2
    refine ⟨?_, hkn⟩
    subst e1
    rw [g1, f1, hkp]
    have hp := LRel.prod E.d.rel HH E.her fun y => by
      rw [hiff y]
      constructor
      · rintro ⟨z, hz⟩
        refine ⟨z, fun t ht => ?_⟩
        exact H.ind' (x := y) (y := fun t => lc n (mt n c) z t) (fun j hj => by have e := hz j hj; rw [comb z j hj] at e; exact e) t ht
      · rintro ⟨z, hz⟩
        exact ⟨z, fun j hj => by
          rw [comb z j hj]
          exact lc_congr fun t ht => by rw [hz t ht]⟩
    rw [hp]
    have key : ∀ k, k ≤ n → prI f k = (prodN k (fun i => (mt n a i i).toNat) : Nat) := fun k => by
      induction k with
      | zero => intro _; rfl
      | succ k ih =>
        intro hk
        rw [prI, prodN, ih (by omega), f2 k (by omega), Int.natCast_mul]
        have := E.d.dp k (by omega) (by omega) (by omega)
        rw [show ((mt n a k k).toNat : Int) = nth a (k * n + k) from Int.toNat_of_nonneg (by unfold mt; omega)]
    exact key n (Nat.le_refl _)
  · subst hRR
    have hc : ∀ i j, i < R → j < R → mt R c i j = if j = i then 3 else 0 := fun i j hi hj => by
      refine H.ind' (x := mt R c i) (y := fun j => if j = i then 3 else 0) (fun b hb => ?_) j hj
      rw [← hrow i hi b hb, h3 i b hi hb]
      rw [show lc R (mt C' l) (fun j => if j = i then 3 else 0) b = lc R (mt C' l) (fun j => 3 * (if j = i then 1 else 0)) b from lc_congr fun k _ => by by_cases e : k = i <;> simp [e]]
      rw [lc_mul, lc_row _ hi]
    have hdv : ∀ i j, i < R → j < R → (3 : Int) ∣ mt R a i j := E.d.rel.dvd 3 fun i j hi hj => by
      rw [hc i j hi hj]
      split
      · exact ⟨1, rfl⟩
      · exact ⟨0, rfl⟩
    obtain ⟨V, W, _, s⟩ := E.d.rel.iso
    have hall : ∀ y : Nat → Int, InL R R (mt R c) fun j => 3 * y j := fun y => ⟨y, fun j hj => by
      have e : lc R (mt R c) y j = lc R (fun i j => if j = i then 3 else 0) y j := lc_congr fun i hi => by rw [hc i j hi hj]
      rw [e]
      unfold lc
      rw [sumN_only (k := j) hj fun i _ hne => by show y i * (if j = i then 3 else 0) = 0; rw [if_neg (fun q => hne q.symm), Int.mul_zero]]
      show 3 * y j = y j * (if j = j then 3 else 0)
      rw [if_pos rfl, Int.mul_comm]⟩
    have h3' : ∀ i, i < R → nth f i = 3 := fun i hi => by
      rw [f2 i hi]
      have hin : InL R R (mt R a) fun j => 3 * (if j = i then 1 else 0) := by
        rw [s]
        exact (hall (fun j => lc R W (fun j => if j = i then 1 else 0) j)).congr fun j _ => lc_mul R W 3 (fun j => if j = i then 1 else 0) j
      obtain ⟨x, hx⟩ := hin
      have hxi := hx i hi
      have hs : lc R (mt R a) x i = x i * mt R a i i := sumN_only hi fun k hk hne => by rw [show mt R a k i = 0 from E.d.zr k i hk hi (.inl hk) hne, Int.mul_zero]
      rw [hs] at hxi
      simp only [if_pos trivial, Int.mul_one] at hxi
      have hp := E.d.dp i hi hi hi
      obtain ⟨q, hq⟩ := hdv i i hi hi
      have hq' : nth a (i * R + i) = 3 * q := hq
      have hx2 : x i * nth a (i * R + i) = 3 := hxi.symm
      rw [hq'] at hx2 hp ⊢
      have hq1 : q ∣ 1 := ⟨x i, by
        have : 3 * (x i * q) = 3 * 1 := by rw [show 3 * (x i * q) = x i * (3 * q) by ac_rfl, hx2]; rfl
        have := Int.eq_of_mul_eq_mul_left (by decide) this
        rw [Int.mul_comm]; exact this.symm⟩
      have := Int.le_of_dvd (by decide) hq1
      omega
    have hg : ∀ k, k ≤ R → gtF f k = f.take k := fun k => by
      induction k with
      | zero => intro _; simp [gtF]
      | succ k ih =>
        intro hk
        rw [gtF_more (by rw [h3' k (by omega)]; decide), ih (by omega), List.take_add_one, List.getElem?_eq_getElem (by omega), nth_get _ _ (by omega)]; rfl
    have hgf : gtF f f.length = f := by rw [hg _ (by omega), List.take_length]
    rw [hgf]
    exact ⟨f1, h3'⟩
end Go.Proofs.Ytbfkpfdkndnhkaa

/- Plain: all that FnQuotients needs. -/
namespace Go.Proofs.Ytbfkpfdkndnhkaa
set_option linter.unusedSimpArgs false
set_option linter.unusedVariables false

theorem quoO_lat {r c r2 c2 : Int} {l l2 : List Int} {q : List Int × Int} (h : quoO ⟨r, c, l⟩ ⟨r2, c2, l2⟩ = some q) : latB r c l = true ∧ latB r2 c2 l2 = true ∧ c = c2 := by
  have key : ¬ (latB r c l = false ∨ latB r2 c2 l2 = false ∨ c ≠ c2) := fun e => by
    unfold quoO at h
    rw [crmO_no (a := ⟨r, c, l⟩) (b := ⟨r2, c2, l2⟩) e] at h
    cases h
  refine ⟨?_, ?_, ?_⟩
  · cases e : latB r c l
    · exact absurd (.inl e) key
    · rfl
  · cases e : latB r2 c2 l2
    · exact absurd (.inr (.inl e)) key
    · rfl
  · exact Classical.byContradiction fun e => key (.inr (.inr e))
theorem qn_law {r c r2 c2 : Int} {l l2 : List Int} {q : List Int × Int} (h : quoO ⟨r, c, l⟩ ⟨r2, c2, l2⟩ = some q) :
    ∃ R C R' : Nat, r = R ∧ c = C ∧ r2 = R' ∧ R ≤ 24 ∧ R' ≤ 24 ∧ q.2 = (R : Int) - R' ∧ q.1.length ≤ 24 ∧ (∀ i, i < q.1.length → 1 ≤ nth q.1 i) ∧
      ((idxO ⟨r, c, l⟩ ⟨r2, c2, l2⟩).isSome = true → prI q.1 q.1.length = oI (idxO ⟨r, c, l⟩ ⟨r2, c2, l2⟩) ∧ prI q.1 q.1.length ≤ 400000000) ∧
      ((quoO ⟨r, c, l⟩ (oM (slO ⟨r, c, l⟩ 3))).isSome = false → (qoL (quoO ⟨r, c, l⟩ (oM (slO ⟨r, c, l⟩ 3)))).length = 0) ∧
      ((quoO ⟨r, c, l⟩ (oM (slO ⟨r, c, l⟩ 3))).isSome = true → (qoL (quoO ⟨r, c, l⟩ (oM (slO ⟨r, c, l⟩ 3)))).length = R ∧ qoN (quoO ⟨r, c, l⟩ (oM (slO ⟨r, c, l⟩ 3))) = 0 ∧ ∀ i, i < R → nth (qoL (quoO ⟨r, c, l⟩ (oM (slO ⟨r, c, l⟩ 3)))) i = 3) := by
  obtain ⟨h1, h2, rfl⟩ := quoO_lat h
  obtain ⟨m1, _⟩ := latB_parts h1
  obtain ⟨m2, _⟩ := latB_parts h2
  obtain ⟨R, C, rfl, rfl, hR, hC, hlen, _⟩ := isMat_nat m1
  obtain ⟨R', C', rfl, e, hR', _⟩ := isMat_nat m2
  obtain ⟨o, fr⟩ := q
  obtain ⟨a1, a2, a3, a4, _⟩ := quo_D h
  refine ⟨R, C, R', rfl, rfl, rfl, hR, hR', a1, a2, a4, fun hs => ?_, fun hs => by (cases e : quoO ⟨R, C, l⟩ (oM (slO ⟨R, C, l⟩ 3)) with | none => rfl | some x => (rw [e] at hs; cases hs)), fun hs => ?_⟩
  · obtain ⟨k, hk⟩ := Option.isSome_iff_exists.1 hs
    obtain ⟨b1, b2⟩ := a3 k hk
    rw [hk]
    exact ⟨b1, by rw [b1]; exact ((isNum_iff k).1 b2).2⟩
  · have hsl : slO ⟨R, C, l⟩ 3 = scO ⟨R, C, l⟩ 3 := by unfold slO; rw [show latB R C l = true from h1]; rfl
    obtain ⟨_, hsc⟩ := scO_yes (k := 3) m1 (by decide)
    rw [hsl, hsc] at hs ⊢
    cases ha : allNum (scL 3 l) with
    | true =>
      rw [ha] at hs
      have e1 : oM (if true = true then some (⟨(R : Int), (C : Int), scL 3 l⟩ : MX) else none) = ⟨R, C, scL 3 l⟩ := rfl
      rw [e1] at hs ⊢
      obtain ⟨⟨o2, fr2⟩, hq⟩ := Option.isSome_iff_exists.1 hs
      rw [hq]
      obtain ⟨b1, _, _, _, b5⟩ := quo_D hq
      obtain ⟨b6, b7⟩ := b5 rfl fun i j hi hj => by
        have hlt : i * C + j < l.length := by
          rw [hlen]
          have := Nat.mul_le_mul_right C (show i + 1 ≤ R by omega)
          rw [Nat.succ_mul] at this; omega
        show nth (scL 3 l) (i * C + j) = 3 * nth l (i * C + j)
        rw [scL_nth _ _ _ hlt, Int.mul_comm]
      exact ⟨b6, by show fr2 = 0; omega, b7⟩
    | false =>
      rw [ha] at hs
      have e1 : oM (if false = true then some (⟨(R : Int), (C : Int), scL 3 l⟩ : MX) else none) = ⟨0, 0, []⟩ := rfl
      rw [e1] at hs
      obtain ⟨q2, hq⟩ := Option.isSome_iff_exists.1 hs
      obtain ⟨_, _, hc0⟩ := quoO_lat hq
      have hC0 : C = 0 := by omega
      rw [hC0, Nat.mul_zero] at hlen
      rw [List.eq_nil_of_length_eq_zero hlen] at ha
      exact absurd ha (by decide)
end Go.Proofs.Ytbfkpfdkndnhkaa

/- Contract: the laws' product of positive numbers. -/
namespace Go.Proofs.Ytbfkpfdkndnhkaa
set_option linter.unusedSimpArgs false
set_option linter.unusedVariables false
open Go.RowKit

section
set_option maxHeartbeats 4000000
set_option maxRecDepth 10000
theorem abs1_c (x : Int) (w : World) (h : 1 ≤ x) (h2 : x ≤ 400000000) :
    Calls Try.prog 76 #[.int .i64 x] w fun e w' => e = .returned (.int .i64 x) ∧ Grows w w' := by
  have h3 : ¬ x < -x := by omega
  go_enter Try.func76, Try.ntmps76
  go_wp2_with fail
  go_ret
  first | exact ⟨rfl, by exact bel0⟩ | exact bel0
theorem prod_c (A : Option Addr) (o : List Int) (n cap : Nat) (w : World) (hn : o.length = n) (ha : Rd w A o) (h1 : ∀ i, i < o.length → 1 ≤ nth o i) (hk : prI o o.length ≤ 400000000) (hl : n ≤ 24) :
    Calls Try.prog 35 #[.slice A n cap] w fun e w' => e = .returned (.int .i64 (prI o o.length)) ∧ Grows w w' := by
  have HP := Lib.hid fun k (hk : k ≤ o.length) => prI_pos h1 k hk
  have HL := Lib.hid fun k (h : k ≤ o.length) => Int.le_trans (prI_le h1 h) hk
  have HO := Lib.hid h1
  have HN := Lib.hid hn
  have CA := Lib.hid fun x W h h2 => abs1_c x W h h2
  obtain ⟨P, hP⟩ : ∃ P, P = prI o o.length := ⟨_, rfl⟩
  rw [← hP] at hk ⊢
  have HPP := Lib.hid hP
  clear hn h1 hP
  go_enter Try.func35, Try.ntmps35
  go_wp2_with fail
  go_loopw [3, 4] (fun x i wr => ∃ I : Nat, i = .int .i64 I ∧ x = .int .i64 (prI o I) ∧ I ≤ n ∧ Grows w wr) (fun _ i _ => n - (intOf i).toNat)
  case atStart => exact ⟨0, rfl, rfl, Nat.zero_le _, by exact bel0⟩
  case round =>
    obtain ⟨I, rfl, rfl, hI, hg⟩ := hrel
    have rdI := ha.grows hg
    by_cases hlt : I < n
    · have hlt' : (I : Int) < (n : Int) := by omega
      have hio : I < o.length := by rw [HN.out]; exact hlt
      obtain ⟨bs, fs, rfl, hbs, s0⟩ := rdI.at_ I hio
      have p1 := HP.out I (by omega)
      have p2 := HL.out I (by omega)
      have p3 := HP.out (I + 1) (by omega)
      have p4 := HL.out (I + 1) (by omega)
      have HE := Lib.hid (show prI o I * nth o I = prI o (I + 1) from rfl)
      obtain ⟨z, hz0⟩ : ∃ z, z = prI o (I + 1) := ⟨_, rfl⟩
      rw [← hz0] at HE p3 p4
      have HZ := Lib.hid hz0
      clear hz0
      generalize prI o I = x at *
      generalize nth o I = y at *
      have p5 : x < 1073741824 := by omega
      have hz := HE.out
      have kz : IntKind.i64.wrap z = z := IntWalk.i64_in _ (by omega)
      clear HP HL HO hio
      go_wp2_with fail
      refine (CA.out x _ p1 p2).mono ?_; rintro e w5 ⟨rfl, g5⟩
      have s0' := (g5.cell (p := ⟨bs, fs + I, none⟩) hbs).trans s0
      have hbs' := Nat.lt_of_lt_of_le hbs (Below.size g5)
      go_wp2_with fail
      go_round
      case rel => exact ⟨I + 1, by go_num, by rw [HZ.out], by omega, by exact bel2 g5 hg⟩
      case measure => first | (simp [intOf]; done) | (simp [intOf]; omega)
    · obtain rfl : I = n := by omega
      have hlt' : ¬ (I : Int) < (I : Int) := by omega
      have e : prI o I = P := by rw [HPP.out, HN.out]
      rw [e]
      clear e
      go_wp2_with fail
      go_ret
      exact ⟨rfl, by exact bel1 hg⟩
end
end Go.Proofs.Ytbfkpfdkndnhkaa
