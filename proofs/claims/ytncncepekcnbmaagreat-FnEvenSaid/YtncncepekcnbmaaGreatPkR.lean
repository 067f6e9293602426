/- Contracts and lemmas, put together. -/
import Derived.Test.YtncncepekcnbmaaGreatPkAe
import Derived.Test.YtncncepekcnbmaaGreatPkDe
/- Slices of slices: rows of values of one cell. -/
namespace Go.Proofs.YtncncepekcnbmaaGreat
set_option linter.unusedSimpArgs false
set_option linter.unusedVariables false
open Go.RowKit

/-- the slice at A reads as the values vs, a cell each -/
def RdV (w : World) (A : Option Addr) (vs : List Value) : Prop := ∀ i u, vs[i]? = some u → ∃ b off, A = some ⟨b, off, none⟩ ∧ b < w.heap.size ∧ w.cell? ⟨b, off + i, none⟩ = some u
/-- the slice value owns its row of values, from block B on -/
def OwnV (t : TypeId) (w : World) (B : Nat) (v : Value) (vs : List Value) : Prop := w.ownsRow B t 1 v vs.length vs
section
variable {t : TypeId} {w w' : World} {B B' : Nat} {v : Value} {vs : List Value} {A : Option Addr}
theorem RdV.nil (w : World) (A : Option Addr) : RdV w A [] := fun i u h => by simp at h
theorem RdV.grows (h : RdV w A vs) (k : Grows w w') : RdV w' A vs := fun i u hi => by
  obtain ⟨b, off, e, hb, hc⟩ := h i u hi
  exact ⟨b, off, e, Nat.lt_of_lt_of_le hb k.size, (k.cell (p := ⟨b, off + i, none⟩) hb).trans hc⟩
theorem OwnV.grows (h : OwnV t w B v vs) (k : Grows w w') : OwnV t w' B v vs := ownsRow_grows h k
theorem OwnV.alloc (h : OwnV t w B v vs) (o : Obj) : OwnV t (w.alloc o) B v vs := h.grows ((Below.refl _ _).alloc (Nat.le_refl _) o)
theorem OwnV.less (h : OwnV t w B v vs) (hB : B' ≤ B) : OwnV t w B' v vs := ownsRow_less h hB
theorem OwnV.val (h : OwnV t w B v vs) : ∃ A cap, v = .slice A vs.length cap ∧ RdV w A vs ∧ vs.length ≤ cap := by
  rcases h.2 with ⟨rfl, h0⟩ | ⟨g, cap, cur, rfl, hb, hg, hn, hm, hcs, htake⟩
  · have : vs = [] := List.eq_nil_of_length_eq_zero h0
    subst this
    exact ⟨none, 0, rfl, RdV.nil _ _, Nat.le_refl _⟩
  · refine ⟨some ⟨g, 0, none⟩, cap, rfl, fun i u hi => ⟨g, 0, rfl, (Array.getElem?_eq_some_iff.1 hg).1, ?_⟩, hn⟩
    have hlt : i < vs.length := (List.getElem?_eq_some_iff.1 hi).1
    have := World.ownsRow.cellAt (w := w) (base := B) (e := t) (size := 1) (g := g) (n := vs.length) (cap := cap) (xs := vs) h i (by omega)
    rw [Nat.zero_add, this, hi]
theorem OwnV.rd {n c : Nat} (h : OwnV t w B (.slice A n c) vs) : RdV w A vs := by
  obtain ⟨A', c', e, hr, _⟩ := h.val
  injection e with e1 _ _
  rw [e1]; exact hr
theorem OwnV.lt {g : Nat} (h : OwnV t w B v vs) (hg : v.ownBlock = some g) : B ≤ g ∧ g < w.heap.size := World.ownsRow.lt h g hg
theorem OwnV.new_ (t : TypeId) (w : World) {B b : Nat} (hb : w.heap.size = b) (hB : B ≤ b) : OwnV t (w.alloc (.cells #[] t)) B (.slice (some ⟨b, 0, none⟩) 0 0) [] := by
  subst hb
  exact World.ownsRow_lit (w := w) (base := B) (e := t) (size := 1) #[] 0 hB (by simp [maxLen]) (by simp)
theorem OwnV.nil (t : TypeId) (w : World) (B : Nat) : OwnV t w B (.slice none 0 0) [] := World.ownsRow_nil w B _ 1
theorem OwnV.far (h : OwnV t w B v vs) {p : Addr} (hp : ∀ g, v.ownBlock = some g → g ≠ p.block) (u : Value) : OwnV t (w.setCell p u) B v vs := ownsRow_far h hp u
theorem OwnV.low (h : OwnV t w B v vs) {p : Addr} (hp : p.block < B) (u : Value) : OwnV t (w.setCell p u) B v vs := h.far (fun g hg => by have := (h.lt hg).1; omega) u
theorem OwnV.drew (h : OwnV t w B v vs) : OwnV t w.drew B v vs := h
end

/-! ### rows of what is read through a value: R w u x: the value u stands for x; ad u: the block that u reads, if any -/
structure GoodR {α : Type} (ad : Value → Option Nat) (R : World → Value → α → Prop) : Prop where
  keep : ∀ w w' k u x, w.grownBy w' k → (∀ g, ad u = some g → k ≠ some g) → R w u x → R w' u x
  low : ∀ w u x g, R w u x → ad u = some g → g < w.heap.size
theorem grows_grown {w w' : World} (g : Grows w w') : w.grownBy w' none := ⟨g.os, g.tape, g.output, g.size, fun i hi _ => g.block i hi⟩
section
variable {α : Type} {ad : Value → Option Nat} {R : World → Value → α → Prop} {t : TypeId} {w w' : World} {B B' : Nat} {v : Value} {A : Option Addr} {L : List α} {S S' : List Value}
theorem GoodR.grows (hG : GoodR ad R) {u : Value} {x : α} (h : R w u x) (g : Grows w w') : R w' u x := hG.keep _ _ _ _ _ (grows_grown g) (fun _ _ h => by cases h) h
def RdR (R : World → Value → α → Prop) (w : World) (A : Option Addr) (L : List α) : Prop := ∃ vs : List Value, vs.length = L.length ∧ RdV w A vs ∧ ∀ (i : Nat) (u : Value) (x : α), vs[i]? = some u → L[i]? = some x → R w u x
/-- .. owned; what it holds reads no block of its own, and none of those that the values S own -/
def OwnR (t : TypeId) (ad : Value → Option Nat) (R : World → Value → α → Prop) (w : World) (B : Nat) (v : Value) (L : List α) (S : List Value) : Prop :=
  ∃ vs : List Value, vs.length = L.length ∧ OwnV t w B v vs ∧ (∀ (i : Nat) (u : Value) (x : α), vs[i]? = some u → L[i]? = some x → R w u x) ∧ ∀ (i : Nat) (u : Value), vs[i]? = some u → ∀ g, ad u = some g → v.ownBlock ≠ some g ∧ ∀ s ∈ S, s.ownBlock ≠ some g
theorem RdR.at_ (h : RdR R w A L) (i : Nat) (hi : i < L.length) : ∃ b off u, A = some ⟨b, off, none⟩ ∧ b < w.heap.size ∧ w.cell? ⟨b, off + i, none⟩ = some u ∧ R w u L[i] := by
  obtain ⟨vs, hl, hr, hR⟩ := h
  have hv : vs[i]? = some vs[i] := List.getElem?_eq_getElem (by omega)
  obtain ⟨b, off, e, hb, hc⟩ := hr i _ hv
  exact ⟨b, off, _, e, hb, hc, hR i _ _ hv (List.getElem?_eq_getElem hi)⟩
theorem RdR.grows (hG : GoodR ad R) (h : RdR R w A L) (k : Grows w w') : RdR R w' A L := by
  obtain ⟨vs, hl, hr, hR⟩ := h
  exact ⟨vs, hl, hr.grows k, fun i u x h1 h2 => hG.grows (hR i u x h1 h2) k⟩
theorem OwnR.grows (hG : GoodR ad R) (h : OwnR t ad R w B v L S) (k : Grows w w') : OwnR t ad R w' B v L S := by
  obtain ⟨vs, hl, hr, hR, hs⟩ := h
  exact ⟨vs, hl, hr.grows k, fun i u x h1 h2 => hG.grows (hR i u x h1 h2) k, hs⟩
theorem OwnR.val (h : OwnR t ad R w B v L S) : ∃ A cap, v = .slice A L.length cap ∧ RdR R w A L ∧ L.length ≤ cap := by
  obtain ⟨vs, hl, hr, hR, hs⟩ := h
  obtain ⟨A, cap, e, h1, h2⟩ := hr.val
  rw [hl] at e h2
  exact ⟨A, cap, e, ⟨vs, hl, h1, hR⟩, h2⟩
theorem OwnR.rd {n c : Nat} (h : OwnR t ad R w B (.slice A n c) L S) : RdR R w A L := by
  obtain ⟨A', c', e, hr, _⟩ := h.val
  injection e with e1 _ _
  rw [e1]; exact hr
theorem OwnR.less (h : OwnR t ad R w B v L S) (hB : B' ≤ B) : OwnR t ad R w B' v L S := by
  obtain ⟨vs, hl, hr, hR, hs⟩ := h
  exact ⟨vs, hl, hr.less hB, hR, hs⟩
theorem OwnR.lt {g : Nat} (h : OwnR t ad R w B v L S) (hg : v.ownBlock = some g) : B ≤ g ∧ g < w.heap.size := by
  obtain ⟨vs, hl, hr, hR⟩ := h
  exact hr.lt hg
theorem OwnR.new_ (t : TypeId) (ad : Value → Option Nat) (R : World → Value → α → Prop) (w : World) (S : List Value) {B b : Nat} (hb : w.heap.size = b) (hB : B ≤ b) : OwnR t ad R (w.alloc (.cells #[] t)) B (.slice (some ⟨b, 0, none⟩) 0 0) ([] : List α) S :=
  ⟨[], rfl, OwnV.new_ t w hb hB, fun i u x h => by simp at h, fun i u h => by simp at h⟩
theorem OwnR.nil (t : TypeId) (ad : Value → Option Nat) (R : World → Value → α → Prop) (w : World) (B : Nat) (S : List Value) : OwnR t ad R w B (.slice none 0 0) ([] : List α) S :=
  ⟨[], rfl, OwnV.nil t w B, fun i u x h => by simp at h, fun i u h => by simp at h⟩
/-- other values to keep apart from: known ones, or of new blocks -/
theorem OwnR.avoid (hG : GoodR ad R) (h : OwnR t ad R w B v L S) (hS : ∀ s' ∈ S', ∀ g, s'.ownBlock = some g → (∃ s ∈ S, s.ownBlock = some g) ∨ v.ownBlock = some g ∨ w.heap.size ≤ g) : OwnR t ad R w B v L S' := by
  obtain ⟨vs, hl, hr, hR, hs⟩ := h
  refine ⟨vs, hl, hr, hR, fun i u hi g hg => ⟨(hs i u hi g hg).1, fun s' hs' e => ?_⟩⟩
  rcases hS s' hs' g e with ⟨s, h1, h2⟩ | h1 | h1
  · exact (hs i u hi g hg).2 s h1 h2
  · exact (hs i u hi g hg).1 h1
  · have hlt : i < L.length := by rw [← hl]; exact (List.getElem?_eq_some_iff.1 hi).1
    have := hG.low _ _ _ _ (hR i u _ hi (List.getElem?_eq_getElem hlt)) hg
    omega
/-- a change to a row that is kept apart from -/
theorem OwnR.other (hG : GoodR ad R) (h : OwnR t ad R w B v L S) {s : Value} (hs : s ∈ S) (hne : ∀ g, s.ownBlock = some g → v.ownBlock ≠ some g) (hg : w.grownBy w' s.ownBlock) : OwnR t ad R w' B v L S := by
  obtain ⟨vs, hl, hr, hR, hsp⟩ := h
  exact ⟨vs, hl, ownsRow_other hr hg hne, fun i u x h1 h2 => hG.keep _ _ _ _ _ hg (fun g hg2 e => (hsp i u h1 g hg2).2 s hs e) (hR i u x h1 h2), hsp⟩
end

/-- the block that a slice which is not empty reads -/
def adR : Value → Option Nat
  | .slice (some a) n _ => if n = 0 then none else some a.block
  | _ => none
theorem adR_pos {a : Addr} {n c : Nat} (h : 0 < n) : adR (.slice (some a) n c) = some a.block := by
  show (if n = 0 then none else some a.block) = _
  rw [if_neg (by omega)]
theorem adR_some {a : Addr} {n c g : Nat} (h : adR (.slice (some a) n c) = some g) : 0 < n ∧ g = a.block := by
  change (if n = 0 then none else some a.block) = _ at h
  split at h
  · cases h
  · cases h; exact ⟨by omega, rfl⟩
theorem cell_keep {w w' : World} {b o : Nat} (hk : w'.heap[b]? = w.heap[b]?) : w'.cell? ⟨b, o, none⟩ = w.cell? ⟨b, o, none⟩ := World.cell?_of_block hk
theorem Rd.other {w w' : World} {k : Option Nat} {A : Option Addr} {x : List Int} {c : Nat} (h : Rd w A x) (hg : w.grownBy w' k) (hne : ∀ g, adR (.slice A x.length c) = some g → k ≠ some g) : Rd w' A x := fun i hi => by
  obtain ⟨b, off, e, hb, hc⟩ := h i hi
  subst e
  have hk : k ≠ some b := hne b (adR_pos (by omega))
  exact ⟨b, off, rfl, Nat.lt_of_lt_of_le hb hg.size, (cell_keep (hg.block b hb (fun e => hk e.symm))).trans hc⟩
theorem RdQ.other {w w' : World} {k : Option Nat} {A : Option Addr} {x : List Q2} {c : Nat} (h : RdQ w A x) (hg : w.grownBy w' k) (hne : ∀ g, adR (.slice A x.length c) = some g → k ≠ some g) : RdQ w' A x := fun i hi => by
  obtain ⟨b, off, e, hb, hc1, hc2⟩ := h i hi
  subst e
  have hk : k ≠ some b := hne b (adR_pos (by omega))
  have hbk := hg.block b hb (fun e => hk e.symm)
  exact ⟨b, off, rfl, Nat.lt_of_lt_of_le hb hg.size, (cell_keep hbk).trans hc1, (cell_keep hbk).trans hc2⟩
/-- a slice of integers that is read -/
def RSI (w : World) (u : Value) (x : List Int) : Prop := ∃ A c, u = .slice A x.length c ∧ Rd w A x ∧ x.length ≤ c
theorem RSI.good : GoodR adR RSI := by
  refine ⟨fun w w' k u x hg hne ⟨A, c, e, h, hc⟩ => ⟨A, c, e, h.other (c := c) hg (fun g hg2 => hne g (by rw [e]; exact hg2)), hc⟩, fun w u x g ⟨A, c, e, h, hc⟩ hg => ?_⟩
  subst e
  cases A with
  | none => simp [adR] at hg
  | some a =>
    obtain ⟨h0, rfl⟩ := adR_some hg
    obtain ⟨b, off, e, hb, _⟩ := h 0 h0
    cases e
    exact hb
/-- a slice of fractions that is read -/
def RSQ (w : World) (u : Value) (x : List Q2) : Prop := ∃ A c, u = .slice A x.length c ∧ RdQ w A x ∧ x.length ≤ c
theorem RSQ.good : GoodR adR RSQ := by
  refine ⟨fun w w' k u x hg hne ⟨A, c, e, h, hc⟩ => ⟨A, c, e, h.other (c := c) hg (fun g hg2 => hne g (by rw [e]; exact hg2)), hc⟩, fun w u x g ⟨A, c, e, h, hc⟩ hg => ?_⟩
  subst e
  cases A with
  | none => simp [adR] at hg
  | some a =>
    obtain ⟨h0, rfl⟩ := adR_some hg
    obtain ⟨b, off, e, hb, _⟩ := h 0 h0
    cases e
    exact hb
/-- a row of integers that is owned, from block B on -/
def RO (B : Nat) (w : World) (u : Value) (x : List Int) : Prop := Own w B u x
theorem RO.good (B : Nat) : GoodR Value.ownBlock (RO B) :=
  ⟨fun w w' k u x hg hne h => World.ownsRow.kept h hg (by
    rcases e : u.ownBlock with _ | g
    · exact .inl rfl
    · exact .inr (fun e2 => hne g e e2.symm)), fun w u x g h hg => (World.ownsRow.lt h g hg).2⟩

theorem run_appV1 (t ts : TypeId) (hu : Tryz.prog.underlying ts = some (.slice t)) (hi : (Tryz.prog.info? t).map (fun i => (i.zero, i.size, i.bytes)) = some (some (.slice none 0 0), 1, 24)) (w : World) (ty : TypeId) (B : Nat) (v : Value) (vs : List Value) (hown : OwnV t w B v vs) (u : Value) (hu1 : u.oneCell' = true)
    (hl : vs.length + 1 ≤ 1099511627776) (hB : B ≤ w.heap.size) :
    ∃ v' w', (Builtin.append_ #[ts, ts] ty #[v, .slice (some ⟨w.heap.size, 0, none⟩) 1 1]).run Tryz.prog (w.alloc (.cells #[u] t)) = .ok v' w' ∧ OwnV t w' B v' (vs ++ [u]) ∧ w.grownBy w' v.ownBlock ∧ (v'.ownBlock = v.ownBlock ∨ ∃ g, v'.ownBlock = some g ∧ w.heap.size ≤ g) := by
  obtain ⟨i0, hi0, hz0, hz1, hz2⟩ := info_parts hi
  obtain ⟨v', w', hrun, h2, h3, _, h5⟩ := run_append_own_at (P := Tryz.prog) (w.alloc (.cells #[u] t)) B ts ty t i0 (.slice none 0 0) 1 24 hu hi0 hz0 hz1 hz2 rfl (by omega) v vs.length vs (hown.alloc _)
    ⟨w.heap.size, 0, none⟩ 1 1 [u] (by simp) (by
      intro j x hx
      match j with
      | 0 => simp at hx; subst hx; simp [Addr.add, go_sem]
      | j + 1 => simp at hx) (by intro x hx; simp at hx; rw [hx]; exact hu1) (by simp [maxLen]; omega) (by omega) (by simp; omega)
  refine ⟨v', w', hrun, ?_, ?_, ?_⟩
  · unfold OwnV
    rw [List.length_append]
    exact h2
  · exact ⟨h3.os, h3.tape, h3.output, Nat.le_trans (by simp) h3.size, fun k hk hne => (h3.block k (by simp; omega) hne).trans (Below.heap_alloc w _ k hk)⟩
  · rcases h5 with h5 | h5
    · exact .inl h5
    · exact .inr ⟨_, h5, by simp⟩
section
variable {α : Type} {ad : Value → Option Nat} {R : World → Value → α → Prop}
theorem ownR_app {t : TypeId} {w w' : World} {B : Nat} {v v' u : Value} {z : α} {vs : List Value} {L : List α} {S : List Value} (hG : GoodR ad R) (hvl : vs.length = L.length) (hvR : ∀ (i : Nat) (u : Value) (x : α), vs[i]? = some u → L[i]? = some x → R w u x) (hsp : ∀ (i : Nat) (u : Value), vs[i]? = some u → ∀ g, ad u = some g → v.ownBlock ≠ some g ∧ ∀ s ∈ S, s.ownBlock ≠ some g)
    (hz : R w u z) (hu : ∀ g, ad u = some g → v.ownBlock ≠ some g ∧ ∀ s ∈ S, s.ownBlock ≠ some g) (h2 : OwnV t w' B v' (vs ++ [u])) (h3 : w.grownBy w' v.ownBlock) (h4 : v'.ownBlock = v.ownBlock ∨ ∃ g, v'.ownBlock = some g ∧ w.heap.size ≤ g) : OwnR t ad R w' B v' (L ++ [z]) S := by
  have key : ∀ (i : Nat) (u' : Value) (x' : α), (vs ++ [u])[i]? = some u' → (L ++ [z])[i]? = some x' → R w u' x' ∧ ∀ g, ad u' = some g → v.ownBlock ≠ some g ∧ ∀ s ∈ S, s.ownBlock ≠ some g := by
    intro i u' x' h5 h6
    by_cases e : i < vs.length
    · rw [List.getElem?_append_left e] at h5
      rw [List.getElem?_append_left (by omega)] at h6
      exact ⟨hvR i u' x' h5 h6, hsp i u' h5⟩
    · rw [List.getElem?_append_right (by omega)] at h5 h6
      rw [← hvl] at h6
      cases hj : i - vs.length with
      | zero =>
        rw [hj] at h5 h6
        simp at h5 h6
        subst h5 h6
        exact ⟨hz, hu⟩
      | succ j => rw [hj] at h5; simp at h5
  refine ⟨vs ++ [u], by simp [hvl], h2, fun i u' x' h5 h6 => hG.keep _ _ _ _ _ h3 (fun g hg => ((key i u' x' h5 h6).2 g hg).1) (key i u' x' h5 h6).1, fun i u' h5 g hg => ?_⟩
  have hlt : i < (L ++ [z]).length := by have := (List.getElem?_eq_some_iff.1 h5).1; simp [hvl] at this ⊢; omega
  have hk := key i u' _ h5 (List.getElem?_eq_getElem hlt)
  refine ⟨fun e => ?_, (hk.2 g hg).2⟩
  rcases h4 with h4 | ⟨g', h4, h5'⟩
  · exact (hk.2 g hg).1 (by rw [← h4]; exact e)
  · rw [h4] at e
    cases e
    have := hG.low _ _ _ _ hk.1 hg
    omega
/-- out = append(out, x), x a slice that stands for z -/
theorem wpList_appR1 {ops : Array Oper} {rest : List Oper} {o : Oper} {a : Act} {Q : Exit → Act → World → Prop} (t ts : TypeId) (hu : Tryz.prog.underlying ts = some (.slice t)) (hi : (Tryz.prog.info? t).map (fun i => (i.zero, i.size, i.bytes)) = some (some (.slice none 0 0), 1, 24)) (hgd : o.guard = none) (s x : Operand)
    (ho : o.op = .call { callee := .builtin .append, args := #[s, x], argTypes := #[ts, ts] }) (w : World) (u : Value) (z : α) (hG : GoodR ad R) (hu1 : u.oneCell' = true) (hz : R w u z)
    (B : Nat) (v : Value) (L : List α) (S : List Value) (hs : a.eval s = v) (hown : OwnR t ad R w B v L S) (hsep : ∀ g, ad u = some g → v.ownBlock ≠ some g ∧ ∀ s ∈ S, s.ownBlock ≠ some g) (hx : a.eval x = .slice (some ⟨w.heap.size, 0, none⟩) 1 1)
    (hl : L.length + 1 ≤ 1099511627776) (hB : B ≤ w.heap.size)
    (h : ∀ v' w', OwnR t ad R w' B v' (L ++ [z]) S → w.grownBy w' v.ownBlock → (v'.ownBlock = v.ownBlock ∨ ∃ g, v'.ownBlock = some g ∧ w.heap.size ≤ g) → wpList Tryz.prog ops Q rest (a.put o.dst v') w') :
    wpList Tryz.prog ops Q (o :: rest) a (w.alloc (.cells #[u] t)) := by
  obtain ⟨vs, hvl, hvo, hvR, hsp⟩ := hown
  obtain ⟨v', w', hrun, h2, h3, h4⟩ := run_appV1 t ts hu hi w o.type B v vs hvo u hu1 (by omega) hB
  refine wpList_plain hgd fun _ hK => ?_
  unfold Oper.wp execOp
  simp only [ho, resolve, invoke, builtin, Sem.run_bind, Sem.run_pure, Result.andThen_ok, List.map_toArray, List.map_cons, List.map_nil, hs, hx, hrun]
  exact hK _ _ (h v' w' (ownR_app hG hvl hvR hsp hz hsep h2 h3 h4) h3 h4)
/-- .. at a step of a region that draws -/
theorem step_appR1 {ops : Array Oper} {o : Oper} {a : Act} {K : Act → World → Prop} {Q : Exit → Act → World → Prop} {E : Prop} (t ts : TypeId) (hu : Tryz.prog.underlying ts = some (.slice t)) (hi : (Tryz.prog.info? t).map (fun i => (i.zero, i.size, i.bytes)) = some (some (.slice none 0 0), 1, 24)) (hgd : o.guard = none) (s x : Operand)
    (ho : o.op = .call { callee := .builtin .append, args := #[s, x], argTypes := #[ts, ts] }) (w : World) (u : Value) (z : α) (hG : GoodR ad R) (hu1 : u.oneCell' = true) (hz : R w u z)
    (B : Nat) (v : Value) (L : List α) (S : List Value) (hs : a.eval s = v) (hown : OwnR t ad R w B v L S) (hsep : ∀ g, ad u = some g → v.ownBlock ≠ some g ∧ ∀ s ∈ S, s.ownBlock ≠ some g) (hx : a.eval x = .slice (some ⟨w.heap.size, 0, none⟩) 1 1)
    (hl : L.length + 1 ≤ 1099511627776) (hB : B ≤ w.heap.size)
    (h : ∀ v' w', OwnR t ad R w' B v' (L ++ [z]) S → w.grownBy w' v.ownBlock → (v'.ownBlock = v.ownBlock ∨ ∃ g, v'.ownBlock = some g ∧ w.heap.size ≤ g) → K (a.put o.dst v') w') :
    if Region.wanted o (yielded ops a.tmps) = true then Oper.wp Tryz.prog o a (w.alloc (.cells #[u] t)) K Q else E := by
  have hw : Region.wanted o (yielded ops a.tmps) = true := by simp [Region.wanted, hgd]
  rw [if_pos hw]
  obtain ⟨vs, hvl, hvo, hvR, hsp⟩ := hown
  obtain ⟨v', w', hrun, h2, h3, h4⟩ := run_appV1 t ts hu hi w o.type B v vs hvo u hu1 (by omega) hB
  unfold Oper.wp execOp
  simp only [ho, resolve, invoke, builtin, Sem.run_bind, Sem.run_pure, Result.andThen_ok, List.map_toArray, List.map_cons, List.map_nil, hs, hx, hrun]
  exact h v' w' (ownR_app hG hvl hvR hsp hz hsep h2 h3 h4) h3 h4
end
theorem below_R {α : Type} {t : TypeId} {ad : Value → Option Nat} {R : World → Value → α → Prop} {w w' : World} {B : Nat} {v : Value} {L : List α} {S : List Value} (h : OwnR t ad R w B v L S) (hB : B ≤ w.heap.size) (hg : w.grownBy w' v.ownBlock) : Below B w w' := by
  obtain ⟨vs, hl, hr, hR⟩ := h
  exact below_appR hr hB hg
end Go.Proofs.YtncncepekcnbmaaGreat

/- append(s, rows...) of slices of slices. -/
namespace Go.Proofs.YtncncepekcnbmaaGreat
set_option linter.unusedSimpArgs false
set_option linter.unusedVariables false
open Go.RowKit

theorem run_appVn (t ts : TypeId) (hu : Tryz.prog.underlying ts = some (.slice t)) (hi : (Tryz.prog.info? t).map (fun i => (i.zero, i.size, i.bytes)) = some (some (.slice none 0 0), 1, 24)) (w : World) (ty : TypeId) (B : Nat) (v : Value) (vs : List Value) (hown : OwnV t w B v vs)
    (A : Option Addr) (us : List Value) (c : Nat) (hr : RdV w A us) (hu1 : ∀ u ∈ us, u.oneCell' = true) (hl : vs.length + us.length ≤ 1099511627776) (hB : B ≤ w.heap.size) :
    ∃ v' w', (Builtin.append_ #[ts, ts] ty #[v, .slice A us.length c]).run Tryz.prog w = .ok v' w' ∧ OwnV t w' B v' (vs ++ us) ∧ w.grownBy w' v.ownBlock ∧ (v'.ownBlock = v.ownBlock ∨ ∃ g, v'.ownBlock = some g ∧ w.heap.size ≤ g) := by
  obtain ⟨i0, hi0, hz0, hz1, hz2⟩ := info_parts hi
  by_cases hm : us = []
  · subst hm
    rcases A with _ | ad
    · refine ⟨v, w, ?_, by simpa using hown, World.grownBy.refl w _, .inl rfl⟩
      rcases hown.2 with ⟨rfl, h0⟩ | ⟨g, cap, cur, rfl, _, _, hnc, _⟩
      · simp [Builtin.append_, run_underlying hu, sizeOf, typeInfo, hi0, Builtin.lenOf, Builtin.firstCells]
      · simp [Builtin.append_, run_underlying hu, sizeOf, typeInfo, hi0, Builtin.lenOf, Builtin.firstCells, hnc, storeCells]
    · obtain ⟨v', w', hrun, h2, h3, _, h5⟩ := run_append_own_at (P := Tryz.prog) w B ts ty t i0 (.slice none 0 0) 1 24 hu hi0 hz0 hz1 hz2 rfl (by omega) v vs.length vs hown
        ad 0 c [] (by simp) (by simp) (by simp) (by simp [maxLen] at *; omega) (by simp at hl; omega) hB
      exact ⟨v', w', hrun, by unfold OwnV; simpa using h2, h3, by rcases h5 with h5 | h5; exact .inl h5; exact .inr ⟨_, h5, Nat.le_refl _⟩⟩
  · have hpos : 0 < us.length := List.length_pos_iff.2 hm
    obtain ⟨b, off, rfl, _, _⟩ := hr 0 us[0] (List.getElem?_eq_getElem hpos)
    have hcell : ∀ j u, us[j]? = some u → w.cell? ((⟨b, off, none⟩ : Addr).add j) = some u := by
      intro j u hj
      obtain ⟨b', off', e, _, hc⟩ := hr j u hj
      simp only [Option.some.injEq, Addr.mk.injEq, and_true] at e
      obtain ⟨rfl, rfl⟩ := e
      rw [← hc]
      unfold Addr.add
      by_cases e : j = 0 <;> simp [e]
    obtain ⟨v', w', hrun, h2, h3, _, h5⟩ := run_append_own_at (P := Tryz.prog) w B ts ty t i0 (.slice none 0 0) 1 24 hu hi0 hz0 hz1 hz2 rfl (by omega) v vs.length vs hown
      ⟨b, off, none⟩ us.length c us (by simp) hcell hu1 (by simp [maxLen]; omega) (by omega) hB
    exact ⟨v', w', hrun, by unfold OwnV; rw [List.length_append]; exact h2, h3, by rcases h5 with h5 | h5; exact .inl h5; exact .inr ⟨_, h5, Nat.le_refl _⟩⟩
section
variable {α : Type} {ad : Value → Option Nat} {R : World → Value → α → Prop}
theorem ownR_appn {t : TypeId} {w w' : World} {B : Nat} {v v' : Value} {vs us : List Value} {L M : List α} {S : List Value} (hG : GoodR ad R) (hvl : vs.length = L.length) (hul : us.length = M.length) (hvR : ∀ (i : Nat) (u : Value) (x : α), vs[i]? = some u → L[i]? = some x → R w u x) (hsp : ∀ (i : Nat) (u : Value), vs[i]? = some u → ∀ g, ad u = some g → v.ownBlock ≠ some g ∧ ∀ s ∈ S, s.ownBlock ≠ some g)
    (hz : ∀ (i : Nat) (u : Value) (x : α), us[i]? = some u → M[i]? = some x → R w u x) (hu : ∀ (i : Nat) (u : Value), us[i]? = some u → ∀ g, ad u = some g → v.ownBlock ≠ some g ∧ ∀ s ∈ S, s.ownBlock ≠ some g) (h2 : OwnV t w' B v' (vs ++ us)) (h3 : w.grownBy w' v.ownBlock) (h4 : v'.ownBlock = v.ownBlock ∨ ∃ g, v'.ownBlock = some g ∧ w.heap.size ≤ g) : OwnR t ad R w' B v' (L ++ M) S := by
  have key : ∀ (i : Nat) (u' : Value) (x' : α), (vs ++ us)[i]? = some u' → (L ++ M)[i]? = some x' → R w u' x' ∧ ∀ g, ad u' = some g → v.ownBlock ≠ some g ∧ ∀ s ∈ S, s.ownBlock ≠ some g := by
    intro i u' x' h5 h6
    by_cases e : i < vs.length
    · rw [List.getElem?_append_left e] at h5
      rw [List.getElem?_append_left (by omega)] at h6
      exact ⟨hvR i u' x' h5 h6, hsp i u' h5⟩
    · rw [List.getElem?_append_right (by omega)] at h5 h6
      rw [← hvl] at h6
      exact ⟨hz _ u' x' h5 h6, hu _ u' h5⟩
  refine ⟨vs ++ us, by simp [hvl, hul], h2, fun i u' x' h5 h6 => hG.keep _ _ _ _ _ h3 (fun g hg => ((key i u' x' h5 h6).2 g hg).1) (key i u' x' h5 h6).1, fun i u' h5 g hg => ?_⟩
  have hlt : i < (L ++ M).length := by have := (List.getElem?_eq_some_iff.1 h5).1; simp [hvl, hul] at this ⊢; omega
  have hk := key i u' _ h5 (List.getElem?_eq_getElem hlt)
  refine ⟨fun e => ?_, (hk.2 g hg).2⟩
  rcases h4 with h4 | ⟨g', h4, h5'⟩
  · exact (hk.2 g hg).1 (by rw [← h4]; exact e)
  · rw [h4] at e
    cases e
    have := hG.low _ _ _ _ hk.1 hg
    omega
/-- what is read as rows, with blocks that are kept apart from -/
def RdRS (ad : Value → Option Nat) (R : World → Value → α → Prop) (w : World) (A : Option Addr) (L : List α) (S : List Value) : Prop :=
  ∃ vs : List Value, vs.length = L.length ∧ RdV w A vs ∧ (∀ u ∈ vs, u.oneCell' = true) ∧ (∀ (i : Nat) (u : Value) (x : α), vs[i]? = some u → L[i]? = some x → R w u x) ∧ ∀ (i : Nat) (u : Value), vs[i]? = some u → ∀ g, ad u = some g → ∀ s ∈ S, s.ownBlock ≠ some g
/-- rows that were there before the blocks of S -/
theorem RdR.apart {w w' : World} {A : Option Addr} {L : List α} {S : List Value} (hG : GoodR ad R) (h1 : ∀ w u x, R w u x → u.oneCell' = true) (h : RdR R w A L) (k : Grows w w') (hS : ∀ s ∈ S, ∀ g, s.ownBlock = some g → w.heap.size ≤ g) : RdRS ad R w' A L S := by
  obtain ⟨vs, hl, hr, hR⟩ := h
  have hx : ∀ (i : Nat) (u : Value), vs[i]? = some u → ∃ x, R w u x := fun i u hi => by
    have hlt : i < L.length := by rw [← hl]; exact (List.getElem?_eq_some_iff.1 hi).1
    exact ⟨_, hR i u _ hi (List.getElem?_eq_getElem hlt)⟩
  refine ⟨vs, hl, hr.grows k, fun u hu => ?_, fun i u x h1 h2 => hG.grows (hR i u x h1 h2) k, fun i u hi g hg s hs e => ?_⟩
  · obtain ⟨i, hi, rfl⟩ := List.getElem_of_mem hu
    obtain ⟨x, hx⟩ := hx i _ (List.getElem?_eq_getElem hi)
    exact h1 _ _ _ hx
  · obtain ⟨x, hx⟩ := hx i u hi
    have := hG.low _ _ _ _ hx hg
    have := hS s hs g e
    omega
theorem RdV.slice {w : World} {A : Option Addr} {vs : List Value} (h : RdV w A vs) (lo hi : Nat) (_hlo : lo ≤ hi) (hhi : hi ≤ vs.length) (cap : Nat) (hc : vs.length ≤ cap) :
    RdV w (if cap = lo then A else A.map (·.add (lo * 1))) ((vs.take hi).drop lo) := by
  intro i u hu
  have hi' := (List.getElem?_eq_some_iff.1 hu).1
  simp at hi'
  have hlt : lo + i < hi := by omega
  rw [List.getElem?_drop, List.getElem?_take, if_pos hlt] at hu
  obtain ⟨b, off, rfl, hb, hcell⟩ := h (lo + i) u hu
  rw [if_neg (by omega)]
  refine ⟨b, off + lo, ?_, hb, ?_⟩
  · simp only [Option.map_some, Nat.mul_one]
    unfold Addr.add
    by_cases e : lo = 0 <;> simp [e]
  · rw [Nat.add_assoc, hcell]
theorem RdR.slice {w : World} {A : Option Addr} {L : List α} (h : RdR R w A L) (lo hi : Nat) (hlo : lo ≤ hi) (hhi : hi ≤ L.length) (cap : Nat) (hc : L.length ≤ cap) :
    RdR R w (if cap = lo then A else A.map (·.add (lo * 1))) ((L.take hi).drop lo) := by
  obtain ⟨vs, hl, hr, hR⟩ := h
  refine ⟨(vs.take hi).drop lo, by simp [hl], hr.slice lo hi hlo (by omega) cap (by omega), fun i u x h1 h2 => ?_⟩
  rw [List.getElem?_drop] at h1 h2
  have hlt : lo + i < hi := by have := (List.getElem?_eq_some_iff.1 h1).1; simp at this; omega
  rw [List.getElem?_take, if_pos hlt] at h1 h2
  exact hR _ _ _ h1 h2
/-- out = append(out, rows...) -/
theorem wpList_appRn {ops : Array Oper} {rest : List Oper} {o : Oper} {a : Act} {Q : Exit → Act → World → Prop} (t ts : TypeId) (hu : Tryz.prog.underlying ts = some (.slice t)) (hi : (Tryz.prog.info? t).map (fun i => (i.zero, i.size, i.bytes)) = some (some (.slice none 0 0), 1, 24)) (hgd : o.guard = none) (s x : Operand)
    (ho : o.op = .call { callee := .builtin .append, args := #[s, x], argTypes := #[ts, ts] }) (w : World) (hG : GoodR ad R)
    (B : Nat) (v : Value) (L : List α) (S : List Value) (hs : a.eval s = v) (hown : OwnR t ad R w B v L S) (A : Option Addr) (M : List α) (n c : Nat) (hx : a.eval x = .slice A n c) (hn : M.length = n) (hr : RdRS ad R w A M (v :: S))
    (hl : L.length + M.length ≤ 1099511627776) (hB : B ≤ w.heap.size)
    (h : ∀ v' w', OwnR t ad R w' B v' (L ++ M) S → w.grownBy w' v.ownBlock → (v'.ownBlock = v.ownBlock ∨ ∃ g, v'.ownBlock = some g ∧ w.heap.size ≤ g) → wpList Tryz.prog ops Q rest (a.put o.dst v') w') :
    wpList Tryz.prog ops Q (o :: rest) a w := by
  subst hn
  obtain ⟨vs, hvl, hvo, hvR, hsp⟩ := hown
  obtain ⟨us, hul, hur, hu1, huR, husp⟩ := hr
  obtain ⟨v', w', hrun, h2, h3, h4⟩ := run_appVn t ts hu hi w o.type B v vs hvo A us c hur hu1 (by omega) hB
  rw [hul] at hrun
  refine wpList_plain hgd fun _ hK => ?_
  unfold Oper.wp execOp
  simp only [ho, resolve, invoke, builtin, Sem.run_bind, Sem.run_pure, Result.andThen_ok, List.map_toArray, List.map_cons, List.map_nil, hs, hx, hrun]
  exact hK _ _ (h v' w' (ownR_appn hG hvl hul hvR hsp huR (fun i u hi g hg => ⟨husp i u hi g hg v List.mem_cons_self, fun s hs => husp i u hi g hg s (List.mem_cons_of_mem _ hs)⟩) h2 h3 h4) h3 h4)
/-- .. at a step of a region that draws -/
theorem step_appRn {ops : Array Oper} {o : Oper} {a : Act} {K : Act → World → Prop} {Q : Exit → Act → World → Prop} {E : Prop} (t ts : TypeId) (hu : Tryz.prog.underlying ts = some (.slice t)) (hi : (Tryz.prog.info? t).map (fun i => (i.zero, i.size, i.bytes)) = some (some (.slice none 0 0), 1, 24)) (hgd : o.guard = none) (s x : Operand)
    (ho : o.op = .call { callee := .builtin .append, args := #[s, x], argTypes := #[ts, ts] }) (w : World) (hG : GoodR ad R)
    (B : Nat) (v : Value) (L : List α) (S : List Value) (hs : a.eval s = v) (hown : OwnR t ad R w B v L S) (A : Option Addr) (M : List α) (n c : Nat) (hx : a.eval x = .slice A n c) (hn : M.length = n) (hr : RdRS ad R w A M (v :: S))
    (hl : L.length + M.length ≤ 1099511627776) (hB : B ≤ w.heap.size)
    (h : ∀ v' w', OwnR t ad R w' B v' (L ++ M) S → w.grownBy w' v.ownBlock → (v'.ownBlock = v.ownBlock ∨ ∃ g, v'.ownBlock = some g ∧ w.heap.size ≤ g) → K (a.put o.dst v') w') :
    if Region.wanted o (yielded ops a.tmps) = true then Oper.wp Tryz.prog o a w K Q else E := by
  have hw : Region.wanted o (yielded ops a.tmps) = true := by simp [Region.wanted, hgd]
  rw [if_pos hw]
  subst hn
  obtain ⟨vs, hvl, hvo, hvR, hsp⟩ := hown
  obtain ⟨us, hul, hur, hu1, huR, husp⟩ := hr
  obtain ⟨v', w', hrun, h2, h3, h4⟩ := run_appVn t ts hu hi w o.type B v vs hvo A us c hur hu1 (by omega) hB
  rw [hul] at hrun
  unfold Oper.wp execOp
  simp only [ho, resolve, invoke, builtin, Sem.run_bind, Sem.run_pure, Result.andThen_ok, List.map_toArray, List.map_cons, List.map_nil, hs, hx, hrun]
  exact h v' w' (ownR_appn hG hvl hul hvR hsp huR (fun i u hi g hg => ⟨husp i u hi g hg v List.mem_cons_self, fun s hs => husp i u hi g hg s (List.mem_cons_of_mem _ hs)⟩) h2 h3 h4) h3 h4
end
end Go.Proofs.YtncncepekcnbmaaGreat

/- Slices of slices of integers whose rows are owned, one by one, each in a block of its own. -/
namespace Go.Proofs.YtncncepekcnbmaaGreat
set_option linter.unusedSimpArgs false
set_option linter.unusedVariables false
open Go.RowKit

theorem und_ii : Tryz.prog.underlying 34 = some (.slice 24) := Tryz.underlying34
theorem info_is : (Tryz.prog.info? 24).map (fun i => (i.zero, i.size, i.bytes)) = some (some (.slice none 0 0), 1, 24) := by kernel_rfl

/-- v owns the values vs, which own the rows L, all from block B on, no two in one block -/
structure RowsO (w : World) (B : Nat) (v : Value) (vs : List Value) (L : List (List Int)) : Prop where
  len : vs.length = L.length
  own : OwnV 24 w B v vs
  row : ∀ (i : Nat) (u : Value) (x : List Int), vs[i]? = some u → L[i]? = some x → Own w B u x
  far : ∀ (i : Nat) (u : Value), vs[i]? = some u → ∀ g, u.ownBlock = some g → v.ownBlock ≠ some g
  nod : ∀ (i j : Nat) (u u' : Value), vs[i]? = some u → vs[j]? = some u' → i ≠ j → ∀ g, u.ownBlock = some g → u'.ownBlock ≠ some g

section
variable {w w' : World} {B B' : Nat} {v : Value} {vs : List Value} {L : List (List Int)} {A : Option Addr}
theorem RowsO.any (h : RowsO w B v vs L) {i : Nat} {u : Value} (hi : vs[i]? = some u) : ∃ x, L[i]? = some x ∧ Own w B u x := by
  have hlt : i < L.length := by rw [← h.len]; exact (List.getElem?_eq_some_iff.1 hi).1
  exact ⟨_, List.getElem?_eq_getElem hlt, h.row i u _ hi (List.getElem?_eq_getElem hlt)⟩
theorem RowsO.lt (h : RowsO w B v vs L) {i : Nat} {u : Value} (hi : vs[i]? = some u) {g : Nat} (hg : u.ownBlock = some g) : B ≤ g ∧ g < w.heap.size := by
  obtain ⟨x, _, ho⟩ := h.any hi
  exact World.ownsRow.lt ho g hg
theorem RowsO.grows (h : RowsO w B v vs L) (k : Grows w w') : RowsO w' B v vs L :=
  ⟨h.len, h.own.grows k, fun i u x h1 h2 => (h.row i u x h1 h2).grows k, h.far, h.nod⟩
theorem RowsO.less (h : RowsO w B v vs L) (hB : B' ≤ B) : RowsO w B' v vs L :=
  ⟨h.len, h.own.less hB, fun i u x h1 h2 => (h.row i u x h1 h2).less hB, h.far, h.nod⟩
theorem RowsO.new_ (w : World) {B b : Nat} (hb : w.heap.size = b) (hB : B ≤ b) : RowsO (w.alloc (.cells #[] 24)) B (.slice (some ⟨b, 0, none⟩) 0 0) [] [] :=
  ⟨rfl, OwnV.new_ _ w hb hB, fun i u x h => by simp at h, fun i u h => by simp at h, fun i j u u' h => by simp at h⟩
theorem RowsO.nil (w : World) (B : Nat) : RowsO w B (.slice none 0 0) [] [] :=
  ⟨rfl, OwnV.nil _ w B, fun i u x h => by simp at h, fun i u h => by simp at h, fun i j u u' h => by simp at h⟩
theorem RowsO.rsi (h : RowsO w B v vs L) {i : Nat} {u : Value} {x : List Int} (h1 : vs[i]? = some u) (h2 : L[i]? = some x) : RSI w u x := by
  obtain ⟨A, c, e, hr, hc⟩ := (h.row i u x h1 h2).val
  exact ⟨A, c, e, hr, hc⟩
theorem RowsO.val (h : RowsO w B v vs L) : ∃ A cap, v = .slice A L.length cap ∧ RdR RSI w A L ∧ L.length ≤ cap := by
  obtain ⟨A, cap, e, h1, h2⟩ := h.own.val
  rw [h.len] at e h2
  exact ⟨A, cap, e, ⟨vs, h.len, h1, fun i u x h3 h4 => h.rsi h3 h4⟩, h2⟩
theorem RowsO.rd {n c : Nat} (h : RowsO w B (.slice A n c) vs L) : RdR RSI w A L := by
  obtain ⟨A', c', e, hr, _⟩ := h.val
  injection e with e1 _ _
  rw [e1]; exact hr
theorem RowsO.low {p : Addr} (h : RowsO w B v vs L) (hp : p.block < B) (u : Value) : RowsO (w.setCell p u) B v vs L :=
  ⟨h.len, h.own.low hp u, fun i u' x h1 h2 => (h.row i u' x h1 h2).low hp u, h.far, h.nod⟩
theorem RowsO.drew (h : RowsO w B v vs L) : RowsO w.drew B v vs L := ⟨h.len, h.own.drew, fun i u x h1 h2 => (h.row i u x h1 h2).drew, h.far, h.nod⟩
theorem RowsO.drewN_ (h : RowsO w B v vs L) {n : Nat} : RowsO (w.drewN n) B v vs L := h.grows (below_drewN (Below.refl _ _) n)
theorem RowsO.alloc (h : RowsO w B v vs L) (o : Obj) : RowsO (w.alloc o) B v vs L := h.grows ((Below.refl _ _).alloc (Nat.le_refl _) o)
/-- a change to a block that is none of these -/
theorem RowsO.other (h : RowsO w B v vs L) {r : Option Nat} (hg : w.grownBy w' r) (h1 : ∀ g, r = some g → v.ownBlock ≠ some g) (h2 : ∀ g, r = some g → ∀ (i : Nat) (u : Value), vs[i]? = some u → u.ownBlock ≠ some g) : RowsO w' B v vs L := by
  refine ⟨h.len, World.ownsRow.kept h.own hg ?_, fun i u x h3 h4 => World.ownsRow.kept (h.row i u x h3 h4) hg ?_, h.far, h.nod⟩
  · cases e : v.ownBlock with
    | none => exact .inl rfl
    | some g => exact .inr fun e2 => h1 g e2.symm e
  · cases e : u.ownBlock with
    | none => exact .inl rfl
    | some g => exact .inr fun e2 => h2 g e2.symm i u h3 e
/-- what is known behind an append of one row that lies apart -/
theorem RowsO.app {u : Value} {z : List Int} {v' : Value} (h : RowsO w B v vs L) (hz : Own w B u z) (hu : ∀ g, u.ownBlock = some g → v.ownBlock ≠ some g ∧ ∀ (i : Nat) (u' : Value), vs[i]? = some u' → u'.ownBlock ≠ some g)
    (h2 : OwnV 24 w' B v' (vs ++ [u])) (h3 : w.grownBy w' v.ownBlock) (h4 : v'.ownBlock = v.ownBlock ∨ ∃ g, v'.ownBlock = some g ∧ w.heap.size ≤ g) : RowsO w' B v' (vs ++ [u]) (L ++ [z]) := by
  have hl := h.len
  have key : ∀ (i : Nat) (u' : Value), (vs ++ [u])[i]? = some u' → (vs[i]? = some u' ∧ i < vs.length) ∨ (i = vs.length ∧ u' = u) := fun i u' hi => by
    by_cases e : i < vs.length
    · rw [List.getElem?_append_left e] at hi; exact .inl ⟨hi, e⟩
    · rw [List.getElem?_append_right (by omega)] at hi
      cases hj : i - vs.length with
      | zero => rw [hj] at hi; simp at hi; exact .inr ⟨by omega, hi.symm⟩
      | succ j => rw [hj] at hi; simp at hi
  have kept : ∀ {o : Value} {x : List Int}, Own w B o x → (∀ g, o.ownBlock = some g → v.ownBlock ≠ some g) → Own w' B o x := fun {o} {x} ho hne => by
    refine World.ownsRow.kept ho h3 ?_
    cases e : o.ownBlock with
    | none => exact .inl rfl
    | some g => exact .inr fun e2 => hne g e e2.symm
  refine ⟨by simp [hl], h2, fun i u' x h5 h6 => ?_, fun i u' h5 g hg e => ?_, fun i j a b ha hb hne g hg => ?_⟩
  · rcases key i u' h5 with ⟨h7, h8⟩ | ⟨rfl, rfl⟩
    · rw [List.getElem?_append_left (by omega)] at h6
      exact kept (h.row i u' x h7 h6) fun g hg => h.far i u' h7 g hg
    · rw [hl] at h6
      simp at h6
      subst h6
      exact kept hz fun g hg => (hu g hg).1
  · have hlt : g < w.heap.size := by
      rcases key i u' h5 with ⟨h7, _⟩ | ⟨_, rfl⟩
      · exact (h.lt h7 hg).2
      · exact (World.ownsRow.lt hz g hg).2
    rcases h4 with h4 | ⟨g', h4, h5'⟩
    · rw [h4] at e
      rcases key i u' h5 with ⟨h7, _⟩ | ⟨_, rfl⟩
      · exact h.far i u' h7 g hg e
      · exact (hu g hg).1 e
    · rw [h4] at e
      cases e
      omega
  · rcases key i a ha with ⟨h7, h8⟩ | ⟨rfl, rfl⟩ <;> rcases key j b hb with ⟨h9, h10⟩ | ⟨rfl, rfl⟩
    · exact h.nod i j a b h7 h9 hne g hg
    · intro e
      exact (hu g e).2 i a h7 hg
    · exact (hu g hg).2 j b h9
    · omega
end
/-- out = append(out, x), x a row that lies apart -/
theorem wpList_appO1 {ops : Array Oper} {rest : List Oper} {o : Oper} {a : Act} {Q : Exit → Act → World → Prop} (hgd : o.guard = none) (s x : Operand)
    (ho : o.op = .call { callee := .builtin .append, args := #[s, x], argTypes := #[34, 34] }) (w : World) (u : Value) (z : List Int)
    (B : Nat) (v : Value) (vs : List Value) (L : List (List Int)) (hs : a.eval s = v) (hown : RowsO w B v vs L) (hz : Own w B u z) (hu : ∀ g, u.ownBlock = some g → v.ownBlock ≠ some g ∧ ∀ (i : Nat) (u' : Value), vs[i]? = some u' → u'.ownBlock ≠ some g) (hu1 : u.oneCell' = true) (hx : a.eval x = .slice (some ⟨w.heap.size, 0, none⟩) 1 1)
    (hl : L.length + 1 ≤ 1099511627776) (hB : B ≤ w.heap.size)
    (h : ∀ v' w', RowsO w' B v' (vs ++ [u]) (L ++ [z]) → w.grownBy w' v.ownBlock → (v'.ownBlock = v.ownBlock ∨ ∃ g, v'.ownBlock = some g ∧ w.heap.size ≤ g) → wpList Tryz.prog ops Q rest (a.put o.dst v') w') :
    wpList Tryz.prog ops Q (o :: rest) a (w.alloc (.cells #[u] 24)) := by
  obtain ⟨v', w', hrun, h2, h3, h4⟩ := run_appV1 24 34 und_ii info_is w o.type B v vs hown.own u hu1 (by rw [hown.len]; omega) hB
  refine wpList_plain hgd fun _ hK => ?_
  unfold Oper.wp execOp
  simp only [ho, resolve, invoke, builtin, Sem.run_bind, Sem.run_pure, Result.andThen_ok, List.map_toArray, List.map_cons, List.map_nil, hs, hx, hrun]
  exact hK _ _ (h v' w' (hown.app hz hu h2 h3 h4) h3 h4)
theorem below_appO {w w' : World} {B : Nat} {v : Value} {vs : List Value} {L : List (List Int)} (h : RowsO w B v vs L) (hB : B ≤ w.heap.size) (hg : w.grownBy w' v.ownBlock) : Below B w w' := below_appR h.own hB hg
end Go.Proofs.YtncncepekcnbmaaGreat
