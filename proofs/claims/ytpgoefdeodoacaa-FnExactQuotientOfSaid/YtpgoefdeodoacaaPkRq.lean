/- Contracts and lemmas, put together. -/
import Derived.Test.YtpgoefdeodoacaaPkA
import Derived.Test.YtpgoefdeodoacaaPkDq
/- Slices of slices: rows of values of one cell. -/
namespace Go.Proofs.Ytpgoefdeodoacaa
set_option linter.unusedSimpArgs false
set_option linter.unusedVariables false
open Go.RowKit

/-- the slice at A reads as the values vs, a cell each -/
def RdV (w : World) (A : Option Addr) (vs : List Value) : Prop := ∀ i u, vs[i]? = some u → ∃ b off, A = some ⟨b, off, none⟩ ∧ b < w.heap.size ∧ w.cell? ⟨b, off + i, none⟩ = some u
/-- the slice value owns its row of values, from block B on -/
def OwnV (t : TypeId) (w : World) (B : Nat) (v : Value) (vs : List Value) : Prop := w.ownsRow B t 1 v vs.length vs
section
variable {t : TypeId} {w w' : World} {B B' : Nat} {v : Value} {vs : List Value} {A : Option Addr}
theorem RdV.nil (w : World) (A : Option Addr) : RdV w A [] := fun i u h => by simp at h
theorem RdV.grows (h : RdV w A vs) (k : Grows w w') : RdV w' A vs := fun i u hi => by
  obtain ⟨b, off, e, hb, hc⟩ := h i u hi
  exact ⟨b, off, e, Nat.lt_of_lt_of_le hb k.size, (k.cell (p := ⟨b, off + i, none⟩) hb).trans hc⟩
theorem OwnV.grows (h : OwnV t w B v vs) (k : Grows w w') : OwnV t w' B v vs := ownsRow_grows h k
theorem OwnV.alloc (h : OwnV t w B v vs) (o : Obj) : OwnV t (w.alloc o) B v vs := h.grows ((Below.refl _ _).alloc (Nat.le_refl _) o)
theorem OwnV.less (h : OwnV t w B v vs) (hB : B' ≤ B) : OwnV t w B' v vs := ownsRow_less h hB
theorem OwnV.val (h : OwnV t w B v vs) : ∃ A cap, v = .slice A vs.length cap ∧ RdV w A vs ∧ vs.length ≤ cap := by
  rcases h.2 with ⟨rfl, h0⟩ | ⟨g, cap, cur, rfl, hb, hg, hn, hm, hcs, htake⟩
  · have : vs = [] := List.eq_nil_of_length_eq_zero h0
    subst this
    exact ⟨none, 0, rfl, RdV.nil _ _, Nat.le_refl _⟩
  · refine ⟨some ⟨g, 0, none⟩, cap, rfl, fun i u hi => ⟨g, 0, rfl, (Array.getElem?_eq_some_iff.1 hg).1, ?_⟩, hn⟩
    have hlt : i < vs.length := (List.getElem?_eq_some_iff.1 hi).1
    have := World.ownsRow.cellAt (w := w) (base := B) (e := t) (size := 1) (g := g) (n := vs.length) (cap := cap) (xs := vs) h i (by omega)
    rw [Nat.zero_add, this, hi]
theorem OwnV.rd {n c : Nat} (h : OwnV t w B (.slice A n c) vs) : RdV w A vs := by
  obtain ⟨A', c', e, hr, _⟩ := h.val
  injection e with e1 _ _
  rw [e1]; exact hr
theorem OwnV.lt {g : Nat} (h : OwnV t w B v vs) (hg : v.ownBlock = some g) : B ≤ g ∧ g < w.heap.size := World.ownsRow.lt h g hg
theorem OwnV.new_ (t : TypeId) (w : World) {B b : Nat} (hb : w.heap.size = b) (hB : B ≤ b) : OwnV t (w.alloc (.cells #[] t)) B (.slice (some ⟨b, 0, none⟩) 0 0) [] := by
  subst hb
  exact World.ownsRow_lit (w := w) (base := B) (e := t) (size := 1) #[] 0 hB (by simp [maxLen]) (by simp)
theorem OwnV.nil (t : TypeId) (w : World) (B : Nat) : OwnV t w B (.slice none 0 0) [] := World.ownsRow_nil w B _ 1
theorem OwnV.far (h : OwnV t w B v vs) {p : Addr} (hp : ∀ g, v.ownBlock = some g → g ≠ p.block) (u : Value) : OwnV t (w.setCell p u) B v vs := ownsRow_far h hp u
theorem OwnV.low (h : OwnV t w B v vs) {p : Addr} (hp : p.block < B) (u : Value) : OwnV t (w.setCell p u) B v vs := h.far (fun g hg => by have := (h.lt hg).1; omega) u
theorem OwnV.drew (h : OwnV t w B v vs) : OwnV t w.drew B v vs := h
end

/-! ### rows of what is read through a value: R w u x: the value u stands for x; ad u: the block that u reads, if any -/
structure GoodR {α : Type} (ad : Value → Option Nat) (R : World → Value → α → Prop) : Prop where
  keep : ∀ w w' k u x, w.grownBy w' k → (∀ g, ad u = some g → k ≠ some g) → R w u x → R w' u x
  low : ∀ w u x g, R w u x → ad u = some g → g < w.heap.size
theorem grows_grown {w w' : World} (g : Grows w w') : w.grownBy w' none := ⟨g.os, g.tape, g.output, g.size, fun i hi _ => g.block i hi⟩
section
variable {α : Type} {ad : Value → Option Nat} {R : World → Value → α → Prop} {t : TypeId} {w w' : World} {B B' : Nat} {v : Value} {A : Option Addr} {L : List α} {S S' : List Value}
theorem GoodR.grows (hG : GoodR ad R) {u : Value} {x : α} (h : R w u x) (g : Grows w w') : R w' u x := hG.keep _ _ _ _ _ (grows_grown g) (fun _ _ h => by cases h) h
def RdR (R : World → Value → α → Prop) (w : World) (A : Option Addr) (L : List α) : Prop := ∃ vs : List Value, vs.length = L.length ∧ RdV w A vs ∧ ∀ (i : Nat) (u : Value) (x : α), vs[i]? = some u → L[i]? = some x → R w u x
/-- .. owned; what it holds reads no block of its own, and none of those that the values S own -/
def OwnR (t : TypeId) (ad : Value → Option Nat) (R : World → Value → α → Prop) (w : World) (B : Nat) (v : Value) (L : List α) (S : List Value) : Prop :=
  ∃ vs : List Value, vs.length = L.length ∧ OwnV t w B v vs ∧ (∀ (i : Nat) (u : Value) (x : α), vs[i]? = some u → L[i]? = some x → R w u x) ∧ ∀ (i : Nat) (u : Value), vs[i]? = some u → ∀ g, ad u = some g → v.ownBlock ≠ some g ∧ ∀ s ∈ S, s.ownBlock ≠ some g
theorem RdR.at_ (h : RdR R w A L) (i : Nat) (hi : i < L.length) : ∃ b off u, A = some ⟨b, off, none⟩ ∧ b < w.heap.size ∧ w.cell? ⟨b, off + i, none⟩ = some u ∧ R w u L[i] := by
  obtain ⟨vs, hl, hr, hR⟩ := h
  have hv : vs[i]? = some vs[i] := List.getElem?_eq_getElem (by omega)
  obtain ⟨b, off, e, hb, hc⟩ := hr i _ hv
  exact ⟨b, off, _, e, hb, hc, hR i _ _ hv (List.getElem?_eq_getElem hi)⟩
theorem RdR.grows (hG : GoodR ad R) (h : RdR R w A L) (k : Grows w w') : RdR R w' A L := by
  obtain ⟨vs, hl, hr, hR⟩ := h
  exact ⟨vs, hl, hr.grows k, fun i u x h1 h2 => hG.grows (hR i u x h1 h2) k⟩
theorem OwnR.grows (hG : GoodR ad R) (h : OwnR t ad R w B v L S) (k : Grows w w') : OwnR t ad R w' B v L S := by
  obtain ⟨vs, hl, hr, hR, hs⟩ := h
  exact ⟨vs, hl, hr.grows k, fun i u x h1 h2 => hG.grows (hR i u x h1 h2) k, hs⟩
theorem OwnR.val (h : OwnR t ad R w B v L S) : ∃ A cap, v = .slice A L.length cap ∧ RdR R w A L ∧ L.length ≤ cap := by
  obtain ⟨vs, hl, hr, hR, hs⟩ := h
  obtain ⟨A, cap, e, h1, h2⟩ := hr.val
  rw [hl] at e h2
  exact ⟨A, cap, e, ⟨vs, hl, h1, hR⟩, h2⟩
theorem OwnR.rd {n c : Nat} (h : OwnR t ad R w B (.slice A n c) L S) : RdR R w A L := by
  obtain ⟨A', c', e, hr, _⟩ := h.val
  injection e with e1 _ _
  rw [e1]; exact hr
theorem OwnR.less (h : OwnR t ad R w B v L S) (hB : B' ≤ B) : OwnR t ad R w B' v L S := by
  obtain ⟨vs, hl, hr, hR, hs⟩ := h
  exact ⟨vs, hl, hr.less hB, hR, hs⟩
theorem OwnR.lt {g : Nat} (h : OwnR t ad R w B v L S) (hg : v.ownBlock = some g) : B ≤ g ∧ g < w.heap.size := by
  obtain ⟨vs, hl, hr, hR⟩ := h
  exact hr.lt hg
theorem OwnR.new_ (t : TypeId) (ad : Value → Option Nat) (R : World → Value → α → Prop) (w : World) (S : List Value) {B b : Nat} (hb : w.heap.size = b) (hB : B ≤ b) : OwnR t ad R (w.alloc (.cells #[] t)) B (.slice (some ⟨b, 0, none⟩) 0 0) ([] : List α) S :=
  ⟨[], rfl, OwnV.new_ t w hb hB, fun i u x h => by simp at h, fun i u h => by simp at h⟩
theorem OwnR.nil (t : TypeId) (ad : Value → Option Nat) (R : World → Value → α → Prop) (w : World) (B : Nat) (S : List Value) : OwnR t ad R w B (.slice none 0 0) ([] : List α) S :=
  ⟨[], rfl, OwnV.nil t w B, fun i u x h => by simp at h, fun i u h => by simp at h⟩
/-- other values to keep apart from: known ones, or of new blocks -/
theorem OwnR.avoid (hG : GoodR ad R) (h : OwnR t ad R w B v L S) (hS : ∀ s' ∈ S', ∀ g, s'.ownBlock = some g → (∃ s ∈ S, s.ownBlock = some g) ∨ v.ownBlock = some g ∨ w.heap.size ≤ g) : OwnR t ad R w B v L S' := by
  obtain ⟨vs, hl, hr, hR, hs⟩ := h
  refine ⟨vs, hl, hr, hR, fun i u hi g hg => ⟨(hs i u hi g hg).1, fun s' hs' e => ?_⟩⟩
  rcases hS s' hs' g e with ⟨s, h1, h2⟩ | h1 | h1
  · exact (hs i u hi g hg).2 s h1 h2
  · exact (hs i u hi g hg).1 h1
  · have hlt : i < L.length := by rw [← hl]; exact (List.getElem?_eq_some_iff.1 hi).1
    have := hG.low _ _ _ _ (hR i u _ hi (List.getElem?_eq_getElem hlt)) hg
    omega
/-- a change to a row that is kept apart from -/
theorem OwnR.other (hG : GoodR ad R) (h : OwnR t ad R w B v L S) {s : Value} (hs : s ∈ S) (hne : ∀ g, s.ownBlock = some g → v.ownBlock ≠ some g) (hg : w.grownBy w' s.ownBlock) : OwnR t ad R w' B v L S := by
  obtain ⟨vs, hl, hr, hR, hsp⟩ := h
  exact ⟨vs, hl, ownsRow_other hr hg hne, fun i u x h1 h2 => hG.keep _ _ _ _ _ hg (fun g hg2 e => (hsp i u h1 g hg2).2 s hs e) (hR i u x h1 h2), hsp⟩
end

/-- the block that a slice which is not empty reads -/
def adR : Value → Option Nat
  | .slice (some a) n _ => if n = 0 then none else some a.block
  | _ => none
theorem adR_pos {a : Addr} {n c : Nat} (h : 0 < n) : adR (.slice (some a) n c) = some a.block := by
  show (if n = 0 then none else some a.block) = _
  rw [if_neg (by omega)]
theorem adR_some {a : Addr} {n c g : Nat} (h : adR (.slice (some a) n c) = some g) : 0 < n ∧ g = a.block := by
  change (if n = 0 then none else some a.block) = _ at h
  split at h
  · cases h
  · cases h; exact ⟨by omega, rfl⟩
theorem cell_keep {w w' : World} {b o : Nat} (hk : w'.heap[b]? = w.heap[b]?) : w'.cell? ⟨b, o, none⟩ = w.cell? ⟨b, o, none⟩ := World.cell?_of_block hk
theorem Rd.other {w w' : World} {k : Option Nat} {A : Option Addr} {x : List Int} {c : Nat} (h : Rd w A x) (hg : w.grownBy w' k) (hne : ∀ g, adR (.slice A x.length c) = some g → k ≠ some g) : Rd w' A x := fun i hi => by
  obtain ⟨b, off, e, hb, hc⟩ := h i hi
  subst e
  have hk : k ≠ some b := hne b (adR_pos (by omega))
  exact ⟨b, off, rfl, Nat.lt_of_lt_of_le hb hg.size, (cell_keep (hg.block b hb (fun e => hk e.symm))).trans hc⟩
theorem RdQ.other {w w' : World} {k : Option Nat} {A : Option Addr} {x : List Q2} {c : Nat} (h : RdQ w A x) (hg : w.grownBy w' k) (hne : ∀ g, adR (.slice A x.length c) = some g → k ≠ some g) : RdQ w' A x := fun i hi => by
  obtain ⟨b, off, e, hb, hc1, hc2⟩ := h i hi
  subst e
  have hk : k ≠ some b := hne b (adR_pos (by omega))
  have hbk := hg.block b hb (fun e => hk e.symm)
  exact ⟨b, off, rfl, Nat.lt_of_lt_of_le hb hg.size, (cell_keep hbk).trans hc1, (cell_keep hbk).trans hc2⟩
/-- a slice of integers that is read -/
def RSI (w : World) (u : Value) (x : List Int) : Prop := ∃ A c, u = .slice A x.length c ∧ Rd w A x ∧ x.length ≤ c
theorem RSI.good : GoodR adR RSI := by
  refine ⟨fun w w' k u x hg hne ⟨A, c, e, h, hc⟩ => ⟨A, c, e, h.other (c := c) hg (fun g hg2 => hne g (by rw [e]; exact hg2)), hc⟩, fun w u x g ⟨A, c, e, h, hc⟩ hg => ?_⟩
  subst e
  cases A with
  | none => simp [adR] at hg
  | some a =>
    obtain ⟨h0, rfl⟩ := adR_some hg
    obtain ⟨b, off, e, hb, _⟩ := h 0 h0
    cases e
    exact hb
/-- a slice of fractions that is read -/
def RSQ (w : World) (u : Value) (x : List Q2) : Prop := ∃ A c, u = .slice A x.length c ∧ RdQ w A x ∧ x.length ≤ c
theorem RSQ.good : GoodR adR RSQ := by
  refine ⟨fun w w' k u x hg hne ⟨A, c, e, h, hc⟩ => ⟨A, c, e, h.other (c := c) hg (fun g hg2 => hne g (by rw [e]; exact hg2)), hc⟩, fun w u x g ⟨A, c, e, h, hc⟩ hg => ?_⟩
  subst e
  cases A with
  | none => simp [adR] at hg
  | some a =>
    obtain ⟨h0, rfl⟩ := adR_some hg
    obtain ⟨b, off, e, hb, _⟩ := h 0 h0
    cases e
    exact hb
/-- a row of integers that is owned, from block B on -/
def RO (B : Nat) (w : World) (u : Value) (x : List Int) : Prop := Own w B u x
theorem RO.good (B : Nat) : GoodR Value.ownBlock (RO B) :=
  ⟨fun w w' k u x hg hne h => World.ownsRow.kept h hg (by
    rcases e : u.ownBlock with _ | g
    · exact .inl rfl
    · exact .inr (fun e2 => hne g e e2.symm)), fun w u x g h hg => (World.ownsRow.lt h g hg).2⟩

theorem run_appV1 (t ts : TypeId) (hu : Try.prog.underlying ts = some (.slice t)) (hi : (Try.prog.info? t).map (fun i => (i.zero, i.size, i.bytes)) = some (some (.slice none 0 0), 1, 24)) (w : World) (ty : TypeId) (B : Nat) (v : Value) (vs : List Value) (hown : OwnV t w B v vs) (u : Value) (hu1 : u.oneCell' = true)
    (hl : vs.length + 1 ≤ 1099511627776) (hB : B ≤ w.heap.size) :
    ∃ v' w', (Builtin.append_ #[ts, ts] ty #[v, .slice (some ⟨w.heap.size, 0, none⟩) 1 1]).run Try.prog (w.alloc (.cells #[u] t)) = .ok v' w' ∧ OwnV t w' B v' (vs ++ [u]) ∧ w.grownBy w' v.ownBlock ∧ (v'.ownBlock = v.ownBlock ∨ ∃ g, v'.ownBlock = some g ∧ w.heap.size ≤ g) := by
  obtain ⟨i0, hi0, hz0, hz1, hz2⟩ := info_parts hi
  obtain ⟨v', w', hrun, h2, h3, _, h5⟩ := run_append_own_at (P := Try.prog) (w.alloc (.cells #[u] t)) B ts ty t i0 (.slice none 0 0) 1 24 hu hi0 hz0 hz1 hz2 rfl (by omega) v vs.length vs (hown.alloc _)
    ⟨w.heap.size, 0, none⟩ 1 1 [u] (by simp) (by
      intro j x hx
      match j with
      | 0 => simp at hx; subst hx; simp [Addr.add, go_sem]
      | j + 1 => simp at hx) (by intro x hx; simp at hx; rw [hx]; exact hu1) (by simp [maxLen]; omega) (by omega) (by simp; omega)
  refine ⟨v', w', hrun, ?_, ?_, ?_⟩
  · unfold OwnV
    rw [List.length_append]
    exact h2
  · exact ⟨h3.os, h3.tape, h3.output, Nat.le_trans (by simp) h3.size, fun k hk hne => (h3.block k (by simp; omega) hne).trans (Below.heap_alloc w _ k hk)⟩
  · rcases h5 with h5 | h5
    · exact .inl h5
    · exact .inr ⟨_, h5, by simp⟩
section
variable {α : Type} {ad : Value → Option Nat} {R : World → Value → α → Prop}
theorem ownR_app {t : TypeId} {w w' : World} {B : Nat} {v v' u : Value} {z : α} {vs : List Value} {L : List α} {S : List Value} (hG : GoodR ad R) (hvl : vs.length = L.length) (hvR : ∀ (i : Nat) (u : Value) (x : α), vs[i]? = some u → L[i]? = some x → R w u x) (hsp : ∀ (i : Nat) (u : Value), vs[i]? = some u → ∀ g, ad u = some g → v.ownBlock ≠ some g ∧ ∀ s ∈ S, s.ownBlock ≠ some g)
    (hz : R w u z) (hu : ∀ g, ad u = some g → v.ownBlock ≠ some g ∧ ∀ s ∈ S, s.ownBlock ≠ some g) (h2 : OwnV t w' B v' (vs ++ [u])) (h3 : w.grownBy w' v.ownBlock) (h4 : v'.ownBlock = v.ownBlock ∨ ∃ g, v'.ownBlock = some g ∧ w.heap.size ≤ g) : OwnR t ad R w' B v' (L ++ [z]) S := by
  have key : ∀ (i : Nat) (u' : Value) (x' : α), (vs ++ [u])[i]? = some u' → (L ++ [z])[i]? = some x' → R w u' x' ∧ ∀ g, ad u' = some g → v.ownBlock ≠ some g ∧ ∀ s ∈ S, s.ownBlock ≠ some g := by
    intro i u' x' h5 h6
    by_cases e : i < vs.length
    · rw [List.getElem?_append_left e] at h5
      rw [List.getElem?_append_left (by omega)] at h6
      exact ⟨hvR i u' x' h5 h6, hsp i u' h5⟩
    · rw [List.getElem?_append_right (by omega)] at h5 h6
      rw [← hvl] at h6
      cases hj : i - vs.length with
      | zero =>
        rw [hj] at h5 h6
        simp at h5 h6
        subst h5 h6
        exact ⟨hz, hu⟩
      | succ j => rw [hj] at h5; simp at h5
  refine ⟨vs ++ [u], by simp [hvl], h2, fun i u' x' h5 h6 => hG.keep _ _ _ _ _ h3 (fun g hg => ((key i u' x' h5 h6).2 g hg).1) (key i u' x' h5 h6).1, fun i u' h5 g hg => ?_⟩
  have hlt : i < (L ++ [z]).length := by have := (List.getElem?_eq_some_iff.1 h5).1; simp [hvl] at this ⊢; omega
  have hk := key i u' _ h5 (List.getElem?_eq_getElem hlt)
  refine ⟨fun e => ?_, (hk.2 g hg).2⟩
  rcases h4 with h4 | ⟨g', h4, h5'⟩
  · exact (hk.2 g hg).1 (by rw [← h4]; exact e)
  · rw [h4] at e
    cases e
    have := hG.low _ _ _ _ hk.1 hg
    omega
/-- out = append(out, x), x a slice that stands for z -/
theorem wpList_appR1 {ops : Array Oper} {rest : List Oper} {o : Oper} {a : Act} {Q : Exit → Act → World → Prop} (t ts : TypeId) (hu : Try.prog.underlying ts = some (.slice t)) (hi : (Try.prog.info? t).map (fun i => (i.zero, i.size, i.bytes)) = some (some (.slice none 0 0), 1, 24)) (hgd : o.guard = none) (s x : Operand)
    (ho : o.op = .call { callee := .builtin .append, args := #[s, x], argTypes := #[ts, ts] }) (w : World) (u : Value) (z : α) (hG : GoodR ad R) (hu1 : u.oneCell' = true) (hz : R w u z)
    (B : Nat) (v : Value) (L : List α) (S : List Value) (hs : a.eval s = v) (hown : OwnR t ad R w B v L S) (hsep : ∀ g, ad u = some g → v.ownBlock ≠ some g ∧ ∀ s ∈ S, s.ownBlock ≠ some g) (hx : a.eval x = .slice (some ⟨w.heap.size, 0, none⟩) 1 1)
    (hl : L.length + 1 ≤ 1099511627776) (hB : B ≤ w.heap.size)
    (h : ∀ v' w', OwnR t ad R w' B v' (L ++ [z]) S → w.grownBy w' v.ownBlock → (v'.ownBlock = v.ownBlock ∨ ∃ g, v'.ownBlock = some g ∧ w.heap.size ≤ g) → wpList Try.prog ops Q rest (a.put o.dst v') w') :
    wpList Try.prog ops Q (o :: rest) a (w.alloc (.cells #[u] t)) := by
  obtain ⟨vs, hvl, hvo, hvR, hsp⟩ := hown
  obtain ⟨v', w', hrun, h2, h3, h4⟩ := run_appV1 t ts hu hi w o.type B v vs hvo u hu1 (by omega) hB
  refine wpList_plain hgd fun _ hK => ?_
  unfold Oper.wp execOp
  simp only [ho, resolve, invoke, builtin, Sem.run_bind, Sem.run_pure, Result.andThen_ok, List.map_toArray, List.map_cons, List.map_nil, hs, hx, hrun]
  exact hK _ _ (h v' w' (ownR_app hG hvl hvR hsp hz hsep h2 h3 h4) h3 h4)
/-- .. at a step of a region that draws -/
theorem step_appR1 {ops : Array Oper} {o : Oper} {a : Act} {K : Act → World → Prop} {Q : Exit → Act → World → Prop} {E : Prop} (t ts : TypeId) (hu : Try.prog.underlying ts = some (.slice t)) (hi : (Try.prog.info? t).map (fun i => (i.zero, i.size, i.bytes)) = some (some (.slice none 0 0), 1, 24)) (hgd : o.guard = none) (s x : Operand)
    (ho : o.op = .call { callee := .builtin .append, args := #[s, x], argTypes := #[ts, ts] }) (w : World) (u : Value) (z : α) (hG : GoodR ad R) (hu1 : u.oneCell' = true) (hz : R w u z)
    (B : Nat) (v : Value) (L : List α) (S : List Value) (hs : a.eval s = v) (hown : OwnR t ad R w B v L S) (hsep : ∀ g, ad u = some g → v.ownBlock ≠ some g ∧ ∀ s ∈ S, s.ownBlock ≠ some g) (hx : a.eval x = .slice (some ⟨w.heap.size, 0, none⟩) 1 1)
    (hl : L.length + 1 ≤ 1099511627776) (hB : B ≤ w.heap.size)
    (h : ∀ v' w', OwnR t ad R w' B v' (L ++ [z]) S → w.grownBy w' v.ownBlock → (v'.ownBlock = v.ownBlock ∨ ∃ g, v'.ownBlock = some g ∧ w.heap.size ≤ g) → K (a.put o.dst v') w') :
    if Region.wanted o (yielded ops a.tmps) = true then Oper.wp Try.prog o a (w.alloc (.cells #[u] t)) K Q else E := by
  have hw : Region.wanted o (yielded ops a.tmps) = true := by simp [Region.wanted, hgd]
  rw [if_pos hw]
  obtain ⟨vs, hvl, hvo, hvR, hsp⟩ := hown
  obtain ⟨v', w', hrun, h2, h3, h4⟩ := run_appV1 t ts hu hi w o.type B v vs hvo u hu1 (by omega) hB
  unfold Oper.wp execOp
  simp only [ho, resolve, invoke, builtin, Sem.run_bind, Sem.run_pure, Result.andThen_ok, List.map_toArray, List.map_cons, List.map_nil, hs, hx, hrun]
  exact h v' w' (ownR_app hG hvl hvR hsp hz hsep h2 h3 h4) h3 h4
end
theorem below_R {α : Type} {t : TypeId} {ad : Value → Option Nat} {R : World → Value → α → Prop} {w w' : World} {B : Nat} {v : Value} {L : List α} {S : List Value} (h : OwnR t ad R w B v L S) (hB : B ≤ w.heap.size) (hg : w.grownBy w' v.ownBlock) : Below B w w' := by
  obtain ⟨vs, hl, hr, hR⟩ := h
  exact below_appR hr hB hg
end Go.Proofs.Ytpgoefdeodoacaa
