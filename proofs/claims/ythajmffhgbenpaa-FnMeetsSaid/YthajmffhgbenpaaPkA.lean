/- Contracts and lemmas, put together. -/
import Derived.Below
import Derived.BigQuiet
import Derived.ChangeOld
import Derived.Deep.QuietTactic
import Derived.Lib.Hide
import Derived.Lib.SmallJoins
import Derived.Maps.AppendAt
import Derived.OpenShut
import Derived.OwnWalk
import Derived.ProofKit
import Derived.RegionTactic
import Derived.ShutString
import Derived.StillTail
import Derived.Test.YthajmffhgbenpaaRows
import Derived.WalkKit
import Derived.WalkLawsBesides
import Derived.WalkSpells
/- Words on memory: a slice of integers that is read (Rd), a row of the call's own (Own), how both are kept. -/
namespace Go.Proofs.Ythajmffhgbenpaa
set_option linter.unusedSimpArgs false
set_option linter.unusedVariables false
open Go.RowKit

/-- Number i of a list, 0 beyond its end. -/
def nth (l : List Int) (i : Nat) : Int := l.getD i 0

theorem nth_eq (l : List Int) (i : Nat) (h : i < l.length) : l[i]? = some (nth l i) := by
  unfold nth; simp [List.getD, h]
theorem nth_out (l : List Int) (i : Nat) (h : l.length ≤ i) : nth l i = 0 := by
  unfold nth; simp [List.getD, h]
theorem nth_get (l : List Int) (i : Nat) (h : i < l.length) : nth l i = l[i] := by
  unfold nth; simp [List.getD, h]
theorem nth_ext {a b : List Int} (h : a.length = b.length) (h2 : ∀ i, i < a.length → nth a i = nth b i) : a = b := by
  apply List.ext_getElem h
  intro i h3 h4
  have := h2 i h3
  rw [nth_get _ _ h3, nth_get _ _ h4] at this
  exact this
theorem nth_set (l : List Int) (i j : Nat) (x : Int) (h : i < l.length) : nth (l.set i x) j = if j = i then x else nth l j := by
  unfold nth
  simp only [List.getD_eq_getElem?_getD, List.getElem?_set]
  by_cases e : i = j
  · subst e; simp [h]
  · rw [if_neg e, if_neg (fun q => e q.symm)]
theorem nth_append_left (a b : List Int) (i : Nat) (h : i < a.length) : nth (a ++ b) i = nth a i := by
  unfold nth; simp [List.getElem?_append, h]
theorem nth_append_right (a b : List Int) (i : Nat) (h : a.length ≤ i) : nth (a ++ b) i = nth b (i - a.length) := by
  unfold nth; simp [List.getElem?_append, Nat.not_lt.2 h]
theorem nth_replicate (n i : Nat) : nth (List.replicate n 0) i = 0 := by
  unfold nth; simp [List.getD_eq_getElem?_getD, List.getElem?_replicate]; split <;> rfl

/-- The new world has every block of the old one as it was. -/
abbrev Grows (w w' : World) : Prop := Below w.heap.size w w'
theorem below_drewN {B : Nat} {a w : World} (h : Below B a w) (n : Nat) : Below B a (w.drewN n) := ⟨h.os, h.tape, h.output, h.size, h.block⟩
theorem Grows.refl (w : World) : Grows w w := Below.refl _ _
theorem Grows.trans {a b c : World} (h : Grows a b) (k : Grows b c) : Grows a c := Below.trans h (Below.mono k h.size)
theorem Grows.to {B : Nat} {a b c : World} (h : Below B a b) (k : Grows b c) (hB : B ≤ b.heap.size) : Below B a c := Below.trans h (Below.mono k hB)

/-! ### what is shown in the same way again and again: each of these asks for a proof that it finds itself -/
theorem side {p : Prop} (h : p := by first | omega | (simp; done) | (simp; omega) | (simp [*]; done) | (simp at *; omega)) : p := h
theorem bel0 {p : Prop} (h : p := by (repeat' with_reducible first | exact Below.refl _ _ | assumption | refine Below.setCell ?_ ?_ _ | refine Below.alloc ?_ ?_ _ | refine Below.drew ?_ | refine below_drewN ?_ _); all_goals exact side) : p := h
theorem bel1 {q0 p : Prop} (a : q0) (h : q0 → p := by intro a; have z0 := Below.size a; (try simp at z0); (repeat' with_reducible first | exact Below.refl _ _ | assumption | refine Below.setCell ?_ ?_ _ | refine Below.alloc ?_ ?_ _ | refine Below.drew ?_ | refine below_drewN ?_ _ | refine Below.trans ?_ (Below.mono a ?_)); all_goals exact side) : p := h a
theorem bel2 {q0 q1 p : Prop} (a : q0) (b : q1) (h : q0 → q1 → p := by intro a b; have z0 := Below.size a; (try simp at z0); have z1 := Below.size b; (try simp at z1); (repeat' with_reducible first | exact Below.refl _ _ | assumption | refine Below.setCell ?_ ?_ _ | refine Below.alloc ?_ ?_ _ | refine Below.drew ?_ | refine below_drewN ?_ _ | refine Below.trans ?_ (Below.mono a ?_) | refine Below.trans ?_ (Below.mono b ?_)); all_goals exact side) : p := h a b
theorem bel3 {q0 q1 q2 p : Prop} (a : q0) (b : q1) (c : q2) (h : q0 → q1 → q2 → p := by intro a b c; have z0 := Below.size a; (try simp at z0); have z1 := Below.size b; (try simp at z1); have z2 := Below.size c; (try simp at z2); (repeat' with_reducible first | exact Below.refl _ _ | assumption | refine Below.setCell ?_ ?_ _ | refine Below.alloc ?_ ?_ _ | refine Below.drew ?_ | refine below_drewN ?_ _ | refine Below.trans ?_ (Below.mono a ?_) | refine Below.trans ?_ (Below.mono b ?_) | refine Below.trans ?_ (Below.mono c ?_)); all_goals exact side) : p := h a b c
theorem bel4 {q0 q1 q2 q3 p : Prop} (a : q0) (b : q1) (c : q2) (d : q3) (h : q0 → q1 → q2 → q3 → p := by intro a b c d; have z0 := Below.size a; (try simp at z0); have z1 := Below.size b; (try simp at z1); have z2 := Below.size c; (try simp at z2); have z3 := Below.size d; (try simp at z3); (repeat' with_reducible first | exact Below.refl _ _ | assumption | refine Below.setCell ?_ ?_ _ | refine Below.alloc ?_ ?_ _ | refine Below.drew ?_ | refine below_drewN ?_ _ | refine Below.trans ?_ (Below.mono a ?_) | refine Below.trans ?_ (Below.mono b ?_) | refine Below.trans ?_ (Below.mono c ?_) | refine Below.trans ?_ (Below.mono d ?_)); all_goals exact side) : p := h a b c d
theorem bel5 {q0 q1 q2 q3 q4 p : Prop} (a : q0) (b : q1) (c : q2) (d : q3) (e : q4) (h : q0 → q1 → q2 → q3 → q4 → p := by intro a b c d e; have z0 := Below.size a; (try simp at z0); have z1 := Below.size b; (try simp at z1); have z2 := Below.size c; (try simp at z2); have z3 := Below.size d; (try simp at z3); have z4 := Below.size e; (try simp at z4); (repeat' with_reducible first | exact Below.refl _ _ | assumption | refine Below.setCell ?_ ?_ _ | refine Below.alloc ?_ ?_ _ | refine Below.drew ?_ | refine below_drewN ?_ _ | refine Below.trans ?_ (Below.mono a ?_) | refine Below.trans ?_ (Below.mono b ?_) | refine Below.trans ?_ (Below.mono c ?_) | refine Below.trans ?_ (Below.mono d ?_) | refine Below.trans ?_ (Below.mono e ?_)); all_goals exact side) : p := h a b c d e
theorem bel6 {q0 q1 q2 q3 q4 q5 p : Prop} (a : q0) (b : q1) (c : q2) (d : q3) (e : q4) (f : q5) (h : q0 → q1 → q2 → q3 → q4 → q5 → p := by intro a b c d e f; have z0 := Below.size a; (try simp at z0); have z1 := Below.size b; (try simp at z1); have z2 := Below.size c; (try simp at z2); have z3 := Below.size d; (try simp at z3); have z4 := Below.size e; (try simp at z4); have z5 := Below.size f; (try simp at z5); (repeat' with_reducible first | exact Below.refl _ _ | assumption | refine Below.setCell ?_ ?_ _ | refine Below.alloc ?_ ?_ _ | refine Below.drew ?_ | refine below_drewN ?_ _ | refine Below.trans ?_ (Below.mono a ?_) | refine Below.trans ?_ (Below.mono b ?_) | refine Below.trans ?_ (Below.mono c ?_) | refine Below.trans ?_ (Below.mono d ?_) | refine Below.trans ?_ (Below.mono e ?_) | refine Below.trans ?_ (Below.mono f ?_)); all_goals exact side) : p := h a b c d e f
theorem bel7 {q0 q1 q2 q3 q4 q5 q6 p : Prop} (a : q0) (b : q1) (c : q2) (d : q3) (e : q4) (f : q5) (g : q6) (h : q0 → q1 → q2 → q3 → q4 → q5 → q6 → p := by intro a b c d e f g; have z0 := Below.size a; (try simp at z0); have z1 := Below.size b; (try simp at z1); have z2 := Below.size c; (try simp at z2); have z3 := Below.size d; (try simp at z3); have z4 := Below.size e; (try simp at z4); have z5 := Below.size f; (try simp at z5); have z6 := Below.size g; (try simp at z6); (repeat' with_reducible first | exact Below.refl _ _ | assumption | refine Below.setCell ?_ ?_ _ | refine Below.alloc ?_ ?_ _ | refine Below.drew ?_ | refine below_drewN ?_ _ | refine Below.trans ?_ (Below.mono a ?_) | refine Below.trans ?_ (Below.mono b ?_) | refine Below.trans ?_ (Below.mono c ?_) | refine Below.trans ?_ (Below.mono d ?_) | refine Below.trans ?_ (Below.mono e ?_) | refine Below.trans ?_ (Below.mono f ?_) | refine Below.trans ?_ (Below.mono g ?_)); all_goals exact side) : p := h a b c d e f g

/-- The slice at A reads as l: its cells lie in blocks that are there. -/
def Rd (w : World) (A : Option Addr) (l : List Int) : Prop :=
  ∀ i, i < l.length → ∃ b off, A = some ⟨b, off, none⟩ ∧ b < w.heap.size ∧ w.cell? ⟨b, off + i, none⟩ = some (.int .i64 (nth l i))

theorem Rd.nil (w : World) (A : Option Addr) : Rd w A [] := fun i h => by simp at h
theorem Rd.at_ {w : World} {A : Option Addr} {l : List Int} (h : Rd w A l) (i : Nat) (hi : i < l.length) : ∃ b off, A = some ⟨b, off, none⟩ ∧ b < w.heap.size ∧ w.cell? ⟨b, off + i, none⟩ = some (.int .i64 (nth l i)) := h i hi
theorem Rd.keep {w w' : World} {B : Nat} {A : Option Addr} {l : List Int} (h : Rd w A l) (k : Below B w w') (hB : w.heap.size ≤ B) : Rd w' A l := fun i hi => by
  obtain ⟨b, off, e, hb, hc⟩ := h i hi
  exact ⟨b, off, e, Nat.lt_of_lt_of_le hb k.size, (k.cell (p := ⟨b, off + i, none⟩) (Nat.lt_of_lt_of_le hb hB)).trans hc⟩
theorem Rd.grows {w w' : World} {A : Option Addr} {l : List Int} (h : Rd w A l) (k : Grows w w') : Rd w' A l := Rd.keep h k (Nat.le_refl _)
theorem Rd.alloc {w : World} {A : Option Addr} {l : List Int} (h : Rd w A l) (o : Obj) : Rd (w.alloc o) A l := h.grows ((Below.refl _ _).alloc (Nat.le_refl _) o)
theorem Rd.drew {w : World} {A : Option Addr} {l : List Int} (h : Rd w A l) : Rd w.drew A l := h
theorem Rd.slice {w : World} {A : Option Addr} {l : List Int} (h : Rd w A l) (lo hi : Nat) (hlo : lo ≤ hi) (hhi : hi ≤ l.length) (cap : Nat) (hc : l.length ≤ cap) :
    Rd w (if cap = lo then A else A.map (·.add (lo * 1))) ((l.take hi).drop lo) := by
  intro i hi'
  simp at hi'
  have hlt : lo + i < hi := by omega
  obtain ⟨b, off, rfl, hb, hcell⟩ := h (lo + i) (by omega)
  rw [if_neg (by omega)]
  refine ⟨b, off + lo, ?_, hb, ?_⟩
  · simp only [Option.map_some, Nat.mul_one]
    unfold Addr.add
    by_cases e : lo = 0 <;> simp [e]
  · rw [Nat.add_assoc, hcell]
    congr 2
    unfold nth
    simp only [List.getD_eq_getElem?_getD, List.getElem?_drop]
    rw [List.getElem?_take, if_pos hlt]

/-- A slice value that owns its row from block B on, and reads as l. -/
def Own (w : World) (B : Nat) (v : Value) (l : List Int) : Prop := w.ownsRow B 3 1 v l.length (l.map (Value.int .i64))

theorem Own.nil (w : World) (B : Nat) : Own w B (.slice none 0 0) [] := World.ownsRow_nil w B _ 1
theorem Own.form {w : World} {B : Nat} {v : Value} {l : List Int} (h : Own w B v l) (hl : 0 < l.length) : ∃ g cap, v = .slice (some ⟨g, 0, none⟩) l.length cap ∧ B ≤ g ∧ g < w.heap.size := by
  rcases h.2 with ⟨_, h0⟩ | ⟨g, cap, cur, rfl, hb, hg, _⟩
  · omega
  · exact ⟨g, cap, rfl, hb, (Array.getElem?_eq_some_iff.1 hg).1⟩
theorem Own.val {w : World} {B : Nat} {v : Value} {l : List Int} (h : Own w B v l) : ∃ A cap, v = .slice A l.length cap ∧ Rd w A l ∧ l.length ≤ cap := by
  rcases h.2 with ⟨rfl, h0⟩ | ⟨g, cap, cur, rfl, hb, hg, hn, hm, hcs, htake⟩
  · have : l = [] := List.eq_nil_of_length_eq_zero h0
    subst this
    exact ⟨none, 0, rfl, Rd.nil _ _, Nat.le_refl _⟩
  · refine ⟨some ⟨g, 0, none⟩, cap, rfl, fun i hi => ⟨g, 0, rfl, (Array.getElem?_eq_some_iff.1 hg).1, ?_⟩, hn⟩
    have := World.ownsRow.cellAt (w := w) (base := B) (e := 3) (size := 1) (g := g) (n := l.length) (cap := cap) (xs := l.map (Value.int .i64)) h i (by omega)
    rw [Nat.zero_add, this, List.getElem?_map, nth_eq l i hi]
    rfl
theorem Own.cell {w : World} {B g n cap : Nat} {l : List Int} (h : Own w B (.slice (some ⟨g, 0, none⟩) n cap) l) (i : Nat) (hi : i < l.length) : w.cell? ⟨g, i, none⟩ = some (.int .i64 (nth l i)) := by
  obtain ⟨g', cap', e, _, _⟩ := Own.form h (by omega)
  simp only [Value.slice.injEq, Option.some.injEq, Addr.mk.injEq, and_true] at e
  obtain ⟨rfl, rfl, rfl⟩ := e
  have := World.ownsRow.cellAt (w := w) (base := B) (e := 3) (size := 1) (g := g) (n := l.length) (cap := cap) (xs := l.map (Value.int .i64)) h i (by omega)
  rw [this, List.getElem?_map, nth_eq l i hi]
  rfl
theorem Own.free {w : World} {B g n cap : Nat} {l : List Int} (h : Own w B (.slice (some ⟨g, 0, none⟩) n cap) l) (i : Nat) : w.frozen? ⟨g, i, none⟩ = false := by
  rcases h.2 with ⟨h', _⟩ | ⟨g', cap', cur, h', _, hg, _⟩
  · simp at h'
  · simp only [Value.slice.injEq, Option.some.injEq, Addr.mk.injEq, and_true] at h'
    obtain ⟨rfl, _, _⟩ := h'
    exact frozen_of_row w g i cur _ hg
theorem Own.lt {w : World} {B g n cap : Nat} {l : List Int} (h : Own w B (.slice (some ⟨g, 0, none⟩) n cap) l) : B ≤ g ∧ g < w.heap.size := World.ownsRow.lt h g (by simp [Value.ownBlock])
theorem Own.grows {w w' : World} {B : Nat} {v : Value} {l : List Int} (h : Own w B v l) (k : Grows w w') : Own w' B v l := by
  refine ⟨h.1, ?_⟩
  rcases h.2 with hn | ⟨g, cap, cur, rfl, hb, hgg, rest⟩
  · exact .inl hn
  · exact .inr ⟨g, cap, cur, rfl, hb, by rw [k.block g (Array.getElem?_eq_some_iff.1 hgg).1]; exact hgg, rest⟩
theorem Own.alloc {w : World} {B : Nat} {v : Value} {l : List Int} (h : Own w B v l) (o : Obj) : Own (w.alloc o) B v l := h.grows ((Below.refl _ _).alloc (Nat.le_refl _) o)
theorem Own.drew {w : World} {B : Nat} {v : Value} {l : List Int} (h : Own w B v l) : Own w.drew B v l := h
theorem Own.drewN_ {w : World} {B : Nat} {v : Value} {l : List Int} (h : Own w B v l) {n : Nat} : Own (w.drewN n) B v l := h
theorem Rd.drewN_ {w : World} {A : Option Addr} {l : List Int} (h : Rd w A l) {n : Nat} : Rd (w.drewN n) A l := h
theorem Own.less {w : World} {B B' : Nat} {v : Value} {l : List Int} (h : Own w B v l) (hB : B' ≤ B) : Own w B' v l := by
  refine ⟨h.1, ?_⟩
  rcases h.2 with hn | ⟨g, cap, cur, rfl, hb, rest⟩
  · exact .inl hn
  · exact .inr ⟨g, cap, cur, rfl, by omega, rest⟩
/-- A store into the row itself. -/
theorem Own.set {w : World} {B g cap : Nat} {l : List Int} (h : Own w B (.slice (some ⟨g, 0, none⟩) l.length cap) l) (i : Nat) (x : Int) :
    Own (w.setCell ⟨g, i, none⟩ (.int .i64 x)) B (.slice (some ⟨g, 0, none⟩) l.length cap) (l.set i x) := by
  have := (World.ownsRow.stored (w := w) (base := B) (e := 3) (size := 1) (g := g) (n := l.length) (cap := cap) (xs := l.map (Value.int .i64)) h i (.int .i64 x)).1
  unfold Own
  rw [List.length_set, List.map_set]
  exact this
/-- A store elsewhere. -/
theorem Own.far {w : World} {B : Nat} {v : Value} {l : List Int} (h : Own w B v l) {p : Addr} (hp : ∀ g, v.ownBlock = some g → g ≠ p.block) (u : Value) : Own (w.setCell p u) B v l := by
  refine ⟨h.1, ?_⟩
  rcases h.2 with hn | ⟨g, cap, cur, rfl, hb, hgg, rest⟩
  · exact .inl hn
  · exact .inr ⟨g, cap, cur, rfl, hb, by rw [Below.heap_setCell _ _ _ _ (hp g rfl)]; exact hgg, rest⟩
/-- A store below the base. -/
theorem Own.low {w : World} {B : Nat} {v : Value} {l : List Int} (h : Own w B v l) {p : Addr} (hp : p.block < B) (u : Value) : Own (w.setCell p u) B v l := by
  refine ⟨h.1, ?_⟩
  rcases h.2 with hn | ⟨g, cap, cur, rfl, hb, hgg, rest⟩
  · exact .inl hn
  · exact .inr ⟨g, cap, cur, rfl, hb, by rw [Below.heap_setCell _ _ _ _ (by omega)]; exact hgg, rest⟩
/-- own rows over stores below their base, new blocks, draws -/
theorem ownl {q p : Prop} (a : q) (h : q → p := by intro a; refine Own.less (B := ?OB) ?_ ?_; (repeat' with_reducible first | exact a | refine Own.alloc ?_ _ | refine Own.drew ?_ | refine Own.low ?_ ?_ _); all_goals exact side) : p := h a
theorem Own.of_lit (w : World) (B : Nat) (hB : B ≤ w.heap.size) (l : List Int) (h : l.length ≤ maxLen) :
    Own (w.alloc (.cells (l.map (Value.int .i64)).toArray 3)) B (.slice (some ⟨w.heap.size, 0, none⟩) l.length l.length) l := by
  have := World.ownsRow_lit (w := w) (base := B) (e := 3) (size := 1) (l.map (Value.int .i64)).toArray l.length hB h (by simp)
  exact this

theorem only_setCell {a w : World} {row : Option Nat} (h : a.grownBy w row) {p : Addr} (hp : row = some p.block) (u : Value) : a.grownBy (w.setCell p u) row :=
  ⟨h.os, h.tape, h.output, by simpa [World.setCell] using h.size, fun i hi hne => (Below.heap_setCell w p u i (fun e => hne (by rw [hp, e]))).trans (h.block i hi hne)⟩
theorem only_alloc_left {a w : World} {row : Option Nat} {o : Obj} (h : (a.alloc o).grownBy w row) : a.grownBy w row :=
  ⟨h.os, h.tape, h.output, Nat.le_trans (by simp) h.size, fun i hi hne => (h.block i (by simp; omega) hne).trans (Below.heap_alloc a o i hi)⟩
theorem only_left {a b c : World} {row : Option Nat} (h : Grows a b) (k : b.grownBy c row) : a.grownBy c row :=
  ⟨k.os.trans h.os, k.tape.trans h.tape, k.output.trans h.output, Nat.le_trans h.size k.size, fun i hi hne => (k.block i (Nat.lt_of_lt_of_le hi h.size) hne).trans (h.block i hi)⟩
theorem only_right {a b c : World} {row : Option Nat} (h : a.grownBy b row) (k : Grows b c) : a.grownBy c row :=
  ⟨k.os.trans h.os, k.tape.trans h.tape, k.output.trans h.output, Nat.le_trans h.size k.size, fun i hi hne => (k.block i (Nat.lt_of_lt_of_le hi h.size)).trans (h.block i hi hne)⟩

/-- The row of the type int. -/
theorem info_int : (Try.prog.info? 3).map (fun i => (i.zero, i.size, i.bytes)) = some (some (.int .i64 0), 1, 8) := by kernel_rfl

theorem bcell {B : Nat} {W w1 : World} (hb : Below B W w1) : (∀ b o, b < B → w1.cell? ⟨b, o, none⟩ = W.cell? ⟨b, o, none⟩) ∧ (∀ b o, b < B → w1.frozen? ⟨b, o, none⟩ = W.frozen? ⟨b, o, none⟩) :=
  ⟨fun b o h => hb.cell (p := ⟨b, o, none⟩) h, fun b o h => hb.frozen (p := ⟨b, o, none⟩) h⟩

theorem ret_int {k : IntKind} {a b : Int} (h : a = b) : Ending.returned (.int k a) = .returned (.int k b) := by rw [h]
theorem ret_bool {a b : Bool} (h : a = b) : Ending.returned (.bool a) = .returned (.bool b) := by rw [h]

end Go.Proofs.Ythajmffhgbenpaa

/- Contracts: functions of integers alone. -/
namespace Go.Proofs.Ythajmffhgbenpaa
set_option linter.unusedSimpArgs false
set_option linter.unusedVariables false
open Go.RowKit

/-- lo <= x <= hi -/
def inB (x lo hi : Int) : Bool := decide (lo ≤ x) && decide (x ≤ hi)
theorem inB_iff (x lo hi : Int) : inB x lo hi = true ↔ lo ≤ x ∧ x ≤ hi := by simp [inB]
theorem inB_no (x lo hi : Int) : inB x lo hi = false ↔ x < lo ∨ hi < x := by
  unfold inB
  by_cases h1 : lo ≤ x <;> by_cases h2 : x ≤ hi <;> simp [h1, h2] <;> omega
/-- Within the limit. -/
def isNum (x : Int) : Bool := inB x (-400000000) 400000000
theorem isNum_iff (x : Int) : isNum x = true ↔ -400000000 ≤ x ∧ x ≤ 400000000 := inB_iff _ _ _
theorem isNum_no (x : Int) : isNum x = false ↔ x < -400000000 ∨ 400000000 < x := inB_no _ _ _

theorem l1In_c (x lo hi : Int) (w : World) :
    Calls Try.prog 102 #[.int .i64 x, .int .i64 lo, .int .i64 hi] w fun e w' => e = .returned (.bool (inB x lo hi)) ∧ w = w' := by
  by_cases h1 : lo ≤ x
  · by_cases h2 : x ≤ hi
    · rw [(inB_iff x lo hi).2 ⟨h1, h2⟩]
      go_enter Try.func102, Try.ntmps102
      go_wp2
      go_ret
      exact ⟨by simp, rfl⟩
    · rw [(inB_no x lo hi).2 (.inr (by omega))]
      go_enter Try.func102, Try.ntmps102
      go_wp2
      go_ret
      exact ⟨by simp, rfl⟩
  · rw [(inB_no x lo hi).2 (.inl (by omega))]
    go_enter Try.func102, Try.ntmps102
    go_wp2
    go_ret
    exact ⟨by simp, rfl⟩

theorem sIsNumber_c (x : Int) (w : World) :
    Calls Try.prog 95 #[.int .i64 x] w fun e w' => e = .returned (.bool (isNum x)) ∧ w = w' := by
  go_enter Try.func95, Try.ntmps95
  go_wp2_with (go_at_call 102; refine (l1In_c x _ _ _).mono ?_; rintro e w' ⟨rfl, rfl⟩)
  go_ret
  exact ⟨rfl, rfl⟩

theorem iIsNumber_c (x : Int) (w : World) :
    Calls Try.prog 33 #[.int .i64 x] w fun e w' => e = .returned (.bool (isNum x)) ∧ w = w' := by
  by_cases h1 : -400000000 ≤ x
  · by_cases h2 : x ≤ 400000000
    · rw [(isNum_iff x).2 ⟨h1, h2⟩]
      go_enter Try.func33, Try.ntmps33
      go_wp2
      go_ret
      exact ⟨by simp, rfl⟩
    · rw [(isNum_no x).2 (.inr (by omega))]
      go_enter Try.func33, Try.ntmps33
      go_wp2
      go_ret
      exact ⟨by simp, rfl⟩
  · rw [(isNum_no x).2 (.inl (by omega))]
    go_enter Try.func33, Try.ntmps33
    go_wp2
    go_ret
    exact ⟨by simp, rfl⟩

/-- The reference's mark of a number beyond the limit. -/
def bad : Int := -4611686018427387904
def fit (n : Int) : Int := if isNum n then n else bad
theorem fit_yes {n : Int} (h : isNum n = true) : fit n = n := by simp [fit, h]
theorem fit_no {n : Int} (h : isNum n = false) : fit n = bad := by simp [fit, h]
def addB (a b : Int) : Int := if a = bad ∨ b = bad then bad else fit (a + b)
def mulB (a b : Int) : Int := if a = bad ∨ b = bad then bad else fit (a * b)
theorem bad_not : isNum bad = false := by decide
theorem num_ne_bad {x : Int} (h : isNum x = true) : x ≠ bad := fun e => by rw [e, bad_not] at h; cases h
theorem fit_bad_iff (n : Int) : fit n = bad ↔ isNum n = false := by
  unfold fit
  cases h : isNum n
  · simp
  · simp; exact num_ne_bad h

theorem l1Fit_c (x : Int) (w : World) :
    Calls Try.prog 96 #[.int .i64 x] w fun e w' => e = .returned (.int .i64 (fit x)) ∧ w = w' := by
  cases h : isNum x
  · rw [fit_no h]
    have C := fun w => l1In_c x (-400000000) 400000000 w
    rw [show inB x (-400000000) 400000000 = false from h] at C
    have HC := Lib.hid C; clear C h
    go_enter Try.func96, Try.ntmps96
    go_wp2_with (go_at_call 102; refine (HC.out _).mono ?_; rintro e w' ⟨rfl, rfl⟩)
    go_ret
    exact ⟨rfl, rfl⟩
  · rw [fit_yes h]
    have C := fun w => l1In_c x (-400000000) 400000000 w
    rw [show inB x (-400000000) 400000000 = true from h] at C
    have HC := Lib.hid C; clear C h
    go_enter Try.func96, Try.ntmps96
    go_wp2_with (go_at_call 102; refine (HC.out _).mono ?_; rintro e w' ⟨rfl, rfl⟩)
    go_ret
    exact ⟨rfl, rfl⟩

def absI (x : Int) : Int := if x < 0 then -x else x
theorem absI_pos (x : Int) : 0 ≤ absI x := by unfold absI; split <;> omega
theorem absI_le (x y : Int) : absI x ≤ y ↔ x ≤ y ∧ -x ≤ y := by unfold absI; split <;> omega

theorem absInt_c (x : Int) (w : World) (_h : -4611686018427387904 ≤ x) :
    Calls Try.prog 118 #[.int .i64 x] w fun e w' => e = .returned (.int .i64 (absI x)) ∧ w = w' := by
  unfold absI
  by_cases h1 : x < 0
  · go_enter Try.func118, Try.ntmps118
    go_wp2
    go_ret
    exact ⟨by simp, rfl⟩
  · go_enter Try.func118, Try.ntmps118
    go_wp2
    go_ret
    exact ⟨by simp, rfl⟩

theorem l1Abs_c (x : Int) (w : World) (_h : -4611686018427387904 ≤ x) (_h2 : x ≤ 4611686018427387904) :
    Calls Try.prog 148 #[.int .i64 x] w fun e w' => e = .returned (.int .i64 (absI x)) ∧ w = w' := by
  unfold absI
  by_cases h1 : x < 0
  · go_enter Try.func148, Try.ntmps148
    go_wp2
    all_goals go_ret
    all_goals exact ⟨ret_int (by first | rfl | simp | omega), rfl⟩
  · go_enter Try.func148, Try.ntmps148
    go_wp2
    all_goals go_ret
    all_goals exact ⟨ret_int (by first | rfl | simp | omega), rfl⟩

theorem addB_bad_left (b : Int) : addB bad b = bad := by simp [addB]
theorem addB_bad_right (a : Int) : addB a bad = bad := by simp [addB]
theorem addB_num {a b : Int} (ha : isNum a = true) (hb : isNum b = true) : addB a b = fit (a + b) := by simp [addB, num_ne_bad ha, num_ne_bad hb]
theorem mulB_bad_left (b : Int) : mulB bad b = bad := by simp [mulB]
theorem mulB_bad_right (a : Int) : mulB a bad = bad := by simp [mulB]
theorem mulB_num {a b : Int} (ha : isNum a = true) (hb : isNum b = true) : mulB a b = fit (a * b) := by simp [mulB, num_ne_bad ha, num_ne_bad hb]
theorem mul_bd {a b : Int} (ha : isNum a = true) (hb : isNum b = true) : -160000000000000000 ≤ a * b ∧ a * b ≤ 160000000000000000 := by
  obtain ⟨h1, h2⟩ := (isNum_iff a).1 ha
  obtain ⟨h3, h4⟩ := (isNum_iff b).1 hb
  have ha' : a.natAbs ≤ 400000000 := by omega
  have hb' : b.natAbs ≤ 400000000 := by omega
  have h := Nat.mul_le_mul ha' hb'
  rw [← Int.natAbs_mul] at h
  omega

theorem l1Add_c (a b : Int) (w : World) (ha : a = bad ∨ isNum a = true) (hb : b = bad ∨ isNum b = true) :
    Calls Try.prog 97 #[.int .i64 a, .int .i64 b] w fun e w' => e = .returned (.int .i64 (addB a b)) ∧ w = w' := by
  rcases ha with rfl | ha
  · rw [addB_bad_left]
    unfold bad
    go_enter Try.func97, Try.ntmps97
    go_wp2_with fail
    go_ret
    exact ⟨rfl, rfl⟩
  · rcases hb with rfl | hb
    · rw [addB_bad_right]
      have h1 := (isNum_iff a).1 ha
      unfold bad
      clear ha
      go_enter Try.func97, Try.ntmps97
      go_wp2_with fail
      go_ret
      exact ⟨rfl, rfl⟩
    · rw [addB_num ha hb]
      have h1 := (isNum_iff a).1 ha
      have h2 := (isNum_iff b).1 hb
      have e1 : (a == -4611686018427387904) = false := by rw [beq_eq_false_iff_ne]; omega
      have e2 : (b == -4611686018427387904) = false := by rw [beq_eq_false_iff_ne]; omega
      clear ha hb
      go_enter Try.func97, Try.ntmps97
      go_wp2_with (go_at_call 96; refine (l1Fit_c _ _).mono ?_; rintro e w' ⟨rfl, rfl⟩)
      go_ret
      exact ⟨rfl, rfl⟩

theorem l1Mul_c (a b : Int) (w : World) (ha : a = bad ∨ isNum a = true) (hb : b = bad ∨ isNum b = true) :
    Calls Try.prog 98 #[.int .i64 a, .int .i64 b] w fun e w' => e = .returned (.int .i64 (mulB a b)) ∧ w = w' := by
  rcases ha with rfl | ha
  · rw [mulB_bad_left]
    unfold bad
    go_enter Try.func98, Try.ntmps98
    go_wp2_with fail
    go_ret
    exact ⟨rfl, rfl⟩
  · rcases hb with rfl | hb
    · rw [mulB_bad_right]
      have h1 := (isNum_iff a).1 ha
      unfold bad
      clear ha
      go_enter Try.func98, Try.ntmps98
      go_wp2_with fail
      go_ret
      exact ⟨rfl, rfl⟩
    · rw [mulB_num ha hb]
      have h1 := (isNum_iff a).1 ha
      have h2 := (isNum_iff b).1 hb
      have h3 := mul_bd ha hb
      have e1 : (a == -4611686018427387904) = false := by rw [beq_eq_false_iff_ne]; omega
      have e2 : (b == -4611686018427387904) = false := by rw [beq_eq_false_iff_ne]; omega
      clear ha hb
      go_enter Try.func98, Try.ntmps98
      go_wp2_with (go_at_call 96; refine (l1Fit_c _ _).mono ?_; rintro e w' ⟨rfl, rfl⟩)
      go_ret
      exact ⟨rfl, rfl⟩
end Go.Proofs.Ythajmffhgbenpaa

/- Contract: are all numbers of a slice within the limit? -/
namespace Go.Proofs.Ythajmffhgbenpaa
set_option linter.unusedSimpArgs false
set_option linter.unusedVariables false
open Go.RowKit

def allNum (l : List Int) : Bool := l.all isNum
theorem allNum_iff (l : List Int) : allNum l = true ↔ ∀ i, i < l.length → isNum (nth l i) = true := by
  unfold allNum
  rw [List.all_eq_true]
  constructor
  · intro h i hi
    rw [nth_get l i hi]
    exact h _ (List.getElem_mem hi)
  · intro h x hx
    obtain ⟨i, hi, rfl⟩ := List.getElem_of_mem hx
    have := h i hi
    rwa [nth_get l i hi] at this
theorem allNum_no {l : List Int} {i : Nat} (hi : i < l.length) (h : isNum (nth l i) = false) : allNum l = false := by
  cases e : allNum l
  · rfl
  · have := (allNum_iff l).1 e i hi
    rw [h] at this; cases this

theorem areNumbers_c (A : Option Addr) (l : List Int) (n c : Nat) (w : World) (hn : l.length = n) (ha : Rd w A l) (hl : n ≤ 1099511627776) :
    Calls Try.prog 64 #[.slice A n c] w fun e w' => e = .returned (.bool (allNum l)) ∧ w = w' := by
  subst hn
  have HN := Lib.hid fun w x => iIsNumber_c x w
  go_enter Try.func64, Try.ntmps64
  go_wp2_with fail
  go_loop [7] (fun k => ∃ (i : Nat), k = .int .i64 i ∧ i ≤ l.length ∧ ∀ t, t < i → isNum (nth l t) = true) (fun k => l.length - (intOf k).toNat)
  case atStart => exact ⟨0, rfl, Nat.zero_le _, fun t h => by omega⟩
  case round =>
    obtain ⟨i, rfl, hi, hnum⟩ := hrel
    have HU := Lib.hid hnum
    clear hnum
    by_cases hlt : i < l.length
    · obtain ⟨b, o, rfl, hbs, hc⟩ := ha.at_ i hlt
      cases h1 : isNum (nth l i)
      · have H1 := Lib.hid fun w => HN.out w (nth l i)
        have hno := Lib.hid (allNum_no hlt h1)
        rw [h1] at H1
        clear h1
        go_wp2_with (go_at_call 33; refine (H1.out _).mono ?_; rintro e w' ⟨rfl, rfl⟩)
        go_ret
        exact ⟨by rw [hno.out]; rfl, rfl⟩
      · have H1 := Lib.hid fun w => HN.out w (nth l i)
        have K1 := Lib.hid h1
        rw [h1] at H1
        clear h1
        go_wp2_with (go_at_call 33; refine (H1.out _).mono ?_; rintro e w' ⟨rfl, rfl⟩)
        go_round
        case rel => exact ⟨i + 1, by go_num, by omega, fun t ht => by (by_cases e : t = i); (· subst e; exact K1.out); (· exact HU.out t (by omega))⟩
        case measure => simp [intOf]; omega
    · obtain rfl : i = l.length := by omega
      have hok := Lib.hid ((allNum_iff l).2 HU.out)
      go_wp2_with fail
      go_ret
      exact ⟨by rw [hok.out]; rfl, rfl⟩
end Go.Proofs.Ythajmffhgbenpaa

/- Appending integers to a row of the call's own. -/
namespace Go.Proofs.Ythajmffhgbenpaa
set_option linter.unusedSimpArgs false
set_option linter.unusedVariables false
open Go.RowKit

theorem Own.mk_empty (w : World) (B : Nat) (hB : B ≤ w.heap.size) : Own (w.alloc (.cells #[] 3)) B (.slice (some ⟨w.heap.size, 0, none⟩) 0 0) [] := by
  have := Own.of_lit w B hB [] (by simp)
  simpa using this

/-- append of the integers at a slice that reads as m. -/
theorem run_app (w : World) (ty : TypeId) (B : Nat) (v : Value) (l : List Int) (hown : Own w B v l) (A : Option Addr) (m : List Int) (c : Nat) (hr : Rd w A m)
    (hl : l.length + m.length ≤ 1099511627776) (hB : B ≤ w.heap.size) :
    ∃ v' w', (Builtin.append_ #[24, 24] ty #[v, .slice A m.length c]).run Try.prog w = .ok v' w' ∧ Own w' B v' (l ++ m) ∧ w.grownBy w' v.ownBlock ∧ (v'.ownBlock = v.ownBlock ∨ v'.ownBlock = some w.heap.size) := by
  obtain ⟨i0, hi0, hz0, hz1, hz2⟩ := info_parts info_int
  by_cases hm : m = []
  · subst hm
    rcases A with _ | ad
    · refine ⟨v, w, ?_, by simpa using hown, World.grownBy.refl w _, .inl rfl⟩
      rcases hown.2 with ⟨rfl, h0⟩ | ⟨g, cap, cur, rfl, _, _, hnc, _⟩
      · simp [Builtin.append_, run_underlying Try.underlying24, sizeOf, typeInfo, hi0, Builtin.lenOf, Builtin.firstCells]
      · simp [Builtin.append_, run_underlying Try.underlying24, sizeOf, typeInfo, hi0, Builtin.lenOf, Builtin.firstCells, hnc, storeCells]
    · obtain ⟨v', w', hrun, h2, h3, _, h5⟩ := run_append_own_at (P := Try.prog) w B 24 ty 3 i0 (.int .i64 0) 1 8 Try.underlying24 hi0 hz0 hz1 hz2 rfl (by omega) v l.length (l.map (Value.int .i64)) hown
        ad 0 c [] (by simp) (by simp) (by simp) (by simp [maxLen] at *; omega) (by simp at hl; omega) hB
      exact ⟨v', w', hrun, by unfold Own; simpa using h2, h3, h5⟩
  · have hpos : 0 < m.length := List.length_pos_iff.2 hm
    obtain ⟨b, off, rfl, _, _⟩ := hr 0 hpos
    have hcell : ∀ j u, (m.map (Value.int .i64))[j]? = some u → w.cell? ((⟨b, off, none⟩ : Addr).add j) = some u := by
      intro j u hu
      rw [List.getElem?_map] at hu
      obtain ⟨x, hx, rfl⟩ := Option.map_eq_some_iff.1 hu
      have hj : j < m.length := (List.getElem?_eq_some_iff.1 hx).1
      obtain ⟨b', off', e, _, hc⟩ := hr j hj
      simp only [Option.some.injEq, Addr.mk.injEq, and_true] at e
      obtain ⟨rfl, rfl⟩ := e
      have hn : nth m j = x := by have := nth_eq m j hj; rw [hx] at this; exact (Option.some.inj this).symm
      rw [hn] at hc
      rw [← hc]
      unfold Addr.add
      by_cases e : j = 0 <;> simp [e]
    obtain ⟨v', w', hrun, h2, h3, _, h5⟩ := run_append_own_at (P := Try.prog) w B 24 ty 3 i0 (.int .i64 0) 1 8 Try.underlying24 hi0 hz0 hz1 hz2 rfl (by omega) v l.length (l.map (Value.int .i64)) hown
      ⟨b, off, none⟩ m.length c (m.map (Value.int .i64)) (by simp) hcell (ints_oneCell .i64 m) (by simp [maxLen]; omega) (by omega) hB
    exact ⟨v', w', hrun, by unfold Own; rw [List.length_append, List.map_append]; exact h2, h3, h5⟩

theorem wpList_app {ops : Array Oper} {rest : List Oper} {o : Oper} {a : Act} {Q : Exit → Act → World → Prop} (hgd : o.guard = none) (s x : Operand)
    (ho : o.op = .call { callee := .builtin .append, args := #[s, x], argTypes := #[24, 24] }) (w : World)
    (B : Nat) (v : Value) (l : List Int) (hs : a.eval s = v) (hown : Own w B v l) (A : Option Addr) (m : List Int) (n c : Nat) (hx : a.eval x = .slice A n c) (hn : m.length = n) (hr : Rd w A m)
    (hl : l.length + m.length ≤ 1099511627776) (hB : B ≤ w.heap.size)
    (h : ∀ v' w', Own w' B v' (l ++ m) → w.grownBy w' v.ownBlock → (v'.ownBlock = v.ownBlock ∨ v'.ownBlock = some w.heap.size) → wpList Try.prog ops Q rest (a.put o.dst v') w') : wpList Try.prog ops Q (o :: rest) a w := by
  subst hn
  obtain ⟨v', w', hrun, h2, h3, h4⟩ := run_app w o.type B v l hown A m c hr hl hB
  refine wpList_plain hgd fun _ hK => ?_
  unfold Oper.wp execOp
  simp only [ho, resolve, invoke, builtin, Sem.run_bind, Sem.run_pure, Result.andThen_ok, List.map_toArray, List.map_cons, List.map_nil, hs, hx, hrun]
  exact hK _ _ (h v' w' h2 h3 h4)

/-- A one-cell block, as append's new element comes. -/
theorem Rd.one (w : World) (x : Int) : Rd (w.alloc (.cells #[.int .i64 x] 3)) (some ⟨w.heap.size, 0, none⟩) [x] := by
  intro i hi
  simp at hi
  subst hi
  exact ⟨w.heap.size, 0, rfl, by simp, by simp [go_sem, nth]⟩

/-- out = append(out, x): the new element lies in a new block of one cell. -/
theorem wpList_app1 {ops : Array Oper} {rest : List Oper} {o : Oper} {a : Act} {Q : Exit → Act → World → Prop} (hgd : o.guard = none) (s x : Operand)
    (ho : o.op = .call { callee := .builtin .append, args := #[s, x], argTypes := #[24, 24] }) (w : World) (z : Int)
    (B : Nat) (v : Value) (l : List Int) (hs : a.eval s = v) (hown : Own w B v l) (hx : a.eval x = .slice (some ⟨w.heap.size, 0, none⟩) 1 1)
    (hl : l.length + 1 ≤ 1099511627776) (hB : B ≤ w.heap.size)
    (h : ∀ v' w', Own w' B v' (l ++ [z]) → w.grownBy w' v.ownBlock → (v'.ownBlock = v.ownBlock ∨ ∃ g, v'.ownBlock = some g ∧ w.heap.size ≤ g) → wpList Try.prog ops Q rest (a.put o.dst v') w') :
    wpList Try.prog ops Q (o :: rest) a (w.alloc (.cells #[.int .i64 z] 3)) := by
  refine wpList_app hgd s x ho _ B v l hs (hown.alloc _) _ [z] 1 1 hx rfl (Rd.one w z) (by simpa using hl) (by simp; omega) fun v' w' h1 h2 h3 => h v' w' h1 ?_ ?_
  · exact ⟨h2.os, h2.tape, h2.output, Nat.le_trans (by simp) h2.size, fun k hk hne => (h2.block k (by simp; omega) hne).trans (Below.heap_alloc w _ k hk)⟩
  · rcases h3 with h3 | h3
    · exact .inl h3
    · exact .inr ⟨_, h3, by simp⟩

/-- What an append leaves below the row's base is as it was. -/
theorem below_app {B : Nat} {w w' : World} {v : Value} {l : List Int} (hown : Own w B v l) (hB : B ≤ w.heap.size) (h : w.grownBy w' v.ownBlock) : Below B w w' :=
  (Below.refl _ _).grown h hB fun k hk => (World.ownsRow.lt hown k hk).1
end Go.Proofs.Ythajmffhgbenpaa

/- Regions that draw their order and hold calls that make memory: a world that has grown out of w. -/
namespace Go.Proofs.Ythajmffhgbenpaa
set_option linter.unusedSimpArgs false
set_option linter.unusedVariables false
open Go.RowKit

open Classical in
/-- W where it has grown out of w, else w itself: so it has always grown out of w. -/
noncomputable def ext (w W : World) : World := if Grows w W then W else w
theorem ext_grows (w W : World) : Grows w (ext w W) := by
  unfold ext
  split
  · assumption
  · exact Grows.refl w
theorem grows_of_ext {w W w' : World} (h : w' = ext w W) : Grows w w' := h ▸ ext_grows w W
theorem ext_of {w W : World} (h : Grows w W) : ext w W = W := by unfold ext; rw [if_pos h]
theorem ext_cell {w : World} {b o : Nat} (h : b < w.heap.size) (W : World) : (ext w W).cell? ⟨b, o, none⟩ = w.cell? ⟨b, o, none⟩ := (ext_grows w W).cell (p := ⟨b, o, none⟩) h
theorem ext_is {w : World} {b o : Nat} {v : Value} (h : w.cell? ⟨b, o, none⟩ = some v) (W : World) : (ext w W).cell? ⟨b, o, none⟩ = some v :=
  (ext_cell (World.block_lt_of_cell? w _ h) W).trans h

theorem wp_region_ext {P : Program} {id : Nat} {Q : Exit → Act → World → Prop} {a : Act} {w : World} {l : List Oper} (hm : P.follows .mixedOrders = true) (hB : Region.lexB .any l.toArray = true)
    (h : wpQuiet P l.toArray (fun w' => ∃ W, w' = ext w W) (fun a' => ∀ w', (∃ W, w' = ext w W) → Q .normal a' w') l a) : (Code.region id l.toArray true).wp P Q a w :=
  wp_region_quiet (C := fun w' => ∃ W, w' = ext w W) hm hB ⟨{ w with drawn := w.drawn + 1 }, (ext_of (Below.drew (Below.refl _ _))).symm⟩ (by simpa using h)

/-- A call in such a region: its contract says that the world grows. -/
theorem extC {P : Program} {f : FuncId} {args : Array Value} {w W : World} {v : Value} (h : Calls P f args (ext w W) fun e w' => e = .returned v ∧ Grows (ext w W) w') :
    Calls P f args (ext w W) fun e w'' => e = .returned v ∧ ∃ W', w'' = ext w W' :=
  h.mono fun _ w' ⟨he, hg⟩ => ⟨he, w', (ext_of (Grows.trans (ext_grows w W) hg)).symm⟩
/-- .. that the world is the same. -/
theorem extS {P : Program} {f : FuncId} {args : Array Value} {w W : World} {v : Value} (h : Calls P f args (ext w W) fun e w' => e = .returned v ∧ ext w W = w') :
    Calls P f args (ext w W) fun e w'' => e = .returned v ∧ ∃ W', w'' = ext w W' :=
  h.mono fun _ _ ⟨he, hg⟩ => ⟨he, W, hg.symm⟩
/-- A contract that hands the world back, in a region that only reads. -/
theorem quietL {P : Program} {f : FuncId} {args : Array Value} {w : World} {n : Nat} {v : Value} (h : Calls P f args (w.drewN n) fun e w' => e = .returned v ∧ w.drewN n = w') :
    Calls P f args (w.drewN n) fun e w'' => e = .returned v ∧ ∃ m, w'' = w.drewN m :=
  h.mono fun _ _ ⟨he, hg⟩ => ⟨he, n, hg.symm⟩

/-- .. behind earlier draws. -/
theorem quietA {P : Program} {f : FuncId} {args : Array Value} {w : World} {a n : Nat} {v : Value} (h : Calls P f args (w.drewN (a + n)) fun e w' => e = .returned v ∧ w.drewN (a + n) = w') :
    Calls P f args (w.drewN (a + n)) fun e w'' => e = .returned v ∧ ∃ m, w'' = w.drewN (a + m) :=
  h.mono fun _ _ ⟨he, hg⟩ => ⟨he, n, hg.symm⟩

theorem Rd.ext {w : World} {A : Option Addr} {l : List Int} (h : Rd w A l) (W : World) : Rd (ext w W) A l := h.grows (ext_grows w W)

/-- A variable of type Matrix: block b holds its three cells. -/
structure MBox (w : World) (b : Nat) (r c : Int) (v : Value) : Prop where
  lt : b < w.heap.size
  c0 : w.cell? ⟨b, 0, none⟩ = some (.int .i64 r)
  c1 : w.cell? ⟨b, 1, none⟩ = some (.int .i64 c)
  c2 : w.cell? ⟨b, 2, none⟩ = some v
  fz : ∀ o, w.frozen? ⟨b, o, none⟩ = false
theorem MBox.keep {w w' : World} {B b : Nat} {r c : Int} {v : Value} (h : MBox w b r c v) (k : Below B w w') (hB : b < B) : MBox w' b r c v :=
  ⟨Nat.lt_of_lt_of_le h.lt k.size, (k.cell (p := ⟨b, 0, none⟩) hB).trans h.c0, (k.cell (p := ⟨b, 1, none⟩) hB).trans h.c1, (k.cell (p := ⟨b, 2, none⟩) hB).trans h.c2, fun o => (k.frozen (p := ⟨b, o, none⟩) hB).trans (h.fz o)⟩
theorem MBox.grows {w w' : World} {b : Nat} {r c : Int} {v : Value} (h : MBox w b r c v) (k : Grows w w') : MBox w' b r c v := h.keep k h.lt
theorem MBox.mk_ (w : World) (r c : Int) (v : Value) (t : TypeId) : MBox (w.alloc (.cells #[.int .i64 r, .int .i64 c, v] t)) w.heap.size r c v :=
  ⟨by simp, by simp [go_sem], by simp [go_sem], by simp [go_sem], fun o => by simp [go_sem]⟩
theorem MBox.cells {w : World} {b : Nat} {r c : Int} {v : Value} (h : MBox w b r c v) :
    (w.cell? ⟨b, 0, none⟩ = some (.int .i64 r)) ∧ (w.cell? ⟨b, 1, none⟩ = some (.int .i64 c)) ∧ (w.cell? ⟨b, 2, none⟩ = some v) := ⟨h.c0, h.c1, h.c2⟩
theorem MBox.ext {w : World} {b : Nat} {r c : Int} {v : Value} (h : MBox w b r c v) :
    (∀ W, (ext w W).cell? ⟨b, 0, none⟩ = some (.int .i64 r)) ∧ (∀ W, (Proofs.Ythajmffhgbenpaa.ext w W).cell? ⟨b, 1, none⟩ = some (.int .i64 c)) ∧ (∀ W, (Proofs.Ythajmffhgbenpaa.ext w W).cell? ⟨b, 2, none⟩ = some v) :=
  ⟨ext_is h.c0, ext_is h.c1, ext_is h.c2⟩
end Go.Proofs.Ythajmffhgbenpaa

/- Tables of numbers row by row; no program in sight but for its name. -/
namespace Go.Proofs.Ythajmffhgbenpaa
set_option linter.unusedSimpArgs false
set_option linter.unusedVariables false

/-- The cells of a matrix of R rows and C columns, f i j in row i and column j. -/
def tab (R C : Nat) (f : Nat → Nat → Int) : List Int := (List.range (R * C)).map fun k => f (k / C) (k % C)
theorem tab_length (R C : Nat) (f : Nat → Nat → Int) : (tab R C f).length = R * C := by simp [tab]
theorem idx_lt {R C i j : Nat} (hi : i < R) (hj : j < C) : i * C + j < R * C := by
  have : (i + 1) * C ≤ R * C := Nat.mul_le_mul_right C hi
  rw [Nat.add_mul, Nat.one_mul] at this
  omega
theorem idx_div {C i j : Nat} (hj : j < C) : (i * C + j) / C = i := by
  rw [Nat.add_comm, Nat.add_mul_div_right _ _ (by omega), Nat.div_eq_of_lt hj, Nat.zero_add]
theorem idx_mod {C i j : Nat} (hj : j < C) : (i * C + j) % C = j := by
  rw [Nat.add_comm, Nat.add_mul_mod_self_right, Nat.mod_eq_of_lt hj]
theorem idx_split {R C k : Nat} (h : k < R * C) : k / C < R ∧ k % C < C ∧ k = k / C * C + k % C := by
  have hC : 0 < C := by
    rcases Nat.eq_zero_or_pos C with e | e
    · rw [e, Nat.mul_zero] at h; omega
    · exact e
  refine ⟨?_, Nat.mod_lt _ hC, ?_⟩
  · exact (Nat.div_lt_iff_lt_mul hC).2 h
  · have := Nat.div_add_mod k C
    rw [Nat.mul_comm] at this
    omega
theorem idx_inj {C i j i' j' : Nat} (hj : j < C) (hj' : j' < C) (h : i * C + j = i' * C + j') : i = i' ∧ j = j' := by
  have h1 := congrArg (· / C) h
  have h2 := congrArg (· % C) h
  simp only [idx_div hj, idx_div hj', idx_mod hj, idx_mod hj'] at h1 h2
  exact ⟨h1, h2⟩
theorem tab_nth {R C i j : Nat} (f : Nat → Nat → Int) (hi : i < R) (hj : j < C) : nth (tab R C f) (i * C + j) = f i j := by
  have hlt := idx_lt hi hj
  rw [nth_get _ _ (by rw [tab_length]; exact hlt)]
  simp only [tab, List.getElem_map, List.getElem_range, idx_div hj, idx_mod hj]
theorem tab_ext {R C : Nat} {f : Nat → Nat → Int} {m : List Int} (hm : m.length = R * C) (h : ∀ i j, i < R → j < C → nth m (i * C + j) = f i j) : m = tab R C f := by
  refine nth_ext (by rw [hm, tab_length]) fun k hk => ?_
  obtain ⟨h1, h2, h3⟩ := idx_split (R := R) (C := C) (k := k) (by omega)
  rw [h3, h _ _ h1 h2, tab_nth f h1 h2]
theorem tab_congr {R C : Nat} {f g : Nat → Nat → Int} (h : ∀ i j, i < R → j < C → f i j = g i j) : tab R C f = tab R C g :=
  tab_ext (tab_length R C f) fun i j hi hj => by rw [tab_nth f hi hj, h i j hi hj]
/-- The cells set so far: all of the rows before I, and of row I those before J. -/
def Upto (C : Nat) (f : Nat → Nat → Int) (I J : Nat) (m : List Int) : Prop := ∀ i j, (i < I ∧ j < C ∨ i = I ∧ j < J) → nth m (i * C + j) = f i j
theorem Upto.zero (C : Nat) (f : Nat → Nat → Int) (m : List Int) : Upto C f 0 0 m := fun i j h => by omega
theorem Upto.row {C : Nat} {f : Nat → Nat → Int} {I : Nat} {m : List Int} (h : Upto C f I C m) : Upto C f (I + 1) 0 m := fun i j hij => h i j (by omega)
theorem Upto.set {R C : Nat} {f : Nat → Nat → Int} {I J : Nat} {m : List Int} (h : Upto C f I J m) (hm : m.length = R * C) (hI : I < R) (hJ : J < C) : Upto C f I (J + 1) (m.set (I * C + J) (f I J)) := by
  intro i j hij
  have hlt := idx_lt hI hJ
  rw [nth_set _ _ _ _ (by omega)]
  by_cases e : i * C + j = I * C + J
  · obtain ⟨rfl, rfl⟩ := idx_inj (by omega) hJ e
    rw [if_pos rfl]
  · rw [if_neg e]
    exact h i j (by
      have : ¬ (i = I ∧ j = J) := fun q => e (by rw [q.1, q.2])
      omega)
theorem Upto.all {R C : Nat} {f : Nat → Nat → Int} {m : List Int} (h : Upto C f R 0 m) (hm : m.length = R * C) : m = tab R C f := tab_ext hm fun i j hi hj => h i j (.inl ⟨hi, hj⟩)
/-- The same, by columns: all of the columns before J, and of column J those of the rows before I. -/
def UptoC (R C : Nat) (f : Nat → Nat → Int) (J I : Nat) (m : List Int) : Prop := ∀ i j, (j < J ∧ i < R ∨ j = J ∧ i < I) → nth m (i * C + j) = f i j
theorem UptoC.zero (R C : Nat) (f : Nat → Nat → Int) (m : List Int) : UptoC R C f 0 0 m := fun i j h => by omega
theorem UptoC.col {R C : Nat} {f : Nat → Nat → Int} {J : Nat} {m : List Int} (h : UptoC R C f J R m) : UptoC R C f (J + 1) 0 m := fun i j hij => h i j (by omega)
theorem UptoC.set {R C : Nat} {f : Nat → Nat → Int} {I J : Nat} {m : List Int} (h : UptoC R C f J I m) (hm : m.length = R * C) (hI : I < R) (hJ : J < C) : UptoC R C f J (I + 1) (m.set (I * C + J) (f I J)) := by
  intro i j hij
  have hlt := idx_lt hI hJ
  rw [nth_set _ _ _ _ (by omega)]
  by_cases e : i * C + j = I * C + J
  · obtain ⟨rfl, rfl⟩ := idx_inj (by omega) hJ e
    rw [if_pos rfl]
  · rw [if_neg e]
    exact h i j (by
      have : ¬ (i = I ∧ j = J) := fun q => e (by rw [q.1, q.2])
      omega)
theorem UptoC.all {R C : Nat} {f : Nat → Nat → Int} {m : List Int} (h : UptoC R C f C 0 m) (hm : m.length = R * C) : m = tab R C f := tab_ext hm fun i j hi hj => h i j (.inl ⟨hj, hi⟩)

theorem castIdx (i c j : Nat) : (((i : Int) * (c : Int) + (j : Int)).toNat : Nat) = i * c + j := by
  rw [← Int.natCast_mul, ← Int.natCast_add, Int.toNat_natCast]
theorem castLt {i c j n : Nat} (h : i * c + j < n) : (i : Int) * (c : Int) + (j : Int) < (n : Int) := by
  rw [← Int.natCast_mul]; omega
theorem castPos (i c j : Nat) : 0 ≤ (i : Int) * (c : Int) + (j : Int) := by
  rw [← Int.natCast_mul]; omega
theorem castMul (i c : Nat) : 0 ≤ (i : Int) * (c : Int) := by
  rw [← Int.natCast_mul]; omega
theorem castMulLe {i c : Nat} {n : Nat} (h : i * c ≤ n) : (i : Int) * (c : Int) ≤ (n : Int) := by
  rw [← Int.natCast_mul]; omega
end Go.Proofs.Ythajmffhgbenpaa

/- Regions that draw their order: a head of operations with fixed values in a growing world, in any order; behind them a forced tail (a call or a store that writes). -/
namespace Go.Proofs.Ythajmffhgbenpaa
set_option linter.unusedSimpArgs false
set_option linter.unusedVariables false
open Go.RowKit

section
variable {P : Program} {ops : Array Oper} {md : Region.Mode} {C : World → Prop}

/-- f operations of the first n in whatever order, each with a fixed value in every world of the class; then L. -/
def anyHead (P : Program) (md : Region.Mode) (ops : Array Oper) (C : World → Prop) (n : Nat) (L : Array Bool → Act → Prop) : Nat → Array Bool → Act → Prop
  | 0, ls, a => L ls a
  | f + 1, ls, a => Region.ready md ops ls ≠ [] ∧ ∀ i ∈ Region.ready md ops ls, i < n ∧ qOp P ops C i (anyHead P md ops C n L f (ls.setIfInBounds i true)) a

theorem any_of_head {n g : Nat} {L : Array Bool → Act → Prop} {Q : Exit → Act → World → Prop} (hL : ∀ ls a w, C w → L ls a → wpAny P md ops Q g ls a w) (f : Nat) :
    ∀ (ls : Array Bool) (a : Act) (w : World), C w → anyHead P md ops C n L f ls a → wpAny P md ops Q (f + g) ls a w := by
  induction f with
  | zero => intro ls a w hw h; rw [Nat.zero_add]; exact hL _ _ _ hw h
  | succ f ih =>
    intro ls a w hw h
    rw [Nat.succ_add]
    exact ⟨fun e => (h.1 e).elim, fun i hi => wpOp_of_qOp hw (fun a' w' hw' h' => ih _ a' w' hw' h') (h.2 i hi).2⟩

theorem head_first {n i : Nat} {oi : Oper} {v : Value} {L : Array Bool → Act → Prop} (hi : ops[i]? = some oi) (hsel : ∀ (j : Nat) (o : Oper) cs b, ops[j]? = some o → o.op ≠ .select cs b)
    (hs : Region.sinkB md ops n = true) (hc : Region.chainB md ops n = true) (hn : n < ops.size) (hin : i < n) (hdone : ∀ ls a, L ls a → ∀ j ∈ Region.ready md ops ls, n ≤ j) (f : Nat) :
    ∀ (ls : Array Bool) (a : Act), HeadInv md ops n ls →
      (∀ j oj, ops[j]? = some oj → j ≠ i → ls.getD j true = false → (∀ e ∈ oj.after, Region.binds md e = true → e.on ≠ i) → oi.apart ops oj = true) →
      i ∈ Region.ready md ops ls → YieldsIn P ops C oi v a → anyHead P md ops C n L f (ls.setIfInBounds i true) (a.put oi.dst v) → anyHead P md ops C n L (f + 1) ls a := by
  induction f with
  | zero =>
    intro ls a inv _ hr hy H
    have hun := (mem_ready.1 hr).1
    refine ⟨fun e => (by rw [e] at hr; cases hr), fun j hj => ?_⟩
    have hjn : j < n := Nat.lt_of_not_le fun h => tail_waits hs hc hn inv _ i rfl hin hun j h hj
    refine ⟨hjn, ?_⟩
    rcases Nat.decEq j i with hji | rfl
    · have := hdone _ _ H j (ready_mono hj hji)
      omega
    · exact hy.qOp hi H
  | succ f ih =>
    intro ls a inv hfree hr hy H
    have hun := (mem_ready.1 hr).1
    refine ⟨fun e => (by rw [e] at hr; cases hr), fun j hj => ?_⟩
    have hjn : j < n := Nat.lt_of_not_le fun h => tail_waits hs hc hn inv _ i rfl hin hun j h hj
    refine ⟨hjn, ?_⟩
    rcases Nat.decEq j i with hji | rfl
    · obtain ⟨hjun, oj, hoj, hall⟩ := mem_ready.1 hj
      have hnot : ∀ e ∈ oj.after, Region.binds md e = true → e.on ≠ i := fun e he hb heq => by
        have h1 := hall e he hb
        rw [heq, getD_both hun] at h1
        cases h1
      have h2 := qOp_put hoj (hfree j oj hoj hji hjun hnot) (fun cs b => hsel i oi cs b hi) (fun cs b => hsel j oj cs b hoj) hy (H.2 j (ready_mono hj hji)).2
      refine qOp_mono (fun a' h3 => ih (ls.setIfInBounds j true) a' (inv.set hj hjn) (fun k ok hk hki hun' hno => hfree k ok hk hki ?_ hno) (ready_mono hr (Ne.symm hji)) h3.1 ?_) h2
      · rcases Nat.decEq j k with hjk | rfl
        · rwa [getD_set_ne true hjk] at hun'
        · exact hjun
      · rw [Array.setIfInBounds_comm _ _ hji]
        exact h3.2
    · exact hy.qOp hi H

theorem head_lex {n g : Nat} {K : Act → Prop} (hsel : Region.noSelect ops = true) (hs : Region.sinkB md ops n = true) (hc : Region.chainB md ops n = true) (hn : n < ops.size) (l : List Oper) :
    ∀ (k : Nat) (ls : Array Bool) (a : Act), (∀ j, j < l.length → l[j]? = ops[k + j]?) → k + l.length = n → HeadInv md ops n ls → Region.lexHead md ops g l.length k ls = true →
      wpQuiet P ops C K l a → anyHead P md ops C n (fun ls' a' => Region.seqB md ops g n ls' = true ∧ K a') l.length ls a := by
  induction l with
  | nil =>
    intro k ls a _ hk _ hB h
    obtain rfl : k = n := by simpa using hk
    exact ⟨by simpa [Region.lexHead] using hB, h⟩
  | cons o l ih =>
    intro k ls a hl hk inv hB h
    have h0 : ops[k]? = some o := by simpa using (hl 0 (by simp)).symm
    simp only [List.length_cons, Region.lexHead, Bool.and_eq_true] at hB hk
    obtain ⟨⟨hr, hf⟩, hB'⟩ := hB
    have hr' : k ∈ Region.ready md ops ls := by simpa using hr
    have hst : qOp P ops C k (wpQuiet P ops C K l) a := by unfold qOp; simp only [h0]; exact h
    obtain ⟨v, hy, hK⟩ := yieldsIn_of_qOp h0 hst
    refine head_first h0 (Region.noSelect_spec hsel) hs hc hn (by omega) (fun ls' a' hL => seqB_ready hL.1) l.length ls a inv (Region.free_spec h0 hf) hr' hy ?_
    exact ih (k + 1) _ _ (fun j hj => by have := hl (j + 1) (by simp; omega); simpa [Nat.add_assoc, Nat.add_comm 1 j] using this) (by omega) (inv.set hr' (by omega)) hB' hK

/-- The rule: the first n operations quiet in every world that has grown out of w; the others walked in their order, in whatever such world. -/
theorem wp_region_tail {id : Nat} {Q : Exit → Act → World → Prop} {a : Act} {w : World} {l : List Oper} (n : Nat) (hm : P.follows .mixedOrders = true) (hB : Region.lexTailB .any l.toArray n = true)
    (h : wpQuiet P l.toArray (fun w' => ∃ W, w' = ext w W) (fun a' => ∀ w', (∃ W, w' = ext w W) → wpList P l.toArray Q (l.drop n) a' w') (l.take n) a) : (Code.region id l.toArray true).wp P Q a w := by
  simp only [Region.lexTailB, Bool.and_eq_true, decide_eq_true_eq] at hB
  obtain ⟨⟨⟨⟨hsel, hn⟩, hs⟩, hc⟩, hlex⟩ := hB
  have hn' : n < l.length := by simpa using hn
  have htl : (l.take n).length = n := by simp; omega
  have hdl : (l.drop n).length = l.toArray.size - n := by simp
  have inv0 : HeadInv .any l.toArray n (Array.replicate l.toArray.size false) :=
    ⟨by simp, fun j oj _ hl => (by rw [getD_replicate_false] at hl; cases hl), fun t _ ht => getD_in (by simpa using ht) (getD_replicate_false _ _)⟩
  have H := head_lex (md := .any) (g := l.toArray.size - n) hsel hs hc hn (l.take n) 0 _ a (fun j hj => by
    rw [htl] at hj
    simp [hj]) (by simpa using htl) inv0 (by rw [htl]; exact hlex) h
  refine wp_region_any hm ?_
  have hC0 : ∃ W, ({ w with drawn := w.drawn + 1 } : World) = ext w W := ⟨_, (ext_of (Below.drew (Below.refl _ _))).symm⟩
  have := any_of_head (Q := Q) (g := l.toArray.size - n) (fun ls a' w' hw' hL => by
    have := wpAny_of_seq (md := .any) (Q' := Q) (l.drop n) n ls a' w' (fun j => by simp [List.getElem?_drop]) (by rw [hdl]; exact hL.1) (hL.2 w' hw')
    rwa [hdl] at this) _ _ _ _ hC0 H
  rw [htl, show n + (l.toArray.size - n) = l.toArray.size by omega] at this
  exact this
end
end Go.Proofs.Ythajmffhgbenpaa

/- Contracts: matrices: validity, cells, squares. -/
namespace Go.Proofs.Ythajmffhgbenpaa
set_option linter.unusedSimpArgs false
set_option linter.unusedVariables false
open Go.RowKit

def isMat (r c : Int) (l : List Int) : Bool := inB r 0 24 && inB c 0 24 && decide ((l.length : Int) = r * c) && allNum l
theorem isMat_iff (r c : Int) (l : List Int) : isMat r c l = true ↔ (0 ≤ r ∧ r ≤ 24) ∧ (0 ≤ c ∧ c ≤ 24) ∧ (l.length : Int) = r * c ∧ allNum l = true := by
  unfold isMat
  simp only [Bool.and_eq_true, inB_iff, decide_eq_true_eq]
  constructor
  · rintro ⟨⟨⟨h1, h2⟩, h3⟩, h4⟩; exact ⟨h1, h2, h3, h4⟩
  · rintro ⟨h1, h2, h3, h4⟩; exact ⟨⟨⟨h1, h2⟩, h3⟩, h4⟩
theorem rc_bd {r c : Int} (h : 0 ≤ r ∧ r ≤ 24 ∧ 0 ≤ c ∧ c ≤ 24) : 0 ≤ r * c ∧ r * c ≤ 576 := by
  obtain ⟨h1, h2, h3, h4⟩ := h
  have := Int.mul_nonneg h1 h3
  have := Int.mul_le_mul h2 h4 h3 (by omega)
  omega

section
set_option maxHeartbeats 1000000
theorem iIsMatrix_c (r c : Int) (A : Option Addr) (l : List Int) (n cap : Nat) (w : World) (hn : l.length = n) (ha : Rd w A l) (hl : n ≤ 1099511627776) :
    Calls Try.prog 53 #[.agg #[.int .i64 r, .int .i64 c, .slice A n cap]] w fun e w' => e = .returned (.bool (isMat r c l)) ∧ Grows w w' := by
  by_cases hp : 0 ≤ r ∧ r ≤ 24 ∧ 0 ≤ c ∧ c ≤ 24
  · have hb := rc_bd hp
    obtain ⟨h1, h2, h3, h4⟩ := hp
    by_cases hL : (n : Int) = r * c
    · have e : isMat r c l = allNum l := by
        unfold isMat
        rw [(inB_iff r 0 24).2 ⟨h1, h2⟩, (inB_iff c 0 24).2 ⟨h3, h4⟩, hn]
        simp [hL]
      have C := fun w h => areNumbers_c A l n cap w hn h hl
      rw [e]
      have hL' : ((n : Int) == r * c) = true := by rw [beq_iff_eq]; exact hL
      generalize allNum l = b at *
      have HC := Lib.hid C
      clear C e hL hn
      go_enter Try.func53, Try.ntmps53
      go_wp2_with fail
      refine (HC.out _ (by exact (Rd.grows ha (by exact bel0)))).mono ?_; rintro e w1 ⟨rfl, rfl⟩
      go_wp2_with fail
      go_ret
      exact ⟨by simp, by exact bel0⟩
    · have e : isMat r c l = false := by
        unfold isMat
        rw [hn]
        simp [hL]
      rw [e]
      have hL' : ((n : Int) == r * c) = false := by rw [beq_eq_false_iff_ne]; exact hL
      clear e hL hn
      go_enter Try.func53, Try.ntmps53
      go_wp2_with fail
      go_ret
      exact ⟨by simp, by exact bel0⟩
  · have e : isMat r c l = false := by
      unfold isMat
      simp only [Bool.and_eq_false_iff, inB_no]
      omega
    rw [e]
    clear e hn
    go_enter Try.func53, Try.ntmps53
    go_wp2_with fail
    all_goals go_ret
    all_goals exact ⟨by simp, by exact bel0⟩

theorem at_c (r c : Int) (A : Option Addr) (l : List Int) (n cap : Nat) (i j : Int) (w : World) (hn : l.length = n) (ha : Rd w A l) (h1 : 0 ≤ i * c) (h2 : i * c ≤ 1099511627776) (h3 : 0 ≤ i * c + j) (h4 : i * c + j < l.length) (h5 : l.length ≤ 1099511627776) :
    Calls Try.prog 62 #[.agg #[.int .i64 r, .int .i64 c, .slice A n cap], .int .i64 i, .int .i64 j] w fun e w' => e = .returned (.int .i64 (nth l (i * c + j).toNat)) ∧ Grows w w' := by
  subst hn
  obtain ⟨b, off, rfl, hb, hc⟩ := ha.at_ (i * c + j).toNat (by omega)
  go_enter Try.func62, Try.ntmps62
  go_wp2_with fail
  go_ret
  exact ⟨rfl, by exact bel0⟩

theorem l12Cell_c (r c : Int) (A : Option Addr) (l : List Int) (n cap : Nat) (i j : Int) (w : World) (hn : l.length = n) (ha : Rd w A l) (h1 : 0 ≤ i * c) (h2 : i * c ≤ 1099511627776) (h3 : 0 ≤ i * c + j) (h4 : i * c + j < l.length) (h5 : l.length ≤ 1099511627776) :
    Calls Try.prog 103 #[.agg #[.int .i64 r, .int .i64 c, .slice A n cap], .int .i64 i, .int .i64 j] w fun e w' => e = .returned (.int .i64 (nth l (i * c + j).toNat)) ∧ Grows w w' := by
  subst hn
  obtain ⟨b, off, rfl, hb, hc⟩ := ha.at_ (i * c + j).toNat (by omega)
  go_enter Try.func103, Try.ntmps103
  go_wp2_with fail
  go_ret
  exact ⟨rfl, by exact bel0⟩

theorem sIsMatrix_c (r c : Int) (A : Option Addr) (l : List Int) (n cap : Nat) (w : World) (hn : l.length = n) (ha : Rd w A l) (hl : n ≤ 1099511627776) :
    Calls Try.prog 57 #[.agg #[.int .i64 r, .int .i64 c, .slice A n cap]] w fun e w' => e = .returned (.bool (isMat r c l)) ∧ Grows w w' := by
  subst hn
  have HN := Lib.hid fun w x => sIsNumber_c x w
  have C1 := fun w => l1In_c r 0 24 w
  have C2 := fun w => l1In_c c 0 24 w
  cases h1 : inB r 0 24
  · have e : isMat r c l = false := by unfold isMat; rw [h1]; simp
    rw [h1] at C1
    have H1 := Lib.hid C1
    rw [e]
    clear C1 C2 h1 e
    go_enter Try.func57, Try.ntmps57
    go_wp2_with fail
    refine (H1.out _).mono ?_; rintro e w1 ⟨rfl, rfl⟩
    go_wp2_with fail
    go_ret
    exact ⟨by simp, by exact bel0⟩
  · cases h2 : inB c 0 24
    · have e : isMat r c l = false := by unfold isMat; rw [h2]; simp
      rw [h1] at C1
      rw [h2] at C2
      have H1 := Lib.hid C1
      have H2 := Lib.hid C2
      rw [e]
      clear C1 C2 h1 h2 e
      go_enter Try.func57, Try.ntmps57
      go_wp2_with fail
      refine (H1.out _).mono ?_; rintro e w1 ⟨rfl, rfl⟩
      go_wp2_with fail
      refine (H2.out _).mono ?_; rintro e w1 ⟨rfl, rfl⟩
      go_wp2_with fail
      go_ret
      exact ⟨by simp, by exact bel0⟩
    · have b1 := (inB_iff _ _ _).1 h1
      have b2 := (inB_iff _ _ _).1 h2
      have hb := rc_bd (r := r) (c := c) (by omega)
      have e0 : isMat r c l = (decide ((l.length : Int) = r * c) && allNum l) := by unfold isMat; rw [h1, h2]; simp
      rw [h1] at C1
      rw [h2] at C2
      have H1 := Lib.hid C1
      have H2 := Lib.hid C2
      rw [e0]
      clear C1 C2 h1 h2 e0
      by_cases hL : (l.length : Int) = r * c
      · have hL' : ((l.length : Int) != r * c) = false := by simpa using hL
        have HL := Lib.hid hL
        have e1 : decide ((l.length : Int) = r * c) = true := by simpa using hL
        rw [e1]
        clear hL e1
        go_enter Try.func57, Try.ntmps57
        go_wp2_with fail
        refine (H1.out _).mono ?_; rintro e w1 ⟨rfl, rfl⟩
        go_wp2_with fail
        refine (H2.out _).mono ?_; rintro e w1 ⟨rfl, rfl⟩
        go_wp2_with fail
        go_loop [3] (fun k => ∃ (i : Nat), k = .int .i64 i ∧ i ≤ l.length ∧ ∀ t, t < i → isNum (nth l t) = true) (fun k => l.length - (intOf k).toNat)
        case atStart => exact ⟨0, rfl, Nat.zero_le _, fun t h => by omega⟩
        case round =>
          obtain ⟨i, rfl, hi, hnum⟩ := hrel
          have HU := Lib.hid hnum
          clear hnum
          by_cases hlt : i < l.length
          · obtain ⟨b, o, rfl, hbs, hc⟩ := ha.at_ i hlt
            cases h1 : isNum (nth l i)
            · have H1 := Lib.hid fun w => HN.out w (nth l i)
              have hno := Lib.hid (allNum_no hlt h1)
              rw [h1] at H1
              clear h1
              go_wp2_with (go_at_call 95; refine (H1.out _).mono ?_; rintro e w' ⟨rfl, rfl⟩)
              go_ret
              exact ⟨by rw [hno.out]; rfl, by exact bel0⟩
            · have H1 := Lib.hid fun w => HN.out w (nth l i)
              have K1 := Lib.hid h1
              rw [h1] at H1
              clear h1
              go_wp2_with (go_at_call 95; refine (H1.out _).mono ?_; rintro e w' ⟨rfl, rfl⟩)
              go_round
              case rel => exact ⟨i + 1, by go_num, by omega, fun t ht => by (by_cases e : t = i); (· subst e; exact K1.out); (· exact HU.out t (by omega))⟩
              case measure => simp [intOf]; omega
          · obtain rfl : i = l.length := by omega
            have hok := Lib.hid ((allNum_iff l).2 HU.out)
            go_wp2_with fail
            go_ret
            exact ⟨by rw [hok.out]; rfl, by exact bel0⟩
      · have hL' : ((l.length : Int) != r * c) = true := by simpa using hL
        have e1 : decide ((l.length : Int) = r * c) = false := by simpa using hL
        rw [e1]
        clear hL e1
        go_enter Try.func57, Try.ntmps57
        go_wp2_with fail
        refine (H1.out _).mono ?_; rintro e w1 ⟨rfl, rfl⟩
        go_wp2_with fail
        refine (H2.out _).mono ?_; rintro e w1 ⟨rfl, rfl⟩
        go_wp2_with fail
        go_ret
        exact ⟨by simp, by exact bel0⟩

def isSq (r c : Int) (l : List Int) : Bool := isMat r c l && (r == c) && decide (r ≤ 6)

theorem iIsSquare_c (r c : Int) (A : Option Addr) (l : List Int) (n cap : Nat) (w : World) (hn : l.length = n) (ha : Rd w A l) (hl : n ≤ 1099511627776) :
    Calls Try.prog 125 #[.agg #[.int .i64 r, .int .i64 c, .slice A n cap]] w fun e w' => e = .returned (.bool (isSq r c l)) ∧ Grows w w' := by
  have C := fun w h => iIsMatrix_c r c A l n cap w hn h hl
  unfold isSq
  generalize isMat r c l = b at *
  have HC := Lib.hid C
  clear C hn
  cases b
  · go_enter Try.func125, Try.ntmps125
    go_wp2_with fail
    refine (HC.out _ (by exact (Rd.grows ha (by exact bel0)))).mono ?_; rintro e w1 ⟨rfl, g1⟩
    go_wp2_with fail
    go_ret
    exact ⟨by simp, by exact bel1 g1⟩
  · cases h2 : (r == c)
    · go_enter Try.func125, Try.ntmps125
      go_wp2_with fail
      refine (HC.out _ (by exact (Rd.grows ha (by exact bel0)))).mono ?_; rintro e w1 ⟨rfl, g1⟩
      obtain ⟨cg1, fg1⟩ := bcell g1; have zg10 : w.heap.size < w1.heap.size := by (have := g1.size; (try simp at this); omega)
      go_wp2_with fail
      go_ret
      exact ⟨by simp, by exact bel1 g1⟩
    · go_enter Try.func125, Try.ntmps125
      go_wp2_with fail
      refine (HC.out _ (by exact (Rd.grows ha (by exact bel0)))).mono ?_; rintro e w1 ⟨rfl, g1⟩
      obtain ⟨cg1, fg1⟩ := bcell g1; have zg10 : w.heap.size < w1.heap.size := by (have := g1.size; (try simp at this); omega)
      go_wp2_with fail
      go_ret
      exact ⟨by simp, by exact bel1 g1⟩

theorem sIsSquare_c (r c : Int) (A : Option Addr) (l : List Int) (n cap : Nat) (w : World) (hn : l.length = n) (ha : Rd w A l) (hl : n ≤ 1099511627776) :
    Calls Try.prog 132 #[.agg #[.int .i64 r, .int .i64 c, .slice A n cap]] w fun e w' => e = .returned (.bool (isSq r c l)) ∧ Grows w w' := by
  have C := fun w h => sIsMatrix_c r c A l n cap w hn h hl
  unfold isSq
  generalize isMat r c l = b at *
  have HC := Lib.hid C
  clear C hn
  cases b
  · go_enter Try.func132, Try.ntmps132
    go_wp2_with fail
    refine (HC.out _ (by exact (Rd.grows ha (by exact bel0)))).mono ?_; rintro e w1 ⟨rfl, g1⟩
    go_wp2_with fail
    go_ret
    exact ⟨by simp, by exact bel1 g1⟩
  · cases h2 : (r == c)
    all_goals
      go_enter Try.func132, Try.ntmps132
      go_wp2_with fail
      refine (HC.out _ (by exact (Rd.grows ha (by exact bel0)))).mono ?_; rintro e w1 ⟨rfl, g1⟩
      obtain ⟨cg1, fg1⟩ := bcell g1; have zg10 : w.heap.size < w1.heap.size := by (have := g1.size; (try simp at this); omega)
      go_wp2_with fail
      go_ret
      exact ⟨by simp, by exact bel1 g1⟩
end
end Go.Proofs.Ythajmffhgbenpaa

/- Contracts: new matrices, stores, transposes, equality. -/
namespace Go.Proofs.Ythajmffhgbenpaa
set_option linter.unusedSimpArgs false
set_option linter.unusedVariables false
open Go.RowKit

section
set_option maxHeartbeats 1000000
theorem own_made {w1 : World} {B g n : Nat} (h : w1.ownsRow B 3 1 (.slice (some ⟨g, 0, none⟩) n n) n (madeCells (Value.int IntKind.i64 0).cells (n * 1)).toList) :
    Own w1 B (.slice (some ⟨g, 0, none⟩) n n) (List.replicate n 0) := by
  unfold Own
  rw [List.length_replicate, List.map_replicate]
  rw [show (Value.int IntKind.i64 0).cells = #[Value.int IntKind.i64 0] from rfl, Nat.mul_one, toList_madeCells_one] at h
  exact h

theorem newMatrix_c (R C : Nat) (w : World) (h : R * C ≤ 1048576) :
    Calls Try.prog 61 #[.int .i64 R, .int .i64 C] w fun e w' => ∃ g, e = .returned (.agg #[.int .i64 R, .int .i64 C, .slice (some ⟨g, 0, none⟩) (R * C) (R * C)]) ∧ Own w' w.heap.size (.slice (some ⟨g, 0, none⟩) (R * C) (R * C)) (List.replicate (R * C) 0) ∧ Grows w w' := by
  obtain ⟨i0, hi0, hz0, hz1, hz2⟩ := info_parts info_int
  have e1 := castMul R C
  have e2 := castMulLe h
  go_enter Try.func61, Try.ntmps61
  go_wp2_with (at_make; refine wpList_make_full _ rfl (.tmp 9) (.tmp 9) 24 rfl (w.heap.size + 1) 3 i0 (.int .i64 0) 1 Try.underlying24 hi0 hz0 hz1 .i64 .i64 _ _ (R * C) rfl rfl (Int.natCast_mul R C).symm (Int.natCast_mul R C).symm (by rw [hz2]; omega) (by unfold maxLen; omega) (by simp) ?_; intro w1 hown1 hg1; have gg := Below.grown (Below.refl _ _) hg1 (Nat.le_refl _) (by simp); obtain ⟨hc, hf⟩ := bcell gg)
  have ho := own_made hown1
  clear hown1 hg1
  refine bodyPost_ret (v := .agg #[.int .i64 R, .int .i64 C, .slice (some ⟨w.heap.size + 1, 0, none⟩) (R * C) (R * C)]) ?_ rfl ?_
  · simp [results, Try.results61, go_sem, hc]
  · simp at ho
    exact ⟨_, rfl, by exact ownl ho, by exact bel1 gg⟩

theorem l3New_c (R C : Nat) (w : World) (h : R * C ≤ 1048576) :
    Calls Try.prog 133 #[.int .i64 R, .int .i64 C] w fun e w' => ∃ g, e = .returned (.agg #[.int .i64 R, .int .i64 C, .slice (some ⟨g, 0, none⟩) (R * C) (R * C)]) ∧ Own w' w.heap.size (.slice (some ⟨g, 0, none⟩) (R * C) (R * C)) (List.replicate (R * C) 0) ∧ Grows w w' := by
  obtain ⟨i0, hi0, hz0, hz1, hz2⟩ := info_parts info_int
  have e1 := castMul R C
  have e2 := castMulLe h
  go_enter Try.func133, Try.ntmps133
  go_wp2_with (at_make; refine wpList_make_full _ rfl (.tmp 9) (.tmp 9) 24 rfl (w.heap.size + 1) 3 i0 (.int .i64 0) 1 Try.underlying24 hi0 hz0 hz1 .i64 .i64 _ _ (R * C) rfl rfl (Int.natCast_mul R C).symm (Int.natCast_mul R C).symm (by rw [hz2]; omega) (by unfold maxLen; omega) (by simp) ?_; intro w1 hown1 hg1; have gg := Below.grown (Below.refl _ _) hg1 (Nat.le_refl _) (by simp); obtain ⟨hc, hf⟩ := bcell gg)
  have ho := own_made hown1
  clear hown1 hg1
  refine bodyPost_ret (v := .agg #[.int .i64 R, .int .i64 C, .slice (some ⟨w.heap.size + 1, 0, none⟩) (R * C) (R * C)]) ?_ rfl ?_
  · simp [results, Try.results133, go_sem, hc]
  · simp at ho
    exact ⟨_, rfl, by exact ownl ho, by exact bel1 gg⟩

/-- A store into a matrix that is the call's own. -/
theorem set_c (r : Int) (C g n cap B : Nat) (l : List Int) (i j : Nat) (x : Int) (w : World) (hn : l.length = n) (ho : Own w B (.slice (some ⟨g, 0, none⟩) n cap) l) (h1 : i * C ≤ 1048576) (h4 : i * C + j < n) (h5 : n ≤ 1099511627776) :
    Calls Try.prog 63 #[.agg #[.int .i64 r, .int .i64 C, .slice (some ⟨g, 0, none⟩) n cap], .int .i64 i, .int .i64 j, .int .i64 x] w fun e w' => e = .returned (.tuple #[]) ∧ Own w' B (.slice (some ⟨g, 0, none⟩) n cap) (l.set (i * C + j) x) ∧ w.grownBy w' (some g) := by
  subst hn
  have hc := ho.cell (i * C + j) h4
  have hf := ho.free (i * C + j)
  have e1 := castMul i C
  have e2 := castMulLe h1
  have e3 := castPos i C j
  have e4 := castLt h4
  have hg := (ho.lt).2
  go_enter Try.func63, Try.ntmps63
  go_wp2_with fail
  go_end0
  refine ⟨rfl, ?_, ?_⟩
  · exact (ho.set _ _).alloc _
  · exact only_right (only_setCell (p := ⟨g, _, none⟩) (World.grownBy.refl w _) rfl _) ((Below.refl _ _).alloc (Nat.le_refl _) _)

theorem MBox.only {w w' : World} {b g : Nat} {r c : Int} {v : Value} (h : MBox w b r c v) (hg : w.grownBy w' (some g)) (hne : b ≠ g) : MBox w' b r c v := by
  have hk := hg.block b h.lt (fun e => hne (by injection e))
  exact ⟨Nat.lt_of_lt_of_le h.lt hg.size, (World.cell?_of_block hk).trans h.c0, (World.cell?_of_block hk).trans h.c1, (World.cell?_of_block hk).trans h.c2, fun o => (World.frozen?_of_block hk).trans (h.fz o)⟩
theorem Rd.only {w w' : World} {A : Option Addr} {l : List Int} {g H : Nat} (h : Rd w A l) (hb : ∀ a, A = some a → 0 < l.length → a.block < H) (hg : w.grownBy w' (some g)) (hH : H ≤ g) : Rd w' A l := fun i hi => by
  obtain ⟨b, off, e, hb', hc⟩ := h i hi
  have := hb _ e (by omega)
  refine ⟨b, off, e, Nat.lt_of_lt_of_le hb' hg.size, (World.cell?_of_block (hg.block b hb' (fun e => ?_))).trans hc⟩
  injection e with e
  simp at this
  omega
theorem below_only {B g : Nat} {a w w' : World} (h : Below B a w) (hg : w.grownBy w' (some g)) (hB : B ≤ g) (hs : B ≤ w.heap.size) : Below B a w' :=
  h.grown hg hs fun k hk => by injection hk with hk; omega

theorem rd_bound {w : World} {A : Option Addr} {l : List Int} (h : Rd w A l) : ∀ a, A = some a → 0 < l.length → a.block < w.heap.size := fun a e hl => by
  obtain ⟨b, off, e', hb, _⟩ := h 0 hl
  rw [e] at e'
  injection e' with e'
  rw [e']; exact hb

/-- the transpose's cells -/
def trL (R C : Nat) (l : List Int) : List Int := tab C R fun j i => nth l (i * C + j)

theorem iTransposeOf_yes (R C : Nat) (A : Option Addr) (l : List Int) (n cap : Nat) (w : World) (hn : l.length = n) (ha : Rd w A l) (hm : isMat R C l = true) :
    Calls Try.prog 84 #[.agg #[.int .i64 R, .int .i64 C, .slice A n cap]] w fun e w' =>
      ∃ v, e = .returned (.tuple #[.agg #[.int .i64 C, .int .i64 R, v], .bool true]) ∧ Own w' w.heap.size v (trL R C l) ∧ Grows w w' := by
  subst hn
  obtain ⟨⟨_, h1⟩, ⟨_, h2⟩, h3, _⟩ := (isMat_iff _ _ _).1 hm
  have hl : l.length = R * C := by rw [← Int.natCast_mul] at h3; omega
  have hR : R ≤ 24 := by omega
  have hC : C ≤ 24 := by omega
  have hRC : C * R ≤ 576 := Nat.mul_le_mul hC hR
  have HM := Lib.hid fun w h => iIsMatrix_c R C A l l.length cap w rfl h (by rw [hl, Nat.mul_comm]; omega)
  rw [hm] at HM
  have HL := Lib.hid hl
  have HM' := Lib.hid HM.out
  have HA := Lib.hid (rd_bound ha)
  clear hm HM h1 h2 h3 hl
  go_enter Try.func84, Try.ntmps84
  go_wp2_with fail
  refine (HM'.out _ (by exact (Rd.grows ha (by exact bel0)))).mono ?_; rintro e w1 ⟨rfl, g1⟩
  have z1 := Below.size g1; simp at z1
  have mb : MBox w1 w.heap.size R C (.slice A l.length cap) := (MBox.mk_ w R C (.slice A l.length cap) 26).grows (by exact bel1 g1)
  have rb : MBox w1 (w.heap.size + 1) 0 0 (.slice none 0 0) := by have := (MBox.mk_ (w.alloc (.cells #[.int .i64 R, .int .i64 C, .slice A l.length cap] 26)) 0 0 (.slice none 0 0) 26).grows (w' := w1) (by exact bel1 g1); simpa using this
  have rd1 : Rd w1 A l := (Rd.grows ha (by exact bel1 g1))
  have gw1 : Grows w w1 := by exact bel1 g1
  clear g1 ha
  obtain ⟨b0, b1, b2⟩ := mb.cells
  go_wp2_with fail
  refine (newMatrix_c C R _ (by omega)).mono ?_; rintro e w2 ⟨g, rfl, ho, g2⟩
  obtain ⟨ho1, ho2⟩ := ho.lt
  clear b0 b1 b2
  replace mb := mb.grows g2
  replace rb := rb.grows g2
  replace rd1 := rd1.grows g2
  replace gw1 : Grows w w2 := by exact bel2 g2 gw1
  replace ho := ho.less (show w.heap.size ≤ w1.heap.size by omega)
  have lo : w.heap.size + 1 < g := by omega
  clear g2 ho1 z1
  obtain ⟨b0, b1, b2⟩ := mb.cells
  go_wp2_with fail
  go_loopw [5] (fun i wr => ∃ (I : Nat) (m : List Int), i = .int .i64 I ∧ I ≤ R ∧ m.length = C * R ∧ UptoC C R (fun j i => nth l (i * C + j)) I 0 m ∧ Own wr w.heap.size (.slice (some ⟨g, 0, none⟩) (C * R) (C * R)) m ∧ Rd wr A l ∧ Grows w wr ∧
      MBox wr w.heap.size R C (.slice A l.length cap) ∧ MBox wr (w.heap.size + 1) 0 0 (.slice none 0 0) ∧ MBox wr w2.heap.size C R (.slice (some ⟨g, 0, none⟩) (C * R) (C * R))) (fun i _ => R - (intOf i).toNat)
  case atStart =>
    exact ⟨0, _, rfl, Nat.zero_le _, by simp, UptoC.zero _ _ _ _, ho.alloc _, rd1.alloc _, by exact bel1 gw1, mb.grows (by exact bel0), rb.grows (by exact bel0), MBox.mk_ _ _ _ _ _⟩
  case round =>
    obtain ⟨I, m, rfl, hI, hml, hup, how, hrd, hgr, hmb, hrb, hob⟩ := hrel
    have HU := Lib.hid hup
    have HML := Lib.hid hml
    clear hup hml mb rb rd1 gw1 ho b0 b1 b2
    obtain ⟨b0, b1, b2⟩ := hmb.cells
    by_cases hlt : I < R
    · go_wp2_with fail
      obtain ⟨wo, rfl⟩ : ∃ wo : World, wo = wr := ⟨_, rfl⟩
      go_loopw [6] (fun j wr => ∃ (J : Nat) (m : List Int), j = .int .i64 J ∧ J ≤ C ∧ m.length = C * R ∧ UptoC C R (fun j i => nth l (i * C + j)) I J m ∧ Own wr w.heap.size (.slice (some ⟨g, 0, none⟩) (C * R) (C * R)) m ∧ Rd wr A l ∧ Grows w wr ∧
          MBox wr w.heap.size R C (.slice A l.length cap) ∧ MBox wr (w.heap.size + 1) 0 0 (.slice none 0 0) ∧ MBox wr w2.heap.size C R (.slice (some ⟨g, 0, none⟩) (C * R) (C * R))) (fun j _ => C - (intOf j).toNat)
      case atStart => exact ⟨0, m, rfl, Nat.zero_le _, HML.out, HU.out, how, hrd, hgr, hmb, hrb, hob⟩
      case round =>
        clear HU HML b0 b1 b2 how hrd hgr hmb hrb hob
        obtain ⟨J, m, rfl, hJ, hml, hup, how, hrd, hgr, hmb, hrb, hob⟩ := hrel
        have HU := Lib.hid hup
        have HML := Lib.hid hml
        clear hup hml
        by_cases hlt2 : J < C
        · obtain ⟨b0, b1, b2⟩ := hmb.cells
          go_wp2_with fail
          clear b0 b1 b2
          obtain ⟨x0, x1, x2⟩ := hmb.ext
          obtain ⟨y0, y1, y2⟩ := hob.ext
          have i1 := castMul I C
          have i2 : (I : Int) * (C : Int) ≤ ((1048576 : Nat) : Int) := castMulLe (by have := Nat.mul_le_mul (Nat.le_of_lt hlt) hC; omega)
          have i3 := castPos I C J
          have i4 : (I : Int) * (C : Int) + (J : Int) < (l.length : Int) := castLt (by rw [HL.out]; exact idx_lt hlt hlt2)
          ((refine wp_region_tail 7 (by kernel_rfl) (by kernel_rfl) ?_; simp only [List.take_succ_cons, List.take_zero, List.drop_succ_cons, List.drop_zero]); (repeat (go_big_quiet_step ((go_at_call 62; exact extC (at_c R C A l l.length cap I J _ rfl (Rd.ext hrd _) (by omega) (by omega) (by omega) (by omega) (by have := HL.out; have := Nat.mul_le_mul hR hC; omega)))))); refine wpQuiet_nil ?_; rintro w3 ⟨w30, hw30⟩; have g3 := grows_of_ext hw30; clear hw30 w30)
          go_wp2_with fail
          have hi1 := Nat.mul_le_mul (Nat.le_of_lt hlt2) hR
          have hi2 : J * R + I < C * R := idx_lt hlt2 hlt
          refine (set_c C R g (C * R) (C * R) w.heap.size m J I _ w3 HML.out (how.grows g3) (by omega) hi2 (by omega)).mono ?_; rintro e w4 ⟨rfl, ho4, gb⟩
          have hup4 := UptoC.set HU.out HML.out hlt2 hlt
          have hs3 := Below.size hgr
          have hs4 := Below.size g3
          go_wp2_with fail
          go_round
          case rel =>
            exact ⟨J + 1, _, by go_num, by omega, by rw [List.length_set]; exact HML.out, hup4, ho4, (hrd.grows g3).only HA.out gb (by omega), below_only (Grows.trans hgr g3) gb (by omega) (by omega), (hmb.grows g3).only gb (by omega), (hrb.grows g3).only gb (by omega), (hob.grows g3).only gb (by omega)⟩
          case measure => simp [intOf]; omega
        · obtain rfl : J = C := by omega
          obtain ⟨b0, b1, b2⟩ := hmb.cells
          go_wp2_with fail
          go_round
          case rel =>
            exact ⟨I + 1, m, by go_num, by omega, HML.out, UptoC.col HU.out, how, hrd, hgr, hmb, hrb, hob⟩
          case measure => simp [intOf]; omega
    · obtain rfl : I = R := by omega
      have hfin : m = trL I C l := UptoC.all HU.out HML.out
      subst hfin
      obtain ⟨y0, y1, y2⟩ := hob.cells
      obtain ⟨r0, r1, r2⟩ := hrb.cells
      have rf := hrb.fz
      go_wp2_with fail
      refine bodyPost_ret (v := .tuple #[.agg #[.int .i64 C, .int .i64 I, .slice (some ⟨g, 0, none⟩) (C * I) (C * I)], .bool true]) ?_ rfl ?_
      · simp [results, Try.results84, go_sem, r0, r1, r2]
      · have hs5 := Below.size hgr
        exact ⟨_, rfl, ((how.far (by intro k hk; simp [Value.ownBlock] at hk; simp; omega) _).far (by intro k hk; simp [Value.ownBlock] at hk; simp; omega) _).far (by intro k hk; simp [Value.ownBlock] at hk; simp; omega) _, by exact bel1 hgr⟩

theorem iTransposeOf_no (r c : Int) (A : Option Addr) (l : List Int) (n cap : Nat) (w : World) (hn : l.length = n) (ha : Rd w A l) (hl : n ≤ 1099511627776) (hm : isMat r c l = false) :
    Calls Try.prog 84 #[.agg #[.int .i64 r, .int .i64 c, .slice A n cap]] w fun e w' =>
      e = .returned (.tuple #[.agg #[.int .i64 0, .int .i64 0, .slice none 0 0], .bool false]) ∧ Grows w w' := by
  have HM := Lib.hid fun w h => iIsMatrix_c r c A l n cap w hn h hl
  rw [hm] at HM
  have HM' := Lib.hid HM.out
  clear hm HM hn
  go_enter Try.func84, Try.ntmps84
  go_wp2_with fail
  refine (HM'.out _ (by exact (Rd.grows ha (by exact bel0)))).mono ?_; rintro e w1 ⟨rfl, g1⟩
  have rb : MBox w1 (w.heap.size + 1) 0 0 (.slice none 0 0) := by have := (MBox.mk_ (w.alloc (.cells #[.int .i64 r, .int .i64 c, .slice A n cap] 26)) 0 0 (.slice none 0 0) 26).grows (w' := w1) (by exact bel1 g1); simpa using this
  obtain ⟨r0, r1, r2⟩ := rb.cells
  have rf := rb.fz
  go_wp2_with fail
  refine bodyPost_ret (v := .tuple #[.agg #[.int .i64 0, .int .i64 0, .slice none 0 0], .bool false]) ?_ rfl ?_
  · simp [results, Try.results84, go_sem, r0, r1, r2]
  · exact ⟨rfl, by exact bel1 g1⟩

def eqL (a b : List Int) : Bool := decide (a = b)
theorem eqL_len {a b : List Int} (h : a.length ≠ b.length) : eqL a b = false := by
  simp only [eqL, decide_eq_false_iff_not]
  intro e; exact h (by rw [e])
theorem eqL_at {a b : List Int} {i : Nat} (h : nth a i ≠ nth b i) : eqL a b = false := by
  simp only [eqL, decide_eq_false_iff_not]
  intro e; exact h (by rw [e])
theorem eqL_all {a b : List Int} (h : a.length = b.length) (h2 : ∀ i, i < a.length → nth a i = nth b i) : eqL a b = true := by
  simp only [eqL, decide_eq_true_eq]
  exact nth_ext h h2

theorem slicesEqual_c (A B : Option Addr) (a b : List Int) (n m c d : Nat) (w : World) (hn : a.length = n) (hm : b.length = m) (ha : Rd w A a) (hb : Rd w B b) (hl : n ≤ 1099511627776) (hl2 : m ≤ 1099511627776) :
    Calls Try.prog 149 #[.slice A n c, .slice B m d] w fun e w' => e = .returned (.bool (eqL a b)) ∧ Grows w w' := by
  by_cases hnm : n = m
  · subst hnm
    have HN := Lib.hid hn
    have HM := Lib.hid hm
    clear hn hm
    go_enter Try.func149, Try.ntmps149
    go_wp2_with fail
    go_loopw [13] (fun k wr => ∃ (i : Nat), k = .int .i64 i ∧ i ≤ n ∧ (∀ t, t < i → nth a t = nth b t) ∧ Grows w wr) (fun k _ => n - (intOf k).toNat)
    case atStart => exact ⟨0, rfl, Nat.zero_le _, fun t h => by omega, Below.refl _ _⟩
    case round =>
      obtain ⟨i, rfl, hi, he, hgr⟩ := hrel
      have HE := Lib.hid he
      clear he
      by_cases hlt : i < n
      · obtain ⟨b1, o1, rfl, hbs1, hc1⟩ := (ha.grows hgr).at_ i (by rw [HN.out]; exact hlt)
        obtain ⟨b2, o2, rfl, hbs2, hc2⟩ := (hb.grows hgr).at_ i (by rw [HM.out]; exact hlt)
        have i1 : (i : Int) < (n : Int) := by omega
        by_cases hx : nth a i = nth b i
        · have hx' : (nth a i != nth b i) = false := by simpa using hx
          have HX := Lib.hid hx
          clear hx
          go_wp2_with fail
          go_quiet (fail)
          go_wp2_with fail
          go_round
          case rel => exact ⟨i + 1, by go_num, by omega, fun t ht => by (by_cases e : t = i); (· subst e; exact HX.out); (· exact HE.out t (by omega)), below_drewN hgr _⟩
          case measure => simp [intOf]; omega
        · have hx' : (nth a i != nth b i) = true := by simpa using hx
          have HX := Lib.hid (eqL_at hx)
          clear hx
          go_wp2_with fail
          go_quiet (fail)
          go_wp2_with fail
          go_ret
          exact ⟨by rw [HX.out]; rfl, below_drewN hgr _⟩
      · obtain rfl : i = n := by omega
        have HX := Lib.hid (eqL_all (a := a) (b := b) (by rw [HN.out, HM.out]) (fun t ht => HE.out t (by have := HN.out; omega)))
        go_wp2_with fail
        go_ret
        exact ⟨by rw [HX.out]; rfl, hgr⟩
  · have HX := Lib.hid (eqL_len (a := a) (b := b) (by rw [hn, hm]; exact hnm))
    clear hn hm
    have hnm' : ((n : Int) != (m : Int)) = true := by simp; omega
    go_enter Try.func149, Try.ntmps149
    go_wp2_with fail
    go_ret
    exact ⟨by rw [HX.out]; rfl, Below.refl _ _⟩

def eqMat (r c : Int) (a : List Int) (r' c' : Int) (b : List Int) : Bool := (r == r') && ((c == c') && eqL a b)

theorem sameMatrix_c (r c r' c' : Int) (A B : Option Addr) (a b : List Int) (n m ca cb : Nat) (w : World) (hn : a.length = n) (hm : b.length = m) (ha : Rd w A a) (hb : Rd w B b) (hl : n ≤ 1099511627776) (hl2 : m ≤ 1099511627776) :
    Calls Try.prog 146 #[.agg #[.int .i64 r, .int .i64 c, .slice A n ca], .agg #[.int .i64 r', .int .i64 c', .slice B m cb]] w fun e w' => e = .returned (.bool (eqMat r c a r' c' b)) ∧ Grows w w' := by
  have C := fun w h h' => slicesEqual_c A B a b n m ca cb w hn hm h h' hl hl2
  unfold eqMat
  generalize eqL a b = x at *
  have HC := Lib.hid C
  clear C hn hm
  cases h1 : (r == r')
  · go_enter Try.func146, Try.ntmps146
    go_wp2_with fail
    go_ret
    exact ⟨by simp, by exact bel0⟩
  · cases h2 : (c == c')
    · go_enter Try.func146, Try.ntmps146
      go_wp2_with fail
      go_ret
      exact ⟨by simp, by exact bel0⟩
    · go_enter Try.func146, Try.ntmps146
      go_wp2_with fail
      refine (HC.out _ (by exact (Rd.grows ha (by exact bel0))) (by exact (Rd.grows hb (by exact bel0)))).mono ?_; rintro e w1 ⟨rfl, g1⟩
      go_wp2_with fail
      go_ret
      exact ⟨by simp, by exact bel1 g1⟩
end
end Go.Proofs.Ythajmffhgbenpaa

/- Appending one integer to a row of the call's own, at a step of a region that draws. -/
namespace Go.Proofs.Ythajmffhgbenpaa
set_option linter.unusedSimpArgs false
set_option linter.unusedVariables false
open Go.RowKit

theorem step_app {ops : Array Oper} {o : Oper} {a : Act} {K : Act → World → Prop} {Q : Exit → Act → World → Prop} {E : Prop} (hgd : o.guard = none) (s x : Operand)
    (ho : o.op = .call { callee := .builtin .append, args := #[s, x], argTypes := #[24, 24] }) (w : World)
    (B : Nat) (v : Value) (l : List Int) (hs : a.eval s = v) (hown : Own w B v l) (A : Option Addr) (m : List Int) (n c : Nat) (hx : a.eval x = .slice A n c) (hn : m.length = n) (hr : Rd w A m)
    (hl : l.length + m.length ≤ 1099511627776) (hB : B ≤ w.heap.size)
    (h : ∀ v' w', Own w' B v' (l ++ m) → w.grownBy w' v.ownBlock → (v'.ownBlock = v.ownBlock ∨ v'.ownBlock = some w.heap.size) → K (a.put o.dst v') w') :
    if Region.wanted o (yielded ops a.tmps) = true then Oper.wp Try.prog o a w K Q else E := by
  have hw : Region.wanted o (yielded ops a.tmps) = true := by simp [Region.wanted, hgd]
  rw [if_pos hw]
  subst hn
  obtain ⟨v', w', hrun, h2, h3, h4⟩ := run_app w o.type B v l hown A m c hr hl hB
  unfold Oper.wp execOp
  simp only [ho, resolve, invoke, builtin, Sem.run_bind, Sem.run_pure, Result.andThen_ok, List.map_toArray, List.map_cons, List.map_nil, hs, hx, hrun]
  exact h v' w' h2 h3 h4

/-- out = append(out, x): the new element lies in a new block of one cell. -/
theorem step_app1 {ops : Array Oper} {o : Oper} {a : Act} {K : Act → World → Prop} {Q : Exit → Act → World → Prop} {E : Prop} (hgd : o.guard = none) (s x : Operand)
    (ho : o.op = .call { callee := .builtin .append, args := #[s, x], argTypes := #[24, 24] }) (w : World) (z : Int)
    (B : Nat) (v : Value) (l : List Int) (hs : a.eval s = v) (hown : Own w B v l) (hx : a.eval x = .slice (some ⟨w.heap.size, 0, none⟩) 1 1)
    (hl : l.length + 1 ≤ 1099511627776) (hB : B ≤ w.heap.size)
    (h : ∀ v' w', Own w' B v' (l ++ [z]) → w.grownBy w' v.ownBlock → (v'.ownBlock = v.ownBlock ∨ ∃ g, v'.ownBlock = some g ∧ w.heap.size ≤ g) → K (a.put o.dst v') w') :
    if Region.wanted o (yielded ops a.tmps) = true then Oper.wp Try.prog o a (w.alloc (.cells #[.int .i64 z] 3)) K Q else E := by
  refine step_app hgd s x ho _ B v l hs (hown.alloc _) _ [z] 1 1 hx rfl (Rd.one w z) (by simpa using hl) (by simp; omega) fun v' w' h1 h2 h3 => h v' w' h1 ?_ ?_
  · exact ⟨h2.os, h2.tape, h2.output, Nat.le_trans (by simp) h2.size, fun k hk hne => (h2.block k (by simp; omega) hne).trans (Below.heap_alloc w _ k hk)⟩
  · rcases h3 with h3 | h3
    · exact .inl h3
    · exact .inr ⟨_, h3, by simp⟩
end Go.Proofs.Ythajmffhgbenpaa

/- Reading a law's arguments: integers, slices of integers, matrices. -/
namespace Go.Proofs.Ythajmffhgbenpaa
set_option linter.unusedSimpArgs false
set_option linter.unusedVariables false
open Go.ChangeShapes Go.WideShapes Go.ChangeAt Go.RowKit Go.Joins

theorem own : ownKnob Try.prog.godebug = none := by kernel_rfl
theorem laidOut : laidOutB Try.prog = true := by kernel_rfl

/-- What a slice of integers that came in is: its numbers fit, it is no longer than its room. -/
def InRow (w : World) (A : Option Addr) (l : List Int) (c : Nat) : Prop := Rd w A l ∧ l.length ≤ c ∧ c ≤ maxLen ∧ ∀ n ∈ l, (Lit.int .i64 n).wf = true

section
variable {H : Type} {enc : TypeId × Value → H} {w : World} {sp : Nat → Bool} {held : Bool}
theorem open_row {fuel : Nat} {v : Value} {x : DataW H × List MemPlace} (h : DataW.trod enc Try.prog w 0 sp held fuel 24 [v] = some x) :
    ∃ A l c, v = .slice A (List.length l) c ∧ InRow w A l c := by
  rcases open_ints Try.underlying24 Try.underlying3 (by kernel_rfl) h with ⟨hcs, _⟩ | ⟨a, l, c, zs, hcs, _, hl, hm, hz, _, hcell, hwz⟩
  · simp at hcs
    subst hcs
    exact ⟨none, [], 0, rfl, Rd.nil _ _, by simp, by simp, by simp⟩
  · simp at hcs
    subst hcs
    have hlz : l ≤ zs.length := by rw [hz]; split <;> omega
    refine ⟨some a, zs.take l, c, by simp [Nat.min_eq_left hlz], fun i hi => ?_, by simp; omega, hm, fun n hn => hwz n (List.mem_of_mem_take hn)⟩
    have hi' : i < l := by simp at hi; omega
    obtain ⟨b, off, rfl, hc⟩ := ints_at hcell (by omega)
    have h1 := hc i (by omega)
    refine ⟨b, off, rfl, World.block_lt_of_cell? w _ h1, ?_⟩
    rw [h1]
    unfold nth
    simp only [List.getD_eq_getElem?_getD, List.getElem?_take, if_pos hi']
end
end Go.Proofs.Ythajmffhgbenpaa
