/- Words on memory: a slice of integers that is read (Rd), a row of the call's own (Own), how both are kept. -/
import Derived.Test.YtpfijhcjempfjaaRows
import Derived.WalkKit
import Derived.WalkSpells
import Derived.WalkLawsBesides
import Derived.Lib.Hide
namespace Go.Proofs.Ytpfijhcjempfjaa
open Go.RowKit

/-- Number i of a list, 0 beyond its end. -/
def nth (l : List Int) (i : Nat) : Int := l.getD i 0

theorem nth_eq (l : List Int) (i : Nat) (h : i < l.length) : l[i]? = some (nth l i) := by
  unfold nth; simp [List.getD, h]
theorem nth_out (l : List Int) (i : Nat) (h : l.length ≤ i) : nth l i = 0 := by
  unfold nth; simp [List.getD, h]
theorem nth_get (l : List Int) (i : Nat) (h : i < l.length) : nth l i = l[i] := by
  unfold nth; simp [List.getD, h]
theorem nth_ext {a b : List Int} (h : a.length = b.length) (h2 : ∀ i, i < a.length → nth a i = nth b i) : a = b := by
  apply List.ext_getElem h
  intro i h3 h4
  have := h2 i h3
  rw [nth_get _ _ h3, nth_get _ _ h4] at this
  exact this
theorem nth_set (l : List Int) (i j : Nat) (x : Int) (h : i < l.length) : nth (l.set i x) j = if j = i then x else nth l j := by
  unfold nth
  simp only [List.getD_eq_getElem?_getD, List.getElem?_set]
  by_cases e : i = j
  · subst e; simp [h]
  · rw [if_neg e, if_neg (fun q => e q.symm)]
theorem nth_append_left (a b : List Int) (i : Nat) (h : i < a.length) : nth (a ++ b) i = nth a i := by
  unfold nth; simp [List.getElem?_append, h]
theorem nth_append_right (a b : List Int) (i : Nat) (h : a.length ≤ i) : nth (a ++ b) i = nth b (i - a.length) := by
  unfold nth; simp [List.getElem?_append, Nat.not_lt.2 h]
theorem nth_replicate (n i : Nat) : nth (List.replicate n 0) i = 0 := by
  unfold nth; simp [List.getD_eq_getElem?_getD, List.getElem?_replicate]; split <;> rfl

/-- The new world has every block of the old one as it was. -/
abbrev Grows (w w' : World) : Prop := Below w.heap.size w w'
theorem below_drewN {B : Nat} {a w : World} (h : Below B a w) (n : Nat) : Below B a (w.drewN n) := ⟨h.os, h.tape, h.output, h.size, h.block⟩
theorem Grows.refl (w : World) : Grows w w := Below.refl _ _
theorem Grows.trans {a b c : World} (h : Grows a b) (k : Grows b c) : Grows a c := Below.trans h (Below.mono k h.size)
theorem Grows.to {B : Nat} {a b c : World} (h : Below B a b) (k : Grows b c) (hB : B ≤ b.heap.size) : Below B a c := Below.trans h (Below.mono k hB)

/-- The slice at A reads as l: its cells lie in blocks that are there. -/
def Rd (w : World) (A : Option Addr) (l : List Int) : Prop :=
  ∀ i, i < l.length → ∃ b off, A = some ⟨b, off, none⟩ ∧ b < w.heap.size ∧ w.cell? ⟨b, off + i, none⟩ = some (.int .i64 (nth l i))

theorem Rd.nil (w : World) (A : Option Addr) : Rd w A [] := fun i h => by simp at h
theorem Rd.at_ {w : World} {A : Option Addr} {l : List Int} (h : Rd w A l) (i : Nat) (hi : i < l.length) : ∃ b off, A = some ⟨b, off, none⟩ ∧ b < w.heap.size ∧ w.cell? ⟨b, off + i, none⟩ = some (.int .i64 (nth l i)) := h i hi
theorem Rd.keep {w w' : World} {B : Nat} {A : Option Addr} {l : List Int} (h : Rd w A l) (k : Below B w w') (hB : w.heap.size ≤ B) : Rd w' A l := fun i hi => by
  obtain ⟨b, off, e, hb, hc⟩ := h i hi
  exact ⟨b, off, e, Nat.lt_of_lt_of_le hb k.size, (k.cell (p := ⟨b, off + i, none⟩) (Nat.lt_of_lt_of_le hb hB)).trans hc⟩
theorem Rd.grows {w w' : World} {A : Option Addr} {l : List Int} (h : Rd w A l) (k : Grows w w') : Rd w' A l := Rd.keep h k (Nat.le_refl _)
theorem Rd.alloc {w : World} {A : Option Addr} {l : List Int} (h : Rd w A l) (o : Obj) : Rd (w.alloc o) A l := h.grows ((Below.refl _ _).alloc (Nat.le_refl _) o)
theorem Rd.drew {w : World} {A : Option Addr} {l : List Int} (h : Rd w A l) : Rd w.drew A l := h
theorem Rd.slice {w : World} {A : Option Addr} {l : List Int} (h : Rd w A l) (lo hi : Nat) (hlo : lo ≤ hi) (hhi : hi ≤ l.length) (cap : Nat) (hc : l.length ≤ cap) :
    Rd w (if cap = lo then A else A.map (·.add (lo * 1))) ((l.take hi).drop lo) := by
  intro i hi'
  simp at hi'
  have hlt : lo + i < hi := by omega
  obtain ⟨b, off, rfl, hb, hcell⟩ := h (lo + i) (by omega)
  rw [if_neg (by omega)]
  refine ⟨b, off + lo, ?_, hb, ?_⟩
  · simp only [Option.map_some, Nat.mul_one]
    unfold Addr.add
    by_cases e : lo = 0 <;> simp [e]
  · rw [Nat.add_assoc, hcell]
    congr 2
    unfold nth
    simp only [List.getD_eq_getElem?_getD, List.getElem?_drop]
    rw [List.getElem?_take, if_pos hlt]

/-- A slice value that owns its row from block B on, and reads as l. -/
def Own (w : World) (B : Nat) (v : Value) (l : List Int) : Prop := w.ownsRow B 3 1 v l.length (l.map (Value.int .i64))

theorem Own.nil (w : World) (B : Nat) : Own w B (.slice none 0 0) [] := World.ownsRow_nil w B _ 1
theorem Own.form {w : World} {B : Nat} {v : Value} {l : List Int} (h : Own w B v l) (hl : 0 < l.length) : ∃ g cap, v = .slice (some ⟨g, 0, none⟩) l.length cap ∧ B ≤ g ∧ g < w.heap.size := by
  rcases h.2 with ⟨_, h0⟩ | ⟨g, cap, cur, rfl, hb, hg, _⟩
  · omega
  · exact ⟨g, cap, rfl, hb, (Array.getElem?_eq_some_iff.1 hg).1⟩
theorem Own.val {w : World} {B : Nat} {v : Value} {l : List Int} (h : Own w B v l) : ∃ A cap, v = .slice A l.length cap ∧ Rd w A l ∧ l.length ≤ cap := by
  rcases h.2 with ⟨rfl, h0⟩ | ⟨g, cap, cur, rfl, hb, hg, hn, hm, hcs, htake⟩
  · have : l = [] := List.eq_nil_of_length_eq_zero h0
    subst this
    exact ⟨none, 0, rfl, Rd.nil _ _, Nat.le_refl _⟩
  · refine ⟨some ⟨g, 0, none⟩, cap, rfl, fun i hi => ⟨g, 0, rfl, (Array.getElem?_eq_some_iff.1 hg).1, ?_⟩, hn⟩
    have := World.ownsRow.cellAt (w := w) (base := B) (e := 3) (size := 1) (g := g) (n := l.length) (cap := cap) (xs := l.map (Value.int .i64)) h i (by omega)
    rw [Nat.zero_add, this, List.getElem?_map, nth_eq l i hi]
    rfl
theorem Own.cell {w : World} {B g n cap : Nat} {l : List Int} (h : Own w B (.slice (some ⟨g, 0, none⟩) n cap) l) (i : Nat) (hi : i < l.length) : w.cell? ⟨g, i, none⟩ = some (.int .i64 (nth l i)) := by
  obtain ⟨g', cap', e, _, _⟩ := Own.form h (by omega)
  simp only [Value.slice.injEq, Option.some.injEq, Addr.mk.injEq, and_true] at e
  obtain ⟨rfl, rfl, rfl⟩ := e
  have := World.ownsRow.cellAt (w := w) (base := B) (e := 3) (size := 1) (g := g) (n := l.length) (cap := cap) (xs := l.map (Value.int .i64)) h i (by omega)
  rw [this, List.getElem?_map, nth_eq l i hi]
  rfl
theorem Own.free {w : World} {B g n cap : Nat} {l : List Int} (h : Own w B (.slice (some ⟨g, 0, none⟩) n cap) l) (i : Nat) : w.frozen? ⟨g, i, none⟩ = false := by
  rcases h.2 with ⟨h', _⟩ | ⟨g', cap', cur, h', _, hg, _⟩
  · simp at h'
  · simp only [Value.slice.injEq, Option.some.injEq, Addr.mk.injEq, and_true] at h'
    obtain ⟨rfl, _, _⟩ := h'
    exact frozen_of_row w g i cur _ hg
theorem Own.lt {w : World} {B g n cap : Nat} {l : List Int} (h : Own w B (.slice (some ⟨g, 0, none⟩) n cap) l) : B ≤ g ∧ g < w.heap.size := World.ownsRow.lt h g (by simp [Value.ownBlock])
theorem Own.grows {w w' : World} {B : Nat} {v : Value} {l : List Int} (h : Own w B v l) (k : Grows w w') : Own w' B v l := by
  refine ⟨h.1, ?_⟩
  rcases h.2 with hn | ⟨g, cap, cur, rfl, hb, hgg, rest⟩
  · exact .inl hn
  · exact .inr ⟨g, cap, cur, rfl, hb, by rw [k.block g (Array.getElem?_eq_some_iff.1 hgg).1]; exact hgg, rest⟩
theorem Own.alloc {w : World} {B : Nat} {v : Value} {l : List Int} (h : Own w B v l) (o : Obj) : Own (w.alloc o) B v l := h.grows ((Below.refl _ _).alloc (Nat.le_refl _) o)
theorem Own.drew {w : World} {B : Nat} {v : Value} {l : List Int} (h : Own w B v l) : Own w.drew B v l := h
theorem Own.drewN_ {w : World} {B : Nat} {v : Value} {l : List Int} (h : Own w B v l) {n : Nat} : Own (w.drewN n) B v l := h
theorem Rd.drewN_ {w : World} {A : Option Addr} {l : List Int} (h : Rd w A l) {n : Nat} : Rd (w.drewN n) A l := h
theorem Own.less {w : World} {B B' : Nat} {v : Value} {l : List Int} (h : Own w B v l) (hB : B' ≤ B) : Own w B' v l := by
  refine ⟨h.1, ?_⟩
  rcases h.2 with hn | ⟨g, cap, cur, rfl, hb, rest⟩
  · exact .inl hn
  · exact .inr ⟨g, cap, cur, rfl, by omega, rest⟩
/-- A store into the row itself. -/
theorem Own.set {w : World} {B g cap : Nat} {l : List Int} (h : Own w B (.slice (some ⟨g, 0, none⟩) l.length cap) l) (i : Nat) (x : Int) :
    Own (w.setCell ⟨g, i, none⟩ (.int .i64 x)) B (.slice (some ⟨g, 0, none⟩) l.length cap) (l.set i x) := by
  have := (World.ownsRow.stored (w := w) (base := B) (e := 3) (size := 1) (g := g) (n := l.length) (cap := cap) (xs := l.map (Value.int .i64)) h i (.int .i64 x)).1
  unfold Own
  rw [List.length_set, List.map_set]
  exact this
/-- A store elsewhere. -/
theorem Own.far {w : World} {B : Nat} {v : Value} {l : List Int} (h : Own w B v l) {p : Addr} (hp : ∀ g, v.ownBlock = some g → g ≠ p.block) (u : Value) : Own (w.setCell p u) B v l := by
  refine ⟨h.1, ?_⟩
  rcases h.2 with hn | ⟨g, cap, cur, rfl, hb, hgg, rest⟩
  · exact .inl hn
  · exact .inr ⟨g, cap, cur, rfl, hb, by rw [Below.heap_setCell _ _ _ _ (hp g rfl)]; exact hgg, rest⟩
/-- A store below the base. -/
theorem Own.low {w : World} {B : Nat} {v : Value} {l : List Int} (h : Own w B v l) {p : Addr} (hp : p.block < B) (u : Value) : Own (w.setCell p u) B v l := by
  refine ⟨h.1, ?_⟩
  rcases h.2 with hn | ⟨g, cap, cur, rfl, hb, hgg, rest⟩
  · exact .inl hn
  · exact .inr ⟨g, cap, cur, rfl, hb, by rw [Below.heap_setCell _ _ _ _ (by omega)]; exact hgg, rest⟩
theorem Own.of_lit (w : World) (B : Nat) (hB : B ≤ w.heap.size) (l : List Int) (h : l.length ≤ maxLen) :
    Own (w.alloc (.cells (l.map (Value.int .i64)).toArray 3)) B (.slice (some ⟨w.heap.size, 0, none⟩) l.length l.length) l := by
  have := World.ownsRow_lit (w := w) (base := B) (e := 3) (size := 1) (l.map (Value.int .i64)).toArray l.length hB h (by simp)
  exact this

theorem only_setCell {a w : World} {row : Option Nat} (h : a.grownBy w row) {p : Addr} (hp : row = some p.block) (u : Value) : a.grownBy (w.setCell p u) row :=
  ⟨h.os, h.tape, h.output, by simpa [World.setCell] using h.size, fun i hi hne => (Below.heap_setCell w p u i (fun e => hne (by rw [hp, e]))).trans (h.block i hi hne)⟩
theorem only_alloc_left {a w : World} {row : Option Nat} {o : Obj} (h : (a.alloc o).grownBy w row) : a.grownBy w row :=
  ⟨h.os, h.tape, h.output, Nat.le_trans (by simp) h.size, fun i hi hne => (h.block i (by simp; omega) hne).trans (Below.heap_alloc a o i hi)⟩
theorem only_left {a b c : World} {row : Option Nat} (h : Grows a b) (k : b.grownBy c row) : a.grownBy c row :=
  ⟨k.os.trans h.os, k.tape.trans h.tape, k.output.trans h.output, Nat.le_trans h.size k.size, fun i hi hne => (k.block i (Nat.lt_of_lt_of_le hi h.size) hne).trans (h.block i hi)⟩
theorem only_right {a b c : World} {row : Option Nat} (h : a.grownBy b row) (k : Grows b c) : a.grownBy c row :=
  ⟨k.os.trans h.os, k.tape.trans h.tape, k.output.trans h.output, Nat.le_trans h.size k.size, fun i hi hne => (k.block i (Nat.lt_of_lt_of_le hi h.size)).trans (h.block i hi hne)⟩

/-- The row of the type int. -/
theorem info_int : (Try.prog.info? 3).map (fun i => (i.zero, i.size, i.bytes)) = some (some (.int .i64 0), 1, 8) := by kernel_rfl

theorem bcell {B : Nat} {W w1 : World} (hb : Below B W w1) : (∀ b o, b < B → w1.cell? ⟨b, o, none⟩ = W.cell? ⟨b, o, none⟩) ∧ (∀ b o, b < B → w1.frozen? ⟨b, o, none⟩ = W.frozen? ⟨b, o, none⟩) :=
  ⟨fun b o h => hb.cell (p := ⟨b, o, none⟩) h, fun b o h => hb.frozen (p := ⟨b, o, none⟩) h⟩

theorem ret_int {k : IntKind} {a b : Int} (h : a = b) : Ending.returned (.int k a) = .returned (.int k b) := by rw [h]
theorem ret_bool {a b : Bool} (h : a = b) : Ending.returned (.bool a) = .returned (.bool b) := by rw [h]

end Go.Proofs.Ytpfijhcjempfjaa
