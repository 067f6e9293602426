/- Slices of fractions. -/
import Derived.Test.YtpfijhcjempfjaaRatF
import Derived.Test.YtpfijhcjempfjaaApp
namespace Go.Proofs.Ytpfijhcjempfjaa
open Go.RowKit

/-! ### rows of any kind -/
theorem ownsRow_grows {w w' : World} {B : Nat} {e : TypeId} {s n : Nat} {v : Value} {xs : List Value} (h : w.ownsRow B e s v n xs) (k : Grows w w') : w'.ownsRow B e s v n xs := by
  refine ⟨h.1, ?_⟩
  rcases h.2 with hn | ⟨g, cap, cur, rfl, hb, hgg, rest⟩
  · exact .inl hn
  · exact .inr ⟨g, cap, cur, rfl, hb, by rw [k.block g (Array.getElem?_eq_some_iff.1 hgg).1]; exact hgg, rest⟩
theorem ownsRow_less {w : World} {B B' : Nat} {e : TypeId} {s n : Nat} {v : Value} {xs : List Value} (h : w.ownsRow B e s v n xs) (hB : B' ≤ B) : w.ownsRow B' e s v n xs := by
  refine ⟨h.1, ?_⟩
  rcases h.2 with hn | ⟨g, cap, cur, rfl, hb, rest⟩
  · exact .inl hn
  · exact .inr ⟨g, cap, cur, rfl, by omega, rest⟩
theorem ownsRow_other {w w' : World} {B : Nat} {e : TypeId} {s n : Nat} {v o : Value} {xs : List Value} (h : w.ownsRow B e s o n xs) (hg : w.grownBy w' v.ownBlock) (hne : ∀ g, v.ownBlock = some g → o.ownBlock ≠ some g) : w'.ownsRow B e s o n xs := by
  refine World.ownsRow.kept h hg ?_
  cases e : o.ownBlock with
  | none => exact .inl rfl
  | some g =>
    right
    intro h2
    exact hne g h2.symm e
theorem ownsRow_far {w : World} {B : Nat} {e : TypeId} {s n : Nat} {v : Value} {xs : List Value} (h : w.ownsRow B e s v n xs) {p : Addr} (hp : ∀ g, v.ownBlock = some g → g ≠ p.block) (u : Value) : (w.setCell p u).ownsRow B e s v n xs := by
  refine ⟨h.1, ?_⟩
  rcases h.2 with hn | ⟨g, cap, cur, rfl, hb, hgg, rest⟩
  · exact .inl hn
  · exact .inr ⟨g, cap, cur, rfl, hb, by rw [Below.heap_setCell _ _ _ _ (hp g rfl)]; exact hgg, rest⟩
theorem ownsRow_form {w : World} {B : Nat} {e : TypeId} {s n : Nat} {v : Value} {xs : List Value} (h : w.ownsRow B e s v n xs) (hl : 0 < n) : ∃ g cap, v = .slice (some ⟨g, 0, none⟩) n cap ∧ B ≤ g ∧ g < w.heap.size := by
  rcases h.2 with ⟨_, h0⟩ | ⟨g, cap, cur, rfl, hb, hg, _⟩
  · omega
  · exact ⟨g, cap, rfl, hb, (Array.getElem?_eq_some_iff.1 hg).1⟩
theorem ownsRow_free {w : World} {B g n cap s m : Nat} {e : TypeId} {xs : List Value} (h : w.ownsRow B e s (.slice (some ⟨g, 0, none⟩) n cap) m xs) (i : Nat) : w.frozen? ⟨g, i, none⟩ = false := by
  rcases h.2 with ⟨h', _⟩ | ⟨g', cap', cur, h', _, hg, _⟩
  · simp at h'
  · simp only [Value.slice.injEq, Option.some.injEq, Addr.mk.injEq, and_true] at h'
    obtain ⟨rfl, _, _⟩ := h'
    exact frozen_of_row w g i cur _ hg

/-! ### fractions, flat -/
def nthQ (l : List Q2) (i : Nat) : Q2 := l.getD i (0, 0)
def flatV : List Q2 → List Value
  | [] => []
  | q :: l => .int .i64 q.1 :: .int .i64 q.2 :: flatV l
theorem flatV_length (l : List Q2) : (flatV l).length = l.length * 2 := by
  induction l with
  | nil => rfl
  | cons q l ih => simp [flatV, ih]; omega
theorem flatV_append (a b : List Q2) : flatV (a ++ b) = flatV a ++ flatV b := by
  induction a with
  | nil => rfl
  | cons q a ih => simp [flatV, ih]
theorem nthQ_cons_succ (q : Q2) (l : List Q2) (i : Nat) : nthQ (q :: l) (i + 1) = nthQ l i := by simp [nthQ]
theorem flatV_get (l : List Q2) (i : Nat) (h : i < l.length) : (flatV l)[i * 2]? = some (.int .i64 (nthQ l i).1) ∧ (flatV l)[i * 2 + 1]? = some (.int .i64 (nthQ l i).2) := by
  induction l generalizing i with
  | nil => simp at h
  | cons q l ih =>
    cases i with
    | zero => exact ⟨rfl, rfl⟩
    | succ i =>
      rw [nthQ_cons_succ]
      rw [show (i + 1) * 2 = i * 2 + 2 by omega]
      have := ih i (by simp at h; omega)
      simpa [flatV] using this
theorem nthQ_get (l : List Q2) (i : Nat) (h : i < l.length) : nthQ l i = l[i] := by simp [nthQ, h]
theorem nthQ_ext {a b : List Q2} (h : a.length = b.length) (h2 : ∀ i, i < a.length → nthQ a i = nthQ b i) : a = b := by
  apply List.ext_getElem h
  intro i h1 h3
  have := h2 i h1
  rwa [nthQ_get _ _ h1, nthQ_get _ _ h3] at this
theorem nthQ_set (l : List Q2) (i j : Nat) (x : Q2) (h : i < l.length) : nthQ (l.set i x) j = if j = i then x else nthQ l j := by
  unfold nthQ
  simp only [List.getD_eq_getElem?_getD, List.getElem?_set]
  by_cases e : i = j
  · subst e; simp [h]
  · rw [if_neg e, if_neg (fun e' => e e'.symm)]
theorem nthQ_append_left (a b : List Q2) (i : Nat) (h : i < a.length) : nthQ (a ++ b) i = nthQ a i := by
  unfold nthQ; simp [List.getElem?_append_left h]
theorem nthQ_append_last (a : List Q2) (q : Q2) : nthQ (a ++ [q]) a.length = q := by
  unfold nthQ; simp
theorem flatV_set1 (l : List Q2) (i : Nat) (x : Int) (h : i < l.length) : (flatV l).set (i * 2) (.int .i64 x) = flatV (l.set i (x, (nthQ l i).2)) := by
  induction l generalizing i with
  | nil => simp at h
  | cons q l ih =>
    cases i with
    | zero => rfl
    | succ i =>
      rw [nthQ_cons_succ, show (i + 1) * 2 = i * 2 + 2 by omega]
      have := ih i (by simp at h; omega)
      simpa [flatV] using this
theorem flatV_set2 (l : List Q2) (i : Nat) (x : Int) (h : i < l.length) : (flatV l).set (i * 2 + 1) (.int .i64 x) = flatV (l.set i ((nthQ l i).1, x)) := by
  induction l generalizing i with
  | nil => simp at h
  | cons q l ih =>
    cases i with
    | zero => rfl
    | succ i =>
      rw [nthQ_cons_succ, show (i + 1) * 2 + 1 = i * 2 + 1 + 2 by omega]
      have := ih i (by simp at h; omega)
      simpa [flatV] using this

/-- the slice at A reads as the fractions l -/
def RdQ (w : World) (A : Option Addr) (l : List Q2) : Prop := ∀ i, i < l.length → ∃ b off, A = some ⟨b, off, none⟩ ∧ b < w.heap.size ∧ w.cell? ⟨b, off + i * 2, none⟩ = some (.int .i64 (nthQ l i).1) ∧ w.cell? ⟨b, off + i * 2 + 1, none⟩ = some (.int .i64 (nthQ l i).2)
/-- the slice value owns its row of fractions, from block B on -/
def OwnQ (w : World) (B : Nat) (v : Value) (l : List Q2) : Prop := w.ownsRow B 47 2 v l.length (flatV l)
theorem RdQ.nil (w : World) (A : Option Addr) : RdQ w A [] := fun i h => by simp at h
theorem RdQ.grows {w w' : World} {A : Option Addr} {l : List Q2} (h : RdQ w A l) (k : Grows w w') : RdQ w' A l := fun i hi => by
  obtain ⟨b, off, e, hb, h1, h2⟩ := h i hi
  exact ⟨b, off, e, Nat.lt_of_lt_of_le hb k.size, (k.cell (p := ⟨b, off + i * 2, none⟩) hb).trans h1, (k.cell (p := ⟨b, off + i * 2 + 1, none⟩) hb).trans h2⟩
theorem OwnQ.grows {w w' : World} {B : Nat} {v : Value} {l : List Q2} (h : OwnQ w B v l) (k : Grows w w') : OwnQ w' B v l := ownsRow_grows h k
theorem OwnQ.alloc {w : World} {B : Nat} {v : Value} {l : List Q2} (h : OwnQ w B v l) (o : Obj) : OwnQ (w.alloc o) B v l := h.grows ((Below.refl _ _).alloc (Nat.le_refl _) o)
theorem OwnQ.less {w : World} {B B' : Nat} {v : Value} {l : List Q2} (h : OwnQ w B v l) (hB : B' ≤ B) : OwnQ w B' v l := ownsRow_less h hB
theorem OwnQ.val {w : World} {B : Nat} {v : Value} {l : List Q2} (h : OwnQ w B v l) : ∃ A cap, v = .slice A l.length cap ∧ RdQ w A l ∧ l.length ≤ cap := by
  rcases h.2 with ⟨rfl, h0⟩ | ⟨g, cap, cur, rfl, hb, hg, hn, hm, hcs, htake⟩
  · have : l = [] := List.eq_nil_of_length_eq_zero h0
    subst this
    exact ⟨none, 0, rfl, RdQ.nil _ _, Nat.le_refl _⟩
  · refine ⟨some ⟨g, 0, none⟩, cap, rfl, fun i hi => ⟨g, 0, rfl, (Array.getElem?_eq_some_iff.1 hg).1, ?_, ?_⟩, hn⟩
    · have := World.ownsRow.cellAt (w := w) (base := B) (e := 47) (size := 2) (g := g) (n := l.length) (cap := cap) (xs := flatV l) h (i * 2) (by omega)
      rw [Nat.zero_add, this, (flatV_get l i hi).1]
    · have := World.ownsRow.cellAt (w := w) (base := B) (e := 47) (size := 2) (g := g) (n := l.length) (cap := cap) (xs := flatV l) h (i * 2 + 1) (by omega)
      rw [Nat.zero_add, this, (flatV_get l i hi).2]
theorem OwnQ.rd {w : World} {B n c : Nat} {A : Option Addr} {l : List Q2} (h : OwnQ w B (.slice A n c) l) : RdQ w A l := by
  obtain ⟨A', c', e, hr, _⟩ := h.val
  injection e with e1 _ _
  rw [e1]; exact hr
theorem OwnQ.new_ (w : World) {B b : Nat} (hb : w.heap.size = b) (hB : B ≤ b) : OwnQ (w.alloc (.cells #[] 47)) B (.slice (some ⟨b, 0, none⟩) 0 0) [] := by
  subst hb
  exact World.ownsRow_lit (w := w) (base := B) (e := 47) (size := 2) #[] 0 hB (by simp [maxLen]) (by simp)
theorem OwnQ.nil (w : World) (B : Nat) : OwnQ w B (.slice none 0 0) [] := World.ownsRow_nil w B _ 2
theorem OwnQ.set1 {w : World} {B g cap : Nat} {l : List Q2} (h : OwnQ w B (.slice (some ⟨g, 0, none⟩) l.length cap) l) (i : Nat) (hi : i < l.length) (x : Int) :
    OwnQ (w.setCell ⟨g, i * 2, none⟩ (.int .i64 x)) B (.slice (some ⟨g, 0, none⟩) l.length cap) (l.set i (x, (nthQ l i).2)) := by
  have := (World.ownsRow.stored (w := w) (base := B) (e := 47) (size := 2) (g := g) (n := l.length) (cap := cap) (xs := flatV l) h (i * 2) (.int .i64 x)).1
  unfold OwnQ
  rw [List.length_set, ← flatV_set1 _ _ _ hi]
  exact this
theorem OwnQ.set2 {w : World} {B g cap : Nat} {l : List Q2} (h : OwnQ w B (.slice (some ⟨g, 0, none⟩) l.length cap) l) (i : Nat) (hi : i < l.length) (x : Int) :
    OwnQ (w.setCell ⟨g, i * 2 + 1, none⟩ (.int .i64 x)) B (.slice (some ⟨g, 0, none⟩) l.length cap) (l.set i ((nthQ l i).1, x)) := by
  have := (World.ownsRow.stored (w := w) (base := B) (e := 47) (size := 2) (g := g) (n := l.length) (cap := cap) (xs := flatV l) h (i * 2 + 1) (.int .i64 x)).1
  unfold OwnQ
  rw [List.length_set, ← flatV_set2 _ _ _ hi]
  exact this

theorem info_ratio : (Try.prog.info? 47).map (fun i => (i.zero, i.size, i.bytes)) = some (some (.agg #[.int .i64 0, .int .i64 0]), 2, 16) := by kernel_rfl
/-- out = append(out, q) -/
theorem wpList_appQ1 {ops : Array Oper} {rest : List Oper} {o : Oper} {a : Act} {Q : Exit → Act → World → Prop} (hgd : o.guard = none) (s x : Operand)
    (ho : o.op = .call { callee := .builtin .append, args := #[s, x], argTypes := #[41, 41] }) (w : World) (z : Q2)
    (B : Nat) (v : Value) (l : List Q2) (hs : a.eval s = v) (hown : OwnQ w B v l) (hx : a.eval x = .slice (some ⟨w.heap.size, 0, none⟩) 1 1)
    (hl : l.length + 1 ≤ 1099511627776) (hB : B ≤ w.heap.size)
    (h : ∀ v' w', OwnQ w' B v' (l ++ [z]) → w.grownBy w' v.ownBlock → (v'.ownBlock = v.ownBlock ∨ ∃ g, v'.ownBlock = some g ∧ w.heap.size ≤ g) → wpList Try.prog ops Q rest (a.put o.dst v') w') :
    wpList Try.prog ops Q (o :: rest) a (w.alloc (.cells #[.int .i64 z.1, .int .i64 z.2] 47)) := by
  obtain ⟨i0, hi0, hz0, hz1, hz2⟩ := info_parts info_ratio
  obtain ⟨v', w', hrun, h2, h3, _, h5⟩ := run_append_own_at (P := Try.prog) (w.alloc (.cells #[.int .i64 z.1, .int .i64 z.2] 47)) B 41 o.type 47 i0 (.agg #[.int .i64 0, .int .i64 0]) 2 16 Try.underlying41 hi0 hz0 hz1 hz2 rfl (by omega) v l.length (flatV l) (hown.alloc _)
    ⟨w.heap.size, 0, none⟩ 1 1 [.int .i64 z.1, .int .i64 z.2] (by simp) (by
      intro j u hu
      match j with
      | 0 => simp at hu; subst hu; simp [Addr.add, go_sem]
      | 1 => simp at hu; subst hu; simp [Addr.add, go_sem]
      | j + 2 => simp at hu) (by intro u hu; simp at hu; rcases hu with rfl | rfl <;> rfl) (by simp [maxLen]; omega) (by omega) (by simp; omega)
  refine wpList_plain hgd fun _ hK => ?_
  unfold Oper.wp execOp
  simp only [ho, resolve, invoke, builtin, Sem.run_bind, Sem.run_pure, Result.andThen_ok, List.map_toArray, List.map_cons, List.map_nil, hs, hx, hrun]
  refine hK _ _ (h v' w' ?_ ?_ ?_)
  · unfold OwnQ
    rw [List.length_append, flatV_append]
    exact h2
  · exact ⟨h3.os, h3.tape, h3.output, Nat.le_trans (by simp) h3.size, fun k hk hne => (h3.block k (by simp; omega) hne).trans (Below.heap_alloc w _ k hk)⟩
  · rcases h5 with h5 | h5
    · exact .inl h5
    · exact .inr ⟨_, h5, by simp⟩
theorem below_appR {B : Nat} {w w' : World} {e : TypeId} {s n : Nat} {v : Value} {xs : List Value} (hown : w.ownsRow B e s v n xs) (hB : B ≤ w.heap.size) (h : w.grownBy w' v.ownBlock) : Below B w w' :=
  (Below.refl _ _).grown h hB fun k hk => (World.ownsRow.lt hown k hk).1
theorem apart_appR {w : World} {B : Nat} {e : TypeId} {s n : Nat} {v v' o : Value} {xs : List Value} (ho : w.ownsRow B e s o n xs) (hne : ∀ g, v.ownBlock = some g → o.ownBlock ≠ some g) (h : v'.ownBlock = v.ownBlock ∨ ∃ g, v'.ownBlock = some g ∧ w.heap.size ≤ g) : ∀ g, v'.ownBlock = some g → o.ownBlock ≠ some g := by
  intro g hg hog
  rcases h with h | ⟨g', h1, h2⟩
  · exact hne g (by rw [← h]; exact hg) hog
  · rw [hg] at h1
    cases h1
    have := (World.ownsRow.lt ho g hog).2
    omega
end Go.Proofs.Ytpfijhcjempfjaa
