/- Appending integers to a row of the call's own. -/
import Derived.Test.YtpfijhcjempfjaaMem
import Derived.Maps.AppendAt
import Derived.OwnWalk
namespace Go.Proofs.Ytpfijhcjempfjaa
open Go.RowKit

theorem Own.mk_empty (w : World) (B : Nat) (hB : B ≤ w.heap.size) : Own (w.alloc (.cells #[] 3)) B (.slice (some ⟨w.heap.size, 0, none⟩) 0 0) [] := by
  have := Own.of_lit w B hB [] (by simp)
  simpa using this

/-- append of the integers at a slice that reads as m. -/
theorem run_app (w : World) (ty : TypeId) (B : Nat) (v : Value) (l : List Int) (hown : Own w B v l) (A : Option Addr) (m : List Int) (c : Nat) (hr : Rd w A m)
    (hl : l.length + m.length ≤ 1099511627776) (hB : B ≤ w.heap.size) :
    ∃ v' w', (Builtin.append_ #[22, 22] ty #[v, .slice A m.length c]).run Try.prog w = .ok v' w' ∧ Own w' B v' (l ++ m) ∧ w.grownBy w' v.ownBlock ∧ (v'.ownBlock = v.ownBlock ∨ v'.ownBlock = some w.heap.size) := by
  obtain ⟨i0, hi0, hz0, hz1, hz2⟩ := info_parts info_int
  by_cases hm : m = []
  · subst hm
    rcases A with _ | ad
    · refine ⟨v, w, ?_, by simpa using hown, World.grownBy.refl w _, .inl rfl⟩
      rcases hown.2 with ⟨rfl, h0⟩ | ⟨g, cap, cur, rfl, _, _, hnc, _⟩
      · simp [Builtin.append_, run_underlying Try.underlying22, sizeOf, typeInfo, hi0, Builtin.lenOf, Builtin.firstCells]
      · simp [Builtin.append_, run_underlying Try.underlying22, sizeOf, typeInfo, hi0, Builtin.lenOf, Builtin.firstCells, hnc, storeCells]
    · obtain ⟨v', w', hrun, h2, h3, _, h5⟩ := run_append_own_at (P := Try.prog) w B 22 ty 3 i0 (.int .i64 0) 1 8 Try.underlying22 hi0 hz0 hz1 hz2 rfl (by omega) v l.length (l.map (Value.int .i64)) hown
        ad 0 c [] (by simp) (by simp) (by simp) (by simp [maxLen] at *; omega) (by simp at hl; omega) hB
      exact ⟨v', w', hrun, by unfold Own; simpa using h2, h3, h5⟩
  · have hpos : 0 < m.length := List.length_pos_iff.2 hm
    obtain ⟨b, off, rfl, _, _⟩ := hr 0 hpos
    have hcell : ∀ j u, (m.map (Value.int .i64))[j]? = some u → w.cell? ((⟨b, off, none⟩ : Addr).add j) = some u := by
      intro j u hu
      rw [List.getElem?_map] at hu
      obtain ⟨x, hx, rfl⟩ := Option.map_eq_some_iff.1 hu
      have hj : j < m.length := (List.getElem?_eq_some_iff.1 hx).1
      obtain ⟨b', off', e, _, hc⟩ := hr j hj
      simp only [Option.some.injEq, Addr.mk.injEq, and_true] at e
      obtain ⟨rfl, rfl⟩ := e
      have hn : nth m j = x := by have := nth_eq m j hj; rw [hx] at this; exact (Option.some.inj this).symm
      rw [hn] at hc
      rw [← hc]
      unfold Addr.add
      by_cases e : j = 0 <;> simp [e]
    obtain ⟨v', w', hrun, h2, h3, _, h5⟩ := run_append_own_at (P := Try.prog) w B 22 ty 3 i0 (.int .i64 0) 1 8 Try.underlying22 hi0 hz0 hz1 hz2 rfl (by omega) v l.length (l.map (Value.int .i64)) hown
      ⟨b, off, none⟩ m.length c (m.map (Value.int .i64)) (by simp) hcell (ints_oneCell .i64 m) (by simp [maxLen]; omega) (by omega) hB
    exact ⟨v', w', hrun, by unfold Own; rw [List.length_append, List.map_append]; exact h2, h3, h5⟩

theorem wpList_app {ops : Array Oper} {rest : List Oper} {o : Oper} {a : Act} {Q : Exit → Act → World → Prop} (hgd : o.guard = none) (s x : Operand)
    (ho : o.op = .call { callee := .builtin .append, args := #[s, x], argTypes := #[22, 22] }) (w : World)
    (B : Nat) (v : Value) (l : List Int) (hs : a.eval s = v) (hown : Own w B v l) (A : Option Addr) (m : List Int) (n c : Nat) (hx : a.eval x = .slice A n c) (hn : m.length = n) (hr : Rd w A m)
    (hl : l.length + m.length ≤ 1099511627776) (hB : B ≤ w.heap.size)
    (h : ∀ v' w', Own w' B v' (l ++ m) → w.grownBy w' v.ownBlock → (v'.ownBlock = v.ownBlock ∨ v'.ownBlock = some w.heap.size) → wpList Try.prog ops Q rest (a.put o.dst v') w') : wpList Try.prog ops Q (o :: rest) a w := by
  subst hn
  obtain ⟨v', w', hrun, h2, h3, h4⟩ := run_app w o.type B v l hown A m c hr hl hB
  refine wpList_plain hgd fun _ hK => ?_
  unfold Oper.wp execOp
  simp only [ho, resolve, invoke, builtin, Sem.run_bind, Sem.run_pure, Result.andThen_ok, List.map_toArray, List.map_cons, List.map_nil, hs, hx, hrun]
  exact hK _ _ (h v' w' h2 h3 h4)

/-- A one-cell block, as append's new element comes. -/
theorem Rd.one (w : World) (x : Int) : Rd (w.alloc (.cells #[.int .i64 x] 3)) (some ⟨w.heap.size, 0, none⟩) [x] := by
  intro i hi
  simp at hi
  subst hi
  exact ⟨w.heap.size, 0, rfl, by simp, by simp [go_sem, nth]⟩

/-- out = append(out, x): the new element lies in a new block of one cell. -/
theorem wpList_app1 {ops : Array Oper} {rest : List Oper} {o : Oper} {a : Act} {Q : Exit → Act → World → Prop} (hgd : o.guard = none) (s x : Operand)
    (ho : o.op = .call { callee := .builtin .append, args := #[s, x], argTypes := #[22, 22] }) (w : World) (z : Int)
    (B : Nat) (v : Value) (l : List Int) (hs : a.eval s = v) (hown : Own w B v l) (hx : a.eval x = .slice (some ⟨w.heap.size, 0, none⟩) 1 1)
    (hl : l.length + 1 ≤ 1099511627776) (hB : B ≤ w.heap.size)
    (h : ∀ v' w', Own w' B v' (l ++ [z]) → w.grownBy w' v.ownBlock → (v'.ownBlock = v.ownBlock ∨ ∃ g, v'.ownBlock = some g ∧ w.heap.size ≤ g) → wpList Try.prog ops Q rest (a.put o.dst v') w') :
    wpList Try.prog ops Q (o :: rest) a (w.alloc (.cells #[.int .i64 z] 3)) := by
  refine wpList_app hgd s x ho _ B v l hs (hown.alloc _) _ [z] 1 1 hx rfl (Rd.one w z) (by simpa using hl) (by simp; omega) fun v' w' h1 h2 h3 => h v' w' h1 ?_ ?_
  · exact ⟨h2.os, h2.tape, h2.output, Nat.le_trans (by simp) h2.size, fun k hk hne => (h2.block k (by simp; omega) hne).trans (Below.heap_alloc w _ k hk)⟩
  · rcases h3 with h3 | h3
    · exact .inl h3
    · exact .inr ⟨_, h3, by simp⟩

/-- What an append leaves below the row's base is as it was. -/
theorem below_app {B : Nat} {w w' : World} {v : Value} {l : List Int} (hown : Own w B v l) (hB : B ≤ w.heap.size) (h : w.grownBy w' v.ownBlock) : Below B w w' :=
  (Below.refl _ _).grown h hB fun k hk => (World.ownsRow.lt hown k hk).1
end Go.Proofs.Ytpfijhcjempfjaa
