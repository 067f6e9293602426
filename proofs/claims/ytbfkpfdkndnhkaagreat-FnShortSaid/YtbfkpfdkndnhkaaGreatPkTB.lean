/- Contracts and lemmas, put together. -/
import Derived.Deep.DeepCutAuto
import Derived.Test.YtbfkpfdkndnhkaaGreatPkA
import Derived.Test.YtbfkpfdkndnhkaaGreatPkB
import Derived.Test.YtbfkpfdkndnhkaaGreatPkCS
import Derived.Test.YtbfkpfdkndnhkaaGreatPkD
import Derived.Test.YtbfkpfdkndnhkaaGreatPkES
/- Contracts: the squares of the orthogonal vectors. -/
namespace Go.Proofs.YtbfkpfdkndnhkaaGreat
set_option linter.unusedSimpArgs false
set_option linter.unusedVariables false
open Go.RowKit

def befP (L : List Int) : Nat → Int
  | 0 => 1
  | i + 1 => nth L i
def sqP (L : List Int) : Nat → List Q2
  | 0 => []
  | i + 1 => sqP L i ++ [makeQ (nth L i) (befP L i)]
theorem sqP_length (L : List Int) (i : Nat) : (sqP L i).length = i := by
  induction i with
  | zero => rfl
  | succ i ih => rw [sqP]; simp [ih]
def sqO (r c : Int) (l : List Int) : Option (List Q2) := if isDef r c l then some (sqP (oL (lmO r c l)) (oL (lmO r c l)).length) else none
def oLQ (o : Option (List Q2)) : List Q2 := o.getD []
theorem sqO_length {r c : Int} {l : List Int} : (oLQ (sqO r c l)).length ≤ 1048576 := by
  unfold sqO
  split
  · show (sqP _ _).length ≤ _
    rw [sqP_length]
    cases hx : lmO r c l with
    | none => simp [oL]
    | some s => have := lmO_length hx; simp [oL]; omega
  · simp [oLQ]
theorem oL_lm_length (r c : Int) (l : List Int) : (oL (lmO r c l)).length ≤ 1048576 := by
  cases hx : lmO r c l with
  | none => simp [oL]
  | some s => have := lmO_length hx; simp [oL]; omega

section
set_option maxHeartbeats 1000000
end
end Go.Proofs.YtbfkpfdkndnhkaaGreat

/- Plain: the account of the orthogonal vectors; words on memory for it. -/
namespace Go.Proofs.YtbfkpfdkndnhkaaGreat
set_option linter.unusedSimpArgs false
set_option linter.unusedVariables false
open Go.RowKit

theorem RdQ.at_ {w : World} {A : Option Addr} {l : List Q2} (h : RdQ w A l) (i : Nat) (hi : i < l.length) : ∃ b off, A = some ⟨b, off, none⟩ ∧ b < w.heap.size ∧ w.cell? ⟨b, off + i * 2, none⟩ = some (.int .i64 (nthQ l i).1) ∧ w.cell? ⟨b, off + i * 2 + 1, none⟩ = some (.int .i64 (nthQ l i).2) := h i hi
def muX (x0 : Int) (sq row oth : List Q2) : Nat → Q2
  | 0 => (x0, 1)
  | k + 1 => addQ (muX x0 sq row oth k) (negQ (mulQ (mulQ (nthQ row k) (nthQ oth k)) (nthQ sq k)))
def cofX (C : Nat) (l : List Int) (mu : List (List Q2)) (sq : List Q2) (i : Nat) (row : List Q2) (j : Nat) : Q2 := muX (nth l (i * C + j)) sq row (mu.getD j []) j
def lastX (C : Nat) (l : List Int) (sq : List Q2) (i : Nat) (row : List Q2) : Q2 := muX (nth l (i * C + i)) sq row row i
def rowF (C : Nat) (l : List Int) (mu : List (List Q2)) (sq : List Q2) (i : Nat) : Nat → Option (List Q2)
  | 0 => some []
  | j + 1 => (rowF C l mu sq i j).bind fun row => if okQ (cofX C l mu sq i row j) then some (row ++ [divQ (cofX C l mu sq i row j) (nthQ sq j)]) else none
def accS (C : Nat) (l : List Int) (i : Nat) (s : List (List Q2) × List Q2) : Option (List (List Q2) × List Q2) :=
  (rowF C l s.1 s.2 i i).bind fun row => if okQ (lastX C l s.2 i row) && decide (0 < (lastX C l s.2 i row).1) then some (s.1 ++ [row], s.2 ++ [lastX C l s.2 i row]) else none
def accF (C : Nat) (l : List Int) : Nat → Option (List (List Q2) × List Q2)
  | 0 => some ([], [])
  | i + 1 => (accF C l i).bind (accS C l i)
theorem rowF_none {C : Nat} {l : List Int} {mu : List (List Q2)} {sq : List Q2} {i j k : Nat} (h : rowF C l mu sq i j = none) (hk : j ≤ k) : rowF C l mu sq i k = none := by
  induction k with
  | zero => obtain rfl : j = 0 := by omega
            exact h
  | succ k ih =>
    by_cases e : j = k + 1
    · rw [← e]; exact h
    · rw [rowF, ih (by omega)]; rfl
theorem rowF_len {C : Nat} {l : List Int} {mu : List (List Q2)} {sq : List Q2} {i j : Nat} {row : List Q2} (h : rowF C l mu sq i j = some row) : row.length = j := by
  induction j generalizing row with
  | zero => cases h; rfl
  | succ j ih =>
    rw [rowF] at h
    obtain ⟨r, h1, h2⟩ := Option.bind_eq_some_iff.1 h
    split at h2
    · cases h2; simp [ih h1]
    · cases h2
theorem rowF_fail {C : Nat} {l : List Int} {mu : List (List Q2)} {sq : List Q2} {i j : Nat} {row : List Q2} (h : rowF C l mu sq i j = some row) (h2 : okQ (cofX C l mu sq i row j) = false) : rowF C l mu sq i (j + 1) = none := by rw [rowF, h, Option.bind_some, h2]; rfl
theorem rowF_next {C : Nat} {l : List Int} {mu : List (List Q2)} {sq : List Q2} {i j : Nat} {row : List Q2} (h : rowF C l mu sq i j = some row) (h2 : okQ (cofX C l mu sq i row j) = true) : rowF C l mu sq i (j + 1) = some (row ++ [divQ (cofX C l mu sq i row j) (nthQ sq j)]) := by rw [rowF, h, Option.bind_some, h2]; rfl
theorem accF_none {C : Nat} {l : List Int} {i k : Nat} (h : accF C l i = none) (hk : i ≤ k) : accF C l k = none := by
  induction k with
  | zero => obtain rfl : i = 0 := by omega
            exact h
  | succ k ih =>
    by_cases e : i = k + 1
    · rw [← e]; exact h
    · rw [accF, ih (by omega)]; rfl
theorem accF_next {C : Nat} {l : List Int} {i : Nat} {s : List (List Q2) × List Q2} (h : accF C l i = some s) : accF C l (i + 1) = accS C l i s := by rw [accF, h]; rfl
theorem acc_row {C n : Nat} {l : List Int} {i j : Nat} {s : List (List Q2) × List Q2} {row : List Q2} (h : accF C l i = some s) (hn : i < n) (hj : j < i) (h1 : rowF C l s.1 s.2 i j = some row) (h2 : okQ (cofX C l s.1 s.2 i row j) = false) : accF C l n = none := by
  refine accF_none (i := i + 1) ?_ (by omega)
  rw [accF_next h, accS, rowF_none (rowF_fail h1 h2) (by omega)]; rfl
theorem acc_last {C n : Nat} {l : List Int} {i : Nat} {s : List (List Q2) × List Q2} {row : List Q2} (h : accF C l i = some s) (hn : i < n) (h1 : rowF C l s.1 s.2 i i = some row) (h2 : okQ (lastX C l s.2 i row) = false ∨ (lastX C l s.2 i row).1 ≤ 0) : accF C l n = none := by
  refine accF_none (i := i + 1) ?_ (by omega)
  rw [accF_next h, accS, h1, Option.bind_some, if_neg]
  rcases h2 with h2 | h2
  · simp [h2]
  · simp; omega
theorem acc_next {C : Nat} {l : List Int} {i : Nat} {s : List (List Q2) × List Q2} {row : List Q2} (h : accF C l i = some s) (h1 : rowF C l s.1 s.2 i i = some row) (h2 : okQ (lastX C l s.2 i row) = true) (h3 : 0 < (lastX C l s.2 i row).1) : accF C l (i + 1) = some (s.1 ++ [row], s.2 ++ [lastX C l s.2 i row]) := by
  rw [accF_next h, accS, h1, Option.bind_some, if_pos]
  simp [h2, h3]
structure AccI (i : Nat) (s : List (List Q2) × List Q2) : Prop where
  l1 : s.1.length = i
  l2 : s.2.length = i
  row : ∀ j, j < i → (s.1.getD j []).length = j
theorem accF_inv {C : Nat} {l : List Int} {i : Nat} {s : List (List Q2) × List Q2} (h : accF C l i = some s) : AccI i s := by
  induction i generalizing s with
  | zero => cases h; exact ⟨rfl, rfl, fun j h => by omega⟩
  | succ i ih =>
    rw [accF] at h
    obtain ⟨t, h1, h2⟩ := Option.bind_eq_some_iff.1 h
    have hi := ih h1
    unfold accS at h2
    obtain ⟨row, h3, h4⟩ := Option.bind_eq_some_iff.1 h2
    split at h4
    · cases h4
      refine ⟨by simp [hi.l1], by simp [hi.l2], fun j hj => ?_⟩
      by_cases e : j < i
      · have := hi.row j e
        simp only [List.getD_eq_getElem?_getD] at this ⊢
        rw [List.getElem?_append_left (by rw [hi.l1]; exact e)]; exact this
      · obtain rfl : j = i := by omega
        simp only [List.getD_eq_getElem?_getD]
        rw [List.getElem?_append_right (by rw [hi.l1]; exact Nat.le_refl _), hi.l1, Nat.sub_self]
        exact rowF_len h3
    · cases h4

theorem QBox.put {w : World} {b : Nat} {q : Q2} (h : QBox w b q) (z : Q2) : QBox ((w.setCell ⟨b, 0, none⟩ (.int .i64 z.1)).setCell ⟨b, 1, none⟩ (.int .i64 z.2)) b z := by
  have h0 := h.c0; have h1 := h.c1; have hf := h.fz; have hl := h.lt
  exact ⟨by simp; exact hl, by simp [go_sem, h0], by simp [go_sem, h1], fun o => by simp [go_sem, hf]⟩
/-- a variable of two slices -/
structure SBox (w : World) (b : Nat) (u v : Value) : Prop where
  lt : b < w.heap.size
  c0 : w.cell? ⟨b, 0, none⟩ = some u
  c1 : w.cell? ⟨b, 1, none⟩ = some v
  fz : ∀ o, w.frozen? ⟨b, o, none⟩ = false
theorem SBox.cells {w : World} {b : Nat} {u v : Value} (h : SBox w b u v) : w.cell? ⟨b, 0, none⟩ = some u ∧ w.cell? ⟨b, 1, none⟩ = some v := ⟨h.c0, h.c1⟩
theorem SBox.keep {w w' : World} {B b : Nat} {u v : Value} (h : SBox w b u v) (k : Below B w w') (hB : b < B) : SBox w' b u v :=
  ⟨Nat.lt_of_lt_of_le h.lt k.size, (k.cell (p := ⟨b, 0, none⟩) hB).trans h.c0, (k.cell (p := ⟨b, 1, none⟩) hB).trans h.c1, fun o => (k.frozen (p := ⟨b, o, none⟩) hB).trans (h.fz o)⟩
theorem SBox.grows {w w' : World} {b : Nat} {u v : Value} (h : SBox w b u v) (k : Grows w w') : SBox w' b u v := h.keep k h.lt
theorem SBox.new_ (w : World) (u v : Value) (t : TypeId) {b : Nat} (hb : w.heap.size = b) : SBox (w.alloc (.cells #[u, v] t)) b u v := by
  subst hb
  exact ⟨by simp, by simp [go_sem], by simp [go_sem], fun o => by simp [go_sem]⟩
theorem SBox.of_block {w w' : World} {b : Nat} {u v : Value} (h : SBox w b u v) (hk : w'.heap[b]? = w.heap[b]?) (hs : w.heap.size ≤ w'.heap.size) : SBox w' b u v :=
  ⟨Nat.lt_of_lt_of_le h.lt hs, (World.cell?_of_block hk).trans h.c0, (World.cell?_of_block hk).trans h.c1, fun o => by
    have := h.fz o
    unfold World.frozen? at this ⊢
    simpa [hk] using this⟩
theorem SBox.own {w w' : World} {b : Nat} {u v : Value} {r : Option Nat} (h : SBox w b u v) (hg : w.grownBy w' r) (hne : r ≠ some b) : SBox w' b u v :=
  h.of_block (hg.block b h.lt (fun e => hne e.symm)) hg.size
theorem SBox.put0 {w : World} {b : Nat} {u v : Value} (h : SBox w b u v) (x : Value) : SBox (w.setCell ⟨b, 0, none⟩ x) b x v := by
  have h0 := h.c0; have h1 := h.c1; have hf := h.fz; have hl := h.lt
  exact ⟨by simp; exact hl, by simp [go_sem, h0], by simp [go_sem, h1], fun o => by simp [go_sem, hf]⟩
theorem SBox.put1 {w : World} {b : Nat} {u v : Value} (h : SBox w b u v) (x : Value) : SBox (w.setCell ⟨b, 1, none⟩ x) b u x := by
  have h0 := h.c0; have h1 := h.c1; have hf := h.fz; have hl := h.lt
  exact ⟨by simp; exact hl, by simp [go_sem, h0], by simp [go_sem, h1], fun o => by simp [go_sem, hf]⟩
theorem und_qq : Tryz.prog.underlying 48 = some (.slice 49) := Tryz.underlying48
theorem info_qs : (Tryz.prog.info? 49).map (fun i => (i.zero, i.size, i.bytes)) = some (some (.slice none 0 0), 1, 24) := by kernel_rfl
/-- row j of the account, read -/
theorem RdR.rowQ {w : World} {A : Option Addr} {L : List (List Q2)} (h : RdR RSQ w A L) (j : Nat) (hj : j < L.length) : ∃ b off A' c', A = some ⟨b, off, none⟩ ∧ b < w.heap.size ∧ w.cell? ⟨b, off + j, none⟩ = some (.slice A' (L.getD j []).length c') ∧ RdQ w A' (L.getD j []) ∧ (L.getD j []).length ≤ c' := by
  obtain ⟨b, off, u, e, hb, hc, A', c', e2, h1, h2⟩ := h.at_ j hj
  have e3 : L.getD j [] = L[j] := by simp [List.getD, hj]
  rw [e3]
  subst e2
  exact ⟨b, off, A', c', e, hb, hc, h1, h2⟩
end Go.Proofs.YtbfkpfdkndnhkaaGreat

/- Contracts: the program's account of the orthogonal vectors. -/
namespace Go.Proofs.YtbfkpfdkndnhkaaGreat
set_option linter.unusedSimpArgs false
set_option linter.unusedVariables false
open Go.RowKit

def oA (o : Option (List (List Q2) × List Q2)) : List (List Q2) × List Q2 := o.getD ([], [])
/-- the answer is the account, readable, and whether there is one -/
def AccRet (o : Option (List (List Q2) × List Q2)) (w : World) (e : Ending) (w' : World) : Prop :=
  ∃ Am cm As cs, e = .returned (.tuple #[.agg #[.slice Am (oA o).1.length cm, .slice As (oA o).2.length cs], .bool o.isSome]) ∧ RdR RSQ w' Am (oA o).1 ∧ RdQ w' As (oA o).2 ∧ Grows w w'
theorem accRet_out {o : Option (List (List Q2) × List Q2)} {w w' : World} {e : Ending} (h : AccRet o w e w') : ∃ Am cm As cs, e = .returned (.tuple #[.agg #[.slice Am (oA o).1.length cm, .slice As (oA o).2.length cs], .bool o.isSome]) ∧ RdR RSQ w' Am (oA o).1 ∧ RdQ w' As (oA o).2 ∧ Grows w w' := h
/-- the state of a row: j cells of it are made; or it is whole, and its square is appended -/
def JRel (R : Nat) (l : List Int) (s : List (List Q2) × List Q2) (I bo B1 : Nat) (vm vs bv rv : Value) (w1 wi : World) (u j : Value) (wx : World) : Prop :=
  ∃ (J : Nat) (row : List Q2) (A6 : Option Addr) (c6 : Nat), j = .int .i64 J ∧ u = .slice A6 row.length c6 ∧ OwnQ wx wi.heap.size (.slice A6 row.length c6) row ∧
    ((J ≤ I ∧ rowF R l s.1 s.2 I J = some row ∧ Grows wi wx) ∨
     (J = I + 1 ∧ ∃ vs', accF R l (I + 1) = some (s.1 ++ [row], s.2 ++ [lastX R l s.2 I row]) ∧ SBox wx bo vm vs' ∧ OwnQ wx B1 vs' (s.2 ++ [lastX R l s.2 I row]) ∧ OwnR 49 adR RSQ wx B1 vm s.1 [vs', bv, rv] ∧
       (∀ g, vm.ownBlock = some g → vs'.ownBlock ≠ some g) ∧ (∀ g, (Value.slice A6 row.length c6).ownBlock = some g → vs'.ownBlock ≠ some g) ∧ wi.heap.size ≤ wx.heap.size ∧ Below bo w1 wx))

theorem OwnR.put_far {α : Type} {t : TypeId} {ad : Value → Option Nat} {R : World → Value → α → Prop} {w : World} {B : Nat} {v : Value} {L : List α} {S : List Value} (hG : GoodR ad R) (h : OwnR t ad R w B v L S) {s : Value} (hs : s ∈ S) {p : Addr} (hp : s.ownBlock = some p.block) (hv : v.ownBlock ≠ some p.block) (u : Value) : OwnR t ad R (w.setCell p u) B v L S :=
  h.other hG hs (fun g hg e => hv (by rw [← hp, hg]; exact e)) (only_setCell (World.grownBy.refl w _) hp u)
theorem RdR.nil {α : Type} {R : World → Value → α → Prop} (w : World) (A : Option Addr) : RdR R w A ([] : List α) := ⟨[], rfl, RdV.nil _ _, fun i u x h => by simp at h⟩
theorem accRet_none {w w' : World} {e : Ending} (h : e = .returned (.tuple #[.agg #[.slice none 0 0, .slice none 0 0], .bool false])) (g : Grows w w') : AccRet none w e w' := ⟨none, 0, none, 0, h, RdR.nil _ _, RdQ.nil _ _, g⟩
theorem OwnQ.far {w : World} {B : Nat} {v : Value} {l : List Q2} (h : OwnQ w B v l) {p : Addr} (hp : ∀ g, v.ownBlock = some g → g ≠ p.block) (u : Value) : OwnQ (w.setCell p u) B v l := ownsRow_far h hp u

theorem adR_own2 {v : Value} {g : Nat} (h : adR v = some g) : v.ownBlock = some g := by
  unfold adR at h
  split at h
  · split at h
    · cases h
    · cases h; rfl
  · cases h
theorem QBox.own {w w' : World} {b : Nat} {q : Q2} {r : Option Nat} (h : QBox w b q) (hg : w.grownBy w' r) (hne : r ≠ some b) : QBox w' b q := by
  have hk := hg.block b h.lt (fun e => hne e.symm)
  exact ⟨Nat.lt_of_lt_of_le h.lt hg.size, (World.cell?_of_block hk).trans h.c0, (World.cell?_of_block hk).trans h.c1, fun o => by
    have := h.fz o
    unfold World.frozen? at this ⊢
    simpa [hk] using this⟩
/-- out = append(out, q), at a step of a region that draws -/
theorem step_appQ1 {ops : Array Oper} {o : Oper} {a : Act} {K : Act → World → Prop} {Q : Exit → Act → World → Prop} {E : Prop} (hgd : o.guard = none) (s x : Operand)
    (ho : o.op = .call { callee := .builtin .append, args := #[s, x], argTypes := #[49, 49] }) (w : World) (z : Q2)
    (B : Nat) (v : Value) (l : List Q2) (hs : a.eval s = v) (hown : OwnQ w B v l) (hx : a.eval x = .slice (some ⟨w.heap.size, 0, none⟩) 1 1)
    (hl : l.length + 1 ≤ 1099511627776) (hB : B ≤ w.heap.size)
    (h : ∀ v' w', OwnQ w' B v' (l ++ [z]) → w.grownBy w' v.ownBlock → (v'.ownBlock = v.ownBlock ∨ ∃ g, v'.ownBlock = some g ∧ w.heap.size ≤ g) → K (a.put o.dst v') w') :
    if Region.wanted o (yielded ops a.tmps) = true then Oper.wp Tryz.prog o a (w.alloc (.cells #[.int .i64 z.1, .int .i64 z.2] 59)) K Q else E := by
  have hw : Region.wanted o (yielded ops a.tmps) = true := by simp [Region.wanted, hgd]
  rw [if_pos hw]
  obtain ⟨i0, hi0, hz0, hz1, hz2⟩ := info_parts info_ratio
  obtain ⟨v', w', hrun, h2, h3, _, h5⟩ := run_append_own_at (P := Tryz.prog) (w.alloc (.cells #[.int .i64 z.1, .int .i64 z.2] 59)) B 49 o.type 59 i0 (.agg #[.int .i64 0, .int .i64 0]) 2 16 Tryz.underlying49 hi0 hz0 hz1 hz2 rfl (by omega) v l.length (flatV l) (hown.alloc _)
    ⟨w.heap.size, 0, none⟩ 1 1 [.int .i64 z.1, .int .i64 z.2] (by simp) (by
      intro j u hu
      match j with
      | 0 => simp at hu; subst hu; simp [Addr.add, go_sem]
      | 1 => simp at hu; subst hu; simp [Addr.add, go_sem]
      | j + 2 => simp at hu) (by intro u hu; simp at hu; rcases hu with rfl | rfl <;> rfl) (by simp [maxLen]; omega) (by omega) (by simp; omega)
  unfold Oper.wp execOp
  simp only [ho, resolve, invoke, builtin, Sem.run_bind, Sem.run_pure, Result.andThen_ok, List.map_toArray, List.map_cons, List.map_nil, hs, hx, hrun]
  refine h v' w' ?_ ?_ ?_
  · unfold OwnQ
    rw [List.length_append, flatV_append]
    exact h2
  · exact ⟨h3.os, h3.tape, h3.output, Nat.le_trans (by simp) h3.size, fun k hk hne => (h3.block k (by simp; omega) hne).trans (Below.heap_alloc w _ k hk)⟩
  · rcases h5 with h5 | h5
    · exact .inl h5
    · exact .inr ⟨_, h5, by simp⟩
theorem acc_keep {W : World} {b8 bo bs fs : Nat} {x d : Q2} {vm vs : Value} (h : QBox W b8 x) (h2 : SBox W bo vm vs) (h3 : W.cell? ⟨bs, fs, none⟩ = some (.int .i64 d.1)) (h4 : W.cell? ⟨bs, fs + 1, none⟩ = some (.int .i64 d.2)) :
    W.cell? ⟨b8, 0, none⟩ = some (.int .i64 x.1) ∧ W.cell? ⟨b8, 1, none⟩ = some (.int .i64 x.2) ∧ W.cell? ⟨bo, 1, none⟩ = some vs ∧ W.cell? ⟨bs, fs, none⟩ = some (.int .i64 d.1) ∧ W.cell? ⟨bs, fs + 1, none⟩ = some (.int .i64 d.2) := ⟨h.c0, h.c1, h2.c1, h3, h4⟩

section
set_option maxHeartbeats 8000000
set_option maxRecDepth 100000
theorem iAcc_c (R : Nat) (A : Option Addr) (l : List Int) (n cap : Nat) (w : World) (hn : l.length = n) (hlen : l.length = R * R) (hR : R ≤ 24) (ha : Rd w A l) :
    Calls Tryz.prog 24 #[.agg #[.int .i64 R, .int .i64 R, .slice A n cap]] w (AccRet (accF R l R) w) := by
  obtain ⟨w1, hw1⟩ : ∃ w1, w1 = ((w.alloc (.cells #[.int .i64 R, .int .i64 R, .slice A n cap] 26)).alloc (.cells #[.slice none 0 0, .slice none 0 0] 51)).alloc (.cells #[.slice none 0 0, .slice none 0 0] 51) := ⟨_, rfl⟩
  have mg : MBox w1 w.heap.size R R (.slice A n cap) := by rw [hw1]; exact ((MBox.mk_ _ _ _ _ _).grows (by exact bel0)).grows (by exact bel0)
  have mr : SBox w1 (w.heap.size + 1) (.slice none 0 0) (.slice none 0 0) := by rw [hw1]; exact SBox.grows (SBox.new_ (w.alloc _) _ _ _ (by simp)) (by exact bel0)
  have mo : SBox w1 (w.heap.size + 1 + 1) (.slice none 0 0) (.slice none 0 0) := by rw [hw1]; exact SBox.new_ _ _ _ _ (by simp)
  have hs1 : w1.heap.size = w.heap.size + 3 := by rw [hw1]; simp
  have HG : Grows w w1 := by rw [hw1]; exact bel0
  have ha1 := ha.grows HG
  have HW1 := Lib.hid hw1
  have HS1 := Lib.hid hs1
  have HN := Lib.hid hn
  have HLN := Lib.hid hlen
  have hRR : R * R ≤ 576 := Nat.mul_le_mul hR hR
  have HB := Lib.hid fun i (hi : i < R) => (show i * R ≤ 576 by have := Nat.mul_le_mul_right R (Nat.le_of_lt hi); omega)
  have CC := Lib.hid fun (i j : Nat) (hi : i < R) (hj : j < R) W h => at_c R R A l n cap i j W hn h (castMul i R) (by have := castMulLe (HB.out i hi); omega) (castPos i R j) (castLt (by rw [hlen]; exact idx_lt hi hj)) (by omega)
  obtain ⟨bv, hbv⟩ : ∃ bv : Value, bv.ownBlock = some (w.heap.size + 1 + 1) := ⟨.slice (some ⟨w.heap.size + 1 + 1, 0, none⟩) 0 0, rfl⟩
  obtain ⟨rv, hrv⟩ : ∃ rv : Value, rv.ownBlock = some (w.heap.size + 1) := ⟨.slice (some ⟨w.heap.size + 1, 0, none⟩) 0 0, rfl⟩
  have HBV := Lib.hid hbv
  have HRV := Lib.hid hrv
  clear hbv hrv
  obtain ⟨RES, hRES⟩ : ∃ x, x = accF R l R := ⟨_, rfl⟩
  rw [← hRES]
  have HRES := Lib.hid hRES
  clear hw1 hs1 hn hlen hRES
  go_enter Tryz.func24, Tryz.ntmps24
  go_wp2_with fail
  rw [← HW1.out]
  go_loopw [5] (fun i wr => ∃ (I : Nat) (vm vs : Value) (s : List (List Q2) × List Q2), i = .int .i64 I ∧ I ≤ R ∧ accF R l I = some s ∧ SBox wr (w.heap.size + 1 + 1) vm vs ∧ OwnQ wr w1.heap.size vs s.2 ∧ OwnR 49 adR RSQ wr w1.heap.size vm s.1 [vs, bv, rv] ∧ (∀ g, vm.ownBlock = some g → vs.ownBlock ≠ some g) ∧ Below (w.heap.size + 1 + 1) w1 wr) (fun i _ => R - (intOf i).toNat)
  case atStart => exact ⟨0, _, _, ([], []), rfl, Nat.zero_le _, rfl, mo, OwnQ.nil _ _, OwnR.nil _ _ _ _ _ _, fun g hg => by simp [Value.ownBlock] at hg, by exact bel0⟩
  case round =>
    clear mo
    obtain ⟨I, vm, vs, s, rfl, hI, hF, mo, hs, hm, hap, hg⟩ := hrel
    have HF := Lib.hid hF
    have HI := Lib.hid (accF_inv hF)
    have HAP := Lib.hid hap
    have hs1 := HS1.out
    have hsz := Below.size hg
    have ha2 : Rd _ A l := ha.grows (Below.trans HG (hg.mono (by omega)))
    clear hF hap
    by_cases hlt : I < R
    · have hlt' : (I : Int) < (R : Int) := by omega
      obtain ⟨Am, cm, hvm, hrm, hcm⟩ := hm.val
      obtain ⟨As, cs, hvs, hrs, hcs⟩ := hs.val
      rw [HI.out.l1] at hvm hcm
      rw [HI.out.l2] at hvs hcs
      subst hvm hvs
      have mgi := mg.keep hg (by omega)
      obtain ⟨wi, rfl⟩ : ∃ wi : World, wi = wr := ⟨_, rfl⟩
      obtain ⟨b0, b1, b2⟩ := mgi.cells
      go_wp2_with fail
      go_loopw [6, 7] (JRel R l s I (w.heap.size + 1 + 1) w1.heap.size (.slice Am I cm) (.slice As I cs) bv rv w1 wi) (fun _ j _ => R + 1 - (intOf j).toNat)
      case atStart => exact ⟨0, [], _, _, rfl, rfl, OwnQ.new_ _ rfl (Nat.le_refl _), .inl ⟨Nat.zero_le _, rfl, by exact bel0⟩⟩
      case round =>
        clear b0 b1 b2
        obtain ⟨J, row, A6, c6, rfl, rfl, hu, hd⟩ := hrel
        rcases hd with ⟨hJ, hrow, hgj⟩ | ⟨rfl, vs', hnx, mo', hs', hm', hap', hap6, hsx, hb'⟩
        · have HROW := Lib.hid hrow
          have hrl := rowF_len hrow
          have HRL := Lib.hid hrl
          have hJ' : (J : Int) ≤ (I : Int) := by omega
          have hsj := Below.size hgj
          obtain ⟨wj, rfl⟩ : ∃ wj : World, wj = wr := ⟨_, rfl⟩
          have hru := hu.rd
          have mgj := mgi.grows hgj
          have haj := ha2.grows hgj
          have mo_j := mo.grows hgj
          have hrsj := hrs.grows hgj
          have hrmj := hrm.grows RSQ.good hgj
          have C1 := fun W h => CC.out I J hlt (by omega) W h
          rw [castIdx] at C1
          obtain ⟨X0, hX0⟩ : ∃ x, x = nth l (I * R + J) := ⟨_, rfl⟩
          rw [← hX0] at C1
          have C1' := Lib.hid C1
          have CW := Lib.hid fun W => whole_c X0 W
          have HX0 := Lib.hid hX0
          clear hrow hrl C1 hX0
          obtain ⟨b0, b1, b2⟩ := mgj.cells
          go_wp2_with fail
          refine (C1'.out _ (by exact (Rd.grows haj (by exact bel0)))).mono ?_; rintro e w5 ⟨rfl, g5⟩
          go_wp2_with fail
          refine (CW.out _).mono ?_; rintro e w7 ⟨rfl, g7⟩
          have g57 : Grows wj w7 := by exact bel2 g7 g5
          have hs7 := Below.size g57
          clear b0 b1 b2
          obtain ⟨oth, hoth⟩ : ∃ x, x = if J = I then row else s.1.getD J [] := ⟨_, rfl⟩
          have HOTH := Lib.hid hoth
          clear hoth
          go_wp2_with fail
          go_loopw [9] (fun k wy => ∃ (K : Nat), k = .int .i64 K ∧ K ≤ J ∧ QBox wy w7.heap.size (muX X0 s.2 row oth K) ∧ Grows w7 wy) (fun k _ => J - (intOf k).toNat)
          case atStart => exact ⟨0, rfl, Nat.zero_le _, QBox.new_ w7 (X0, 1) 59 rfl, by exact bel0⟩
          case round =>
            obtain ⟨K, rfl, hK, qb, hgk⟩ := hrel
            have hsk := Below.size hgk
            have gjk : Grows wj wr := by exact bel2 hgk g57
            obtain ⟨x, hx⟩ : ∃ x, x = muX X0 s.2 row oth K := ⟨_, rfl⟩
            rw [← hx] at qb
            have HX := Lib.hid hx
            clear hx
            obtain ⟨q0, q1⟩ := qb.cells
            have ql := qb.lt
            have mok := mo_j.grows gjk
            obtain ⟨o0, o1⟩ := mok.cells
            by_cases hltk : K < J
            · have hltk' : (K : Int) < (J : Int) := by omega
              have hkr : (K : Int) < (row.length : Int) := by rw [HRL.out]; omega
              have hki : (K : Int) < (I : Int) := by omega
              have CW1 := Lib.hid fun W => whole_c 1 W
              obtain ⟨br, fr, rfl, hbr, r0, r1⟩ := (hru.grows gjk).at_ K (by rw [HRL.out]; exact hltk)
              obtain ⟨bs, fs, rfl, hbs, s0, s1⟩ := (hrsj.grows gjk).at_ K (by rw [HI.out.l2]; omega)
              obtain ⟨a, ha'⟩ : ∃ a, a = nthQ row K := ⟨_, rfl⟩
              obtain ⟨d, hd'⟩ : ∃ d, d = nthQ s.2 K := ⟨_, rfl⟩
              rw [← ha'] at r0 r1
              rw [← hd'] at s0 s1
              have HA := Lib.hid ha'
              have HD := Lib.hid hd'
              clear ha' hd'
              by_cases hJI : J = I
              · subst hJI
                have HZ := Lib.hid (show nthQ oth K = a by rw [HOTH.out, if_pos rfl, HA.out])
                have hjb : ((J : Int) == (J : Int)) = true := by simp
                have CM1 := fun W => iMultiplyRatios_c a a W
                have CM2 := fun W => iMultiplyRatios_c (mulQ a a) d W
                have CS := fun W => sub_c x (mulQ (mulQ a a) d) W
                have HNX := Lib.hid (show muX X0 s.2 row oth (K + 1) = subQ x (mulQ (mulQ a a) d) by rw [muX, ← HX.out, HZ.out, ← HA.out, ← HD.out]; rfl)
                generalize subQ x (mulQ (mulQ a a) d) = x' at *
                generalize mulQ (mulQ a a) d = y2 at *
                generalize mulQ a a = y1 at *
                have CM1' := Lib.hid CM1
                have CM2' := Lib.hid CM2
                have CS' := Lib.hid CS
                clear CM1 CM2 CS
                go_wp2_with fail
                refine (CW1.out _).mono ?_; rintro e wa ⟨rfl, ga⟩
                have hsa := Below.size ga
                have r0a := ((bcell ga).1 br (fr + K * 2) hbr).trans r0
                have r1a := ((bcell ga).1 br (fr + K * 2 + 1) hbr).trans r1
                have s0a := ((bcell ga).1 bs (fs + K * 2) hbs).trans s0
                have s1a := ((bcell ga).1 bs (fs + K * 2 + 1) hbs).trans s1
                clear q0 q1 o0 o1 r0 r1 s0 s1
                obtain ⟨q0, q1⟩ := (qb.grows ga).cells
                obtain ⟨o0, o1⟩ := (mok.grows ga).cells
                have hbr' : br < wa.heap.size := by omega
                have hbs' : bs < wa.heap.size := by omega
                have hbo' := (mok.grows ga).lt
                go_wp2_with fail
                obtain ⟨wb, hwb⟩ : ∃ wb, wb = wa.alloc (.cells #[.int .i64 a.1, .int .i64 a.2] 59) := ⟨_, rfl⟩
                rw [← hwb]
                have gab : Grows wa wb := by rw [hwb]; exact bel0
                have qo : QBox wb wa.heap.size a := by rw [hwb]; exact QBox.new_ _ _ _ rfl
                have HWB := Lib.hid hwb
                have r0b := ext_is (((bcell gab).1 br (fr + K * 2) hbr').trans r0a)
                have r1b := ext_is (((bcell gab).1 br (fr + K * 2 + 1) hbr').trans r1a)
                have s0b := ext_is (((bcell gab).1 bs (fs + K * 2) hbs').trans s0a)
                have s1b := ext_is (((bcell gab).1 bs (fs + K * 2 + 1) hbs').trans s1a)
                have qbb := (qb.grows ga).grows gab
                have q0b := ext_is qbb.c0
                have q1b := ext_is qbb.c1
                have t0b := ext_is qo.c0
                have t1b := ext_is qo.c1
                have o1b := ext_is ((mok.grows ga).grows gab).c1
                clear hwb q0 q1 o0 o1 r0a r1a s0a s1a
                ((refine wp_region_tail 14 (by kernel_rfl) (by kernel_rfl) ?_; simp only [List.take_succ_cons, List.take_zero, List.drop_succ_cons, List.drop_zero]); (repeat (go_big_quiet_step ((first | (go_at_call 58; with_reducible exact extC (CM1'.out _)) | (go_at_call 58; with_reducible exact extC (CM2'.out _)) | (go_at_call 57; with_reducible exact extC (CS'.out _)))))); refine wpQuiet_nil ?_; rintro wc ⟨wc0, hwc0⟩; have gc := grows_of_ext hwc0; clear hwc0 wc0)
                have qbc := qbb.grows gc
                obtain ⟨q0, q1⟩ := qbc.cells
                have qf := qbc.fz
                have qlc := qbc.lt
                clear q0b q1b t0b t1b o1b r0b r1b s0b s1b
                go_wp2_with fail
                go_round
                case rel => exact ⟨K + 1, by go_num, by omega, by rw [HNX.out]; exact qbc.put _, by exact bel4 gc gab ga hgk⟩
                case measure => simp [intOf]; omega
              · have hjb : ((J : Int) == (I : Int)) = false := by rw [beq_eq_false_iff_ne]; omega
                have hJlt : J < I := by omega
                have hJlt' : (J : Int) < (I : Int) := by omega
                obtain ⟨bm, fm, Aj, cj, rfl, hbm, m0, hrj, hcj⟩ := (hrmj.grows RSQ.good gjk).rowQ J (by rw [HI.out.l1]; exact hJlt)
                have hjl := HI.out.row J hJlt
                rw [hjl] at m0 hcj
                obtain ⟨bj, fj, rfl, hbj, j0, j1⟩ := hrj.at_ K (by rw [hjl]; exact hltk)
                obtain ⟨z, hz'⟩ : ∃ z, z = nthQ (s.1.getD J []) K := ⟨_, rfl⟩
                rw [← hz'] at j0 j1
                have HZ := Lib.hid (show nthQ oth K = z by rw [HOTH.out, if_neg hJI, hz'])
                have CM1 := fun W => iMultiplyRatios_c a z W
                have CM2 := fun W => iMultiplyRatios_c (mulQ a z) d W
                have CS := fun W => sub_c x (mulQ (mulQ a z) d) W
                have HNX := Lib.hid (show muX X0 s.2 row oth (K + 1) = subQ x (mulQ (mulQ a z) d) by rw [muX, ← HX.out, HZ.out, ← HA.out, ← HD.out]; rfl)
                clear hz' hjl
                generalize subQ x (mulQ (mulQ a z) d) = x' at *
                generalize mulQ (mulQ a z) d = y2 at *
                generalize mulQ a z = y1 at *
                have CM1' := Lib.hid CM1
                have CM2' := Lib.hid CM2
                have CS' := Lib.hid CS
                clear CM1 CM2 CS
                go_wp2_with fail
                refine (CW1.out _).mono ?_; rintro e wa ⟨rfl, ga⟩
                have hsa := Below.size ga
                have r0a := ((bcell ga).1 br (fr + K * 2) hbr).trans r0
                have r1a := ((bcell ga).1 br (fr + K * 2 + 1) hbr).trans r1
                have s0a := ((bcell ga).1 bs (fs + K * 2) hbs).trans s0
                have s1a := ((bcell ga).1 bs (fs + K * 2 + 1) hbs).trans s1
                have j0a := ((bcell ga).1 bj (fj + K * 2) hbj).trans j0
                have j1a := ((bcell ga).1 bj (fj + K * 2 + 1) hbj).trans j1
                have m0a := ((bcell ga).1 bm (fm + J) hbm).trans m0
                clear q0 q1 o0 o1 r0 r1 s0 s1 j0 j1 m0
                obtain ⟨q0, q1⟩ := (qb.grows ga).cells
                obtain ⟨o0, o1⟩ := (mok.grows ga).cells
                have hbr' : br < wa.heap.size := by omega
                have hbs' : bs < wa.heap.size := by omega
                have hbj' : bj < wa.heap.size := by omega
                have hbm' : bm < wa.heap.size := by omega
                have hbo' := (mok.grows ga).lt
                go_wp2_with fail
                obtain ⟨wb, hwb⟩ : ∃ wb, wb = wa.alloc (.cells #[.int .i64 z.1, .int .i64 z.2] 59) := ⟨_, rfl⟩
                rw [← hwb]
                have gab : Grows wa wb := by rw [hwb]; exact bel0
                have qo : QBox wb wa.heap.size z := by rw [hwb]; exact QBox.new_ _ _ _ rfl
                have HWB := Lib.hid hwb
                have r0b := ext_is (((bcell gab).1 br (fr + K * 2) hbr').trans r0a)
                have r1b := ext_is (((bcell gab).1 br (fr + K * 2 + 1) hbr').trans r1a)
                have s0b := ext_is (((bcell gab).1 bs (fs + K * 2) hbs').trans s0a)
                have s1b := ext_is (((bcell gab).1 bs (fs + K * 2 + 1) hbs').trans s1a)
                have qbb := (qb.grows ga).grows gab
                have q0b := ext_is qbb.c0
                have q1b := ext_is qbb.c1
                have t0b := ext_is qo.c0
                have t1b := ext_is qo.c1
                have o1b := ext_is ((mok.grows ga).grows gab).c1
                clear hwb q0 q1 o0 o1 r0a r1a s0a s1a j0a j1a m0a
                ((refine wp_region_tail 14 (by kernel_rfl) (by kernel_rfl) ?_; simp only [List.take_succ_cons, List.take_zero, List.drop_succ_cons, List.drop_zero]); (repeat (go_big_quiet_step ((first | (go_at_call 58; with_reducible exact extC (CM1'.out _)) | (go_at_call 58; with_reducible exact extC (CM2'.out _)) | (go_at_call 57; with_reducible exact extC (CS'.out _)))))); refine wpQuiet_nil ?_; rintro wc ⟨wc0, hwc0⟩; have gc := grows_of_ext hwc0; clear hwc0 wc0)
                have qbc := qbb.grows gc
                obtain ⟨q0, q1⟩ := qbc.cells
                have qf := qbc.fz
                have qlc := qbc.lt
                clear q0b q1b t0b t1b o1b r0b r1b s0b s1b
                go_wp2_with fail
                go_round
                case rel => exact ⟨K + 1, by go_num, by omega, by rw [HNX.out]; exact qbc.put _, by exact bel4 gc gab ga hgk⟩
                case measure => simp [intOf]; omega
            · obtain rfl : J = K := by omega
              have mrk := ((mr.keep hg (by omega)).grows hgj).grows gjk
              have gik : Grows wi wr := by exact bel2 gjk hgj
              have HGi : Grows w wi := Below.trans HG (hg.mono (by omega))
              have HGr : Grows w wr := by exact bel2 gik HGi
              have HCOF := Lib.hid (show J ≠ I → cofX R l s.1 s.2 I row J = x from fun h => by rw [HX.out, HOTH.out, if_neg h, HX0.out]; rfl)
              have HLAST := Lib.hid (show J = I → lastX R l s.2 I row = x from fun h => by subst h; rw [HX.out, HOTH.out, if_pos rfl, HX0.out]; rfl)
              have CI := fun W => iIsRatio_c x.1 x.2 W
              change ∀ W, Calls Tryz.prog 59 #[.agg #[.int .i64 x.1, .int .i64 x.2]] W (fun e w' => e = .returned (.bool (okQ x)) ∧ Grows W w') at CI
              cases hok : okQ x
              · have hn : RES = none := by
                  rw [HRES.out]
                  by_cases hJI : J = I
                  · have h := HROW.out
                    rw [hJI] at h
                    exact acc_last HF.out hlt h (.inl (by rw [HLAST.out hJI]; exact hok))
                  · exact acc_row HF.out hlt (by omega) HROW.out (by rw [HCOF.out hJI]; exact hok)
                subst hn
                rw [hok] at CI
                have CI' := Lib.hid CI
                clear CI hok
                go_wp2_with fail
                refine (CI'.out _).mono ?_; rintro e wa ⟨rfl, ga⟩
                clear q0 q1 o0 o1
                obtain ⟨z0, z1⟩ := (mrk.grows ga).cells
                have zf := (mrk.grows ga).fz
                have zl := (mrk.grows ga).lt
                go_wp2_with fail
                refine bodyPost_ret (v := .tuple #[.agg #[.slice none 0 0, .slice none 0 0], .bool false]) ?_ rfl ?_
                · simp [results, Tryz.results24, go_sem, z0, z1, zf, zl]
                · exact accRet_none rfl (by exact bel2 ga HGr)
              · have HOK := Lib.hid hok
                rw [hok] at CI
                have CI' := Lib.hid CI
                clear CI hok
                by_cases hJI : J = I
                · subst hJI
                  by_cases hpos : x.1 ≤ 0
                  · obtain rfl : RES = none := by rw [HRES.out]; exact acc_last HF.out hlt HROW.out (.inr (by rw [HLAST.out rfl]; exact hpos))
                    go_wp2_with fail
                    refine (CI'.out _).mono ?_; rintro e wa ⟨rfl, ga⟩
                    clear q0 q1 o0 o1
                    obtain ⟨q0, q1⟩ := (qb.grows ga).cells
                    obtain ⟨z0, z1⟩ := (mrk.grows ga).cells
                    have zf := (mrk.grows ga).fz
                    have zl := (mrk.grows ga).lt
                    go_wp2_with fail
                    refine bodyPost_ret (v := .tuple #[.agg #[.slice none 0 0, .slice none 0 0], .bool false]) ?_ rfl ?_
                    · simp [results, Tryz.results24, go_sem, z0, z1, zf, zl]
                    · exact accRet_none rfl (by exact bel2 ga HGr)
                  · have HACC := Lib.hid (acc_next HF.out HROW.out (by rw [HLAST.out rfl]; exact HOK.out) (by rw [HLAST.out rfl]; omega))
                    rw [HLAST.out rfl] at HACC
                    have HL2 := Lib.hid (HLAST.out rfl)
                    go_wp2_with fail
                    refine (CI'.out _).mono ?_; rintro e wa ⟨rfl, ga⟩
                    have hsa := Below.size ga
                    clear q0 q1 o0 o1
                    obtain ⟨q0, q1⟩ := (qb.grows ga).cells
                    obtain ⟨o0, o1⟩ := (mok.grows ga).cells
                    have gia : Grows wi wa := by exact bel2 ga gik
                    have hsr := hs.grows gia
                    have moa := mok.grows ga
                    have hma := (hm.grows RSQ.good gia)
                    have hua := (hu.grows (show Grows wj wa by exact bel2 ga gjk))
                    have hslt := fun g h => (World.ownsRow.lt hs g h)
                    have hmlt := fun g h => (hm.lt (g := g) h)
                    have hult := fun g h => (World.ownsRow.lt hu g h)
                    have HSLT := Lib.hid hslt
                    have HMLT := Lib.hid hmlt
                    have HULT := Lib.hid hult
                    clear hslt hmlt hult
                    have HL8 := Lib.hid (show (s.2 ++ [x]).length = J + 1 by simp [HI.out.l2])
                    go_wp2_with (at_builtin; refine wpList_appQ1 rfl (.tmp 86) (.tmp 88) rfl _ x w1.heap.size _ s.2 (by rfl) hsr (by rfl) (by rw [HI.out.l2]; omega) (by omega) ?_; intro v8 w8 ho8 hg8 hv8; obtain ⟨A8, c8, hv8e, _, _⟩ := ho8.val; rw [HL8.out] at hv8e; subst hv8e; have mo8 := moa.own hg8 (fun e => by have := (HSLT.out _ e).1; omega); clear q0 q1 o0 o1; obtain ⟨o0, o1⟩ := mo8.cells; have of8 := mo8.fz; have ol8 := mo8.lt)
                    go_roundw
                    case rel =>
                      have hb8 : Below w1.heap.size wa w8 := below_appR hsr (by omega) hg8
                      have hS : OwnR 49 adR RSQ wa w1.heap.size (.slice Am J cm) s.1 [.slice As J cs, (Value.slice A8 (J + 1) c8), bv, rv] := hma.avoid RSQ.good (fun s' h g hg' => by
                        simp only [List.mem_cons, List.not_mem_nil, or_false] at h
                        rcases h with rfl | rfl | rfl | rfl
                        · exact .inl ⟨.slice As J cs, by simp, hg'⟩
                        · rcases hv8 with h | ⟨g', h, h'⟩
                          · exact .inl ⟨.slice As J cs, by simp, by rw [← h]; exact hg'⟩
                          · rw [h] at hg'; cases hg'; exact .inr (.inr h')
                        · exact .inl ⟨s', by simp, hg'⟩
                        · exact .inl ⟨s', by simp, hg'⟩)
                      have hm8 := hS.other RSQ.good (s := .slice As J cs) (by simp) (fun g h e => HAP.out g e h) hg8
                      have hm9 := hm8.put_far RSQ.good (s := bv) (by simp) (p := ⟨w.heap.size + 1 + 1, 1, none⟩) HBV.out (fun e => by have h2 := (HMLT.out (w.heap.size + 1 + 1) e).1; omega) (Value.slice A8 (J + 1) c8)
                      have hm10 := hm9.avoid RSQ.good (S' := [(Value.slice A8 (J + 1) c8), bv, rv]) (fun s' h g hg' => .inl ⟨s', by simp only [List.mem_cons] at h ⊢; exact .inr h, hg'⟩)
                      have hu8 : OwnQ w8 wi.heap.size (.slice A6 row.length c6) row := ownsRow_other hua hg8 (fun g h e => by have := (HSLT.out g h).2; have := (HULT.out g e).1; omega)
                      have hu9 := hu8.far (p := ⟨w.heap.size + 1 + 1, 1, none⟩) (fun g h => by have := (HULT.out g h).1; show g ≠ w.heap.size + 1 + 1; omega) (Value.slice A8 (J + 1) c8)
                      have ho9 := ho8.far (p := ⟨w.heap.size + 1 + 1, 1, none⟩) (fun g h => by have := (World.ownsRow.lt ho8 g h).1; show g ≠ w.heap.size + 1 + 1; omega) (Value.slice A8 (J + 1) c8)
                      have hb9 : Below (w.heap.size + 1 + 1) w1 (w8.setCell ⟨w.heap.size + 1 + 1, 1, none⟩ (Value.slice A8 (J + 1) c8)) := (Below.trans (Below.trans hg (Below.mono gia (by omega))) (hb8.mono (by omega))).setCell (Nat.le_refl _) _
                      refine ⟨J + 1, row, A6, c6, by go_num, rfl, hu9, .inr ⟨rfl, (Value.slice A8 (J + 1) c8), by rw [HL2.out]; exact HACC.out, mo8.put1 (Value.slice A8 (J + 1) c8), by rw [HL2.out]; exact ho9, hm10, fun g h e => ?_, fun g h e => ?_, by have := hg8.size; simp; omega, hb9⟩⟩
                      · rcases hv8 with h' | ⟨g', h', h''⟩
                        · exact HAP.out g h (by rw [← h']; exact e)
                        · rw [h'] at e; cases e; have := (HMLT.out _ h).2; have := Below.size gia; omega
                      · rcases hv8 with h' | ⟨g', h', h''⟩
                        · rw [h'] at e; have := (HSLT.out g e).2; have := (HULT.out g h).1; omega
                        · rw [h'] at e; cases e; have := (HULT.out _ h).2; omega
                    case measure => simp [intOf]; omega
                · have hJlt' : (J : Int) < (I : Int) := by omega
                  have hki : (J : Int) < (I : Int) := by omega
                  obtain ⟨bs, fs, rfl, hbs, s0, s1⟩ := hrs.at_ J (by rw [HI.out.l2]; omega)
                  obtain ⟨d, hd'⟩ : ∃ d, d = nthQ s.2 J := ⟨_, rfl⟩
                  rw [← hd'] at s0 s1
                  have CD := fun W => iDivideRatios_c x d W
                  have hnx := rowF_next HROW.out (by rw [HCOF.out hJI]; exact HOK.out)
                  rw [HCOF.out hJI, ← hd'] at hnx
                  have HNX := Lib.hid hnx
                  clear hd' hnx
                  generalize divQ x d = y at *
                  have CD' := Lib.hid CD
                  have HU := Lib.hid fun g h => (World.ownsRow.lt hu g h)
                  clear CD
                  go_wp2_with fail
                  refine (CI'.out _).mono ?_; rintro e wa ⟨rfl, ga⟩
                  clear q0 q1 o0 o1
                  have hsa := Below.size ga
                  have gia : Grows wi wa := by exact bel2 ga gik
                  have hsia := Below.size gia
                  have qba := qb.grows ga
                  have moa := mok.grows ga
                  have hua := hu.grows (show Grows wj wa by exact bel2 ga gjk)
                  have s0a := ((bcell gia).1 bs (fs + J * 2) hbs).trans s0
                  have s1a := ((bcell gia).1 bs (fs + J * 2 + 1) hbs).trans s1
                  obtain ⟨q0, q1⟩ := qba.cells
                  obtain ⟨o0, o1⟩ := moa.cells
                  have hbsa : bs < wa.heap.size := by omega
                  have HK := Lib.hid fun W (g : Grows wa W) => acc_keep (qba.grows g) (moa.grows g) (((bcell g).1 bs (fs + J * 2) hbsa).trans s0a) (((bcell g).1 bs (fs + J * 2 + 1) hbsa).trans s1a)
                  go_wp2_with fail
                  (refine wp_region_heldL (fun W => W.cell? ⟨w7.heap.size, 0, none⟩ = some (.int .i64 x.1) ∧ W.cell? ⟨w7.heap.size, 1, none⟩ = some (.int .i64 x.2) ∧ W.cell? ⟨w.heap.size + 1 + 1, 1, none⟩ = some (.slice (some ⟨bs, fs, none⟩) I cs) ∧ W.cell? ⟨bs, fs + J * 2, none⟩ = some (.int .i64 d.1) ∧ W.cell? ⟨bs, fs + J * 2 + 1, none⟩ = some (.int .i64 d.2)) (by kernel_rfl) (by ((try dsimp only); (first | exact k8 | exact HK.out _ (by exact bel1 gc) | exact HK.out _ (by exact bel0)))) (fun hHeld => ?_); refine heldL_take (i := 0) (v := _) (by rfl) (by kernel_rfl) (by kernel_rfl) (by kernel_rfl) (fun _ _ _ h => h) (Or.inl ⟨by rfl, fun wS hSw => by ((try dsimp only at hSw); go_simp; (try with_reducible rfl))⟩) (by assumption) ?_; simp only [Act.put, List.setIfInBounds_toArray, List.set_cons_zero, List.set_cons_succ]; refine heldL_take (i := 1) (v := _) (by rfl) (by kernel_rfl) (by kernel_rfl) (by kernel_rfl) (fun _ _ _ h => h) (Or.inl ⟨by rfl, fun wS hSw => by ((try dsimp only at hSw); go_simp; (try with_reducible rfl))⟩) (by assumption) ?_; simp only [Act.put, List.setIfInBounds_toArray, List.set_cons_zero, List.set_cons_succ]; refine heldL_take (i := 2) (v := _) (by rfl) (by kernel_rfl) (by kernel_rfl) (by kernel_rfl) (fun _ _ _ h => h) (Or.inl ⟨by rfl, fun wS hSw => by ((try dsimp only at hSw); go_simp; (try with_reducible rfl))⟩) (by assumption) ?_; simp only [Act.put, List.setIfInBounds_toArray, List.set_cons_zero, List.set_cons_succ]; refine heldL_take (i := 3) (v := _) (by rfl) (by kernel_rfl) (by kernel_rfl) (by kernel_rfl) (fun _ _ _ h => h) (Or.inl ⟨by rfl, fun wS hSw => by ((try dsimp only at hSw); go_simp; (try with_reducible rfl))⟩) (by assumption) ?_; simp only [Act.put, List.setIfInBounds_toArray, List.set_cons_zero, List.set_cons_succ]; refine heldL_take (i := 4) (v := _) (by rfl) (by kernel_rfl) (by kernel_rfl) (by kernel_rfl) (fun _ _ _ h => h) (Or.inl ⟨by rfl, fun wS hSw => by ((try dsimp only at hSw); go_simp; (try with_reducible rfl))⟩) (by assumption) ?_; simp only [Act.put, List.setIfInBounds_toArray, List.set_cons_zero, List.set_cons_succ]; refine heldL_take (i := 5) (v := _) (by rfl) (by kernel_rfl) (by kernel_rfl) (by kernel_rfl) (fun _ _ _ h => h) (Or.inl ⟨by rfl, fun wS hSw => by ((try dsimp only at hSw); go_simp; (try with_reducible rfl))⟩) (by assumption) ?_; simp only [Act.put, List.setIfInBounds_toArray, List.set_cons_zero, List.set_cons_succ]; refine heldL_take (i := 6) (v := _) (by rfl) (by kernel_rfl) (by kernel_rfl) (by kernel_rfl) (fun _ _ _ h => h) (Or.inl ⟨by rfl, fun wS hSw => by ((try dsimp only at hSw); go_simp; (try with_reducible rfl))⟩) (by assumption) ?_; simp only [Act.put, List.setIfInBounds_toArray, List.set_cons_zero, List.set_cons_succ]; refine heldL_step (i := 7) (by kernel_rfl) (by rfl) (fun K hK => ?_); go_simp; (refine (CD'.out _).mono ?_; rintro e wc ⟨rfl, gc⟩; have hsc := Below.size gc; (try simp at hsc); have huc := hua.grows (w' := wc) (by exact bel1 gc); have qbc := qba.grows (w' := wc) (by exact bel1 gc); have moc := moa.grows (w' := wc) (by exact bel1 gc); have s0c := ((bcell gc).1 bs (fs + J * 2) (by first | exact hbsa | simpa using hbsa)).trans s0a; have s1c := ((bcell gc).1 bs (fs + J * 2 + 1) (by first | exact hbsa | simpa using hbsa)).trans s1a) ; (try (go_wp2_with fail)); refine hK.out _ _ (by ((try dsimp only); (first | exact k8 | exact HK.out _ (by exact bel1 gc) | exact HK.out _ (by exact bel0)))) (fun hHeld => ?_); clear hK K; (try simp only [Act.put, List.setIfInBounds_toArray, List.set_cons_zero, List.set_cons_succ]); refine heldL_step (i := 8) (by kernel_rfl) (by rfl) (fun K hK => ?_); go_simp; refine hK.out _ _ (by ((try dsimp only); (first | exact k8 | exact HK.out _ (by exact bel1 gc) | exact HK.out _ (by exact bel0)))) (fun hHeld => ?_); clear hK K; (try simp only [Act.put, List.setIfInBounds_toArray, List.set_cons_zero, List.set_cons_succ]); refine heldL_step (i := 9) (by kernel_rfl) (by rfl) (fun K hK => ?_); (refine step_appQ1 rfl (.tmp 71) (.tmp 79) rfl _ y wi.heap.size _ row (by rfl) huc (by rfl) (by rw [HRL.out]; omega) (by omega) ?_; intro v8 w8 ho8 hg8 hv8; have hb8 : Below wi.heap.size wc w8 := below_appR huc (by omega) hg8; have hnr : ∀ b, b < wi.heap.size ∨ b = w7.heap.size → (Value.slice A6 row.length c6).ownBlock ≠ some b := (fun b hb e => by have := HU.out b e; omega); have k8 := acc_keep (qbc.own hg8 (hnr _ (.inr rfl))) (moc.own hg8 (hnr _ (.inl (by omega)))) ((cell_keep (hg8.block bs (by omega) (fun e => hnr bs (.inl hbs) e.symm))).trans s0c) ((cell_keep (hg8.block bs (by omega) (fun e => hnr bs (.inl hbs) e.symm))).trans s1c); obtain ⟨A8, c8, rfl, _, _⟩ := ho8.val; clear hg8 hv8 hnr) ; refine hK.out _ _ (by ((try dsimp only); (first | exact k8 | exact HK.out _ (by exact bel1 gc) | exact HK.out _ (by exact bel0)))) (fun hHeld => ?_); clear hK K; (try simp only [Act.put, List.setIfInBounds_toArray, List.set_cons_zero, List.set_cons_succ]); refine heldL_take (i := 10) (v := _) (by rfl) (by kernel_rfl) (by kernel_rfl) (by kernel_rfl) (fun _ _ _ h => h) (Or.inl ⟨by rfl, fun wS hSw => by ((try dsimp only at hSw); go_simp; (try with_reducible rfl))⟩) (by assumption) ?_; simp only [Act.put, List.setIfInBounds_toArray, List.set_cons_zero, List.set_cons_succ]; refine wpAnyH_done (by kernel_rfl) ?_ _; refine NoPanic.normal ?_)
                  go_wp2_with fail
                  go_roundw
                  case rel =>
                    have g8 : Grows wi w8 := Below.trans (show Grows wi wc by exact bel2 gc gia) hb8
                    exact ⟨J + 1, row ++ [y], A8, c8, by go_num, by simp, ho8, .inl ⟨by omega, HNX.out, g8⟩⟩
                  case measure => simp [intOf]; omega
        · have hj' : ¬ ((I : Int) + 1 ≤ (I : Int)) := by omega
          obtain ⟨o0, o1⟩ := mo'.cells
          have ol := mo'.lt
          have hz : RSQ wr (.slice A6 row.length c6) row := by
            obtain ⟨A', c', e, h1, h2⟩ := hu.val
            exact ⟨A', c', e, h1, h2⟩
          have HULT := Lib.hid fun g h => (World.ownsRow.lt hu g h)
          have HMLT := Lib.hid fun g h => (hm.lt (g := g) h)
          have HM2 := Lib.hid fun g h => (hm'.lt (g := g) h)
          have HSEP := Lib.hid (show ∀ g, adR (.slice A6 row.length c6) = some g → (Value.slice Am I cm).ownBlock ≠ some g ∧ ∀ s ∈ [vs', bv, rv], s.ownBlock ≠ some g from fun g hg2 => by
            have h0 := adR_own2 hg2
            have h1 := HULT.out g h0
            refine ⟨fun e => by have := HMLT.out g e; omega, fun s' h e => ?_⟩
            simp only [List.mem_cons, List.not_mem_nil, or_false] at h
            rcases h with rfl | rfl | rfl
            · exact hap6 g h0 e
            · rw [HBV.out] at e; cases e; omega
            · rw [HRV.out] at e; cases e; omega)
          have HL9 := Lib.hid (show (s.1 ++ [row]).length = I + 1 by simp [HI.out.l1])
          have HB2 := Lib.hid hb'
          have HNX2 := Lib.hid hnx
          clear hap6
          go_wp2_with (at_builtin; refine wpList_appR1 49 48 und_qq info_qs rfl (.tmp 92) (.tmp 94) rfl _ (.slice A6 row.length c6) row RSQ.good rfl hz w1.heap.size _ s.1 [vs', bv, rv] (by rfl) hm' HSEP.out (by rfl) (by rw [HI.out.l1]; omega) (by omega) ?_; intro v9 w9 ho9 hg9 hv9; obtain ⟨A9, c9, hv9e, _, _⟩ := ho9.val; rw [HL9.out] at hv9e; subst hv9e; have mo9 := mo'.own hg9 (fun e => by have h2 := (HM2.out (w.heap.size + 1 + 1) e).1; omega); clear o0 o1 ol; obtain ⟨o0, o1⟩ := mo9.cells; have of9 := mo9.fz; have ol9 := mo9.lt)
          go_roundw
          case rel =>
            have hb9 := below_R hm' (by omega) hg9
            have h1 : OwnQ w9 w1.heap.size vs' (s.2 ++ [lastX R l s.2 I row]) := ownsRow_other hs' hg9 (fun g h e => hap' g h e)
            have h2 := h1.far (p := ⟨w.heap.size + 1 + 1, 0, none⟩) (fun g h => by have := (World.ownsRow.lt h1 g h).1; show g ≠ w.heap.size + 1 + 1; omega) (.slice A9 (I + 1) c9)
            have h3 := ho9.put_far RSQ.good (s := bv) (by simp) (p := ⟨w.heap.size + 1 + 1, 0, none⟩) HBV.out (fun e => by have h4 := (ho9.lt (g := w.heap.size + 1 + 1) e).1; omega) (.slice A9 (I + 1) c9)
            have h5 := apart_appR hs' hap' hv9
            exact ⟨I + 1, _, _, (s.1 ++ [row], s.2 ++ [lastX R l s.2 I row]), by go_num, by omega, HNX2.out, mo9.put0 _, h2, h3, h5, (Below.trans HB2.out (hb9.mono (by omega))).setCell (Nat.le_refl _) _⟩
          case measure => simp [intOf]; omega
    · obtain rfl : I = R := by omega
      obtain rfl : RES = some s := by rw [HRES.out, HF.out]
      obtain ⟨Am, cm, hvm, _, _⟩ := hm.val
      obtain ⟨As, cs, hvs, _, _⟩ := hs.val
      subst hvm hvs
      have mr2 := mr.keep hg (by omega)
      obtain ⟨o0, o1⟩ := mo.cells
      obtain ⟨z0, z1⟩ := mr2.cells
      have zf := mr2.fz
      have zl := mr2.lt
      obtain ⟨b0, b1, b2⟩ := (mg.keep hg (by omega)).cells
      have HGr : Grows w wr := Below.trans HG (hg.mono (by omega))
      go_wp2_with fail
      refine bodyPost_ret (v := .tuple #[.agg #[.slice Am s.1.length cm, .slice As s.2.length cs], .bool true]) ?_ rfl ?_
      · simp [results, Tryz.results24, go_sem, z0, z1, zf, zl]
      · have hml := fun g h => (hm.lt (g := g) h)
        have h1 := hm.put_far RSQ.good (s := rv) (by simp) (p := ⟨w.heap.size + 1, 0, none⟩) HRV.out (fun e => by have h4 := (hml (w.heap.size + 1) e).1; omega) (.slice Am s.1.length cm)
        have h2 := h1.put_far RSQ.good (s := rv) (by simp) (p := ⟨w.heap.size + 1, 1, none⟩) HRV.out (fun e => by have h4 := (hml (w.heap.size + 1) e).1; omega) (.slice As s.2.length cs)
        have hsl := fun g h => (World.ownsRow.lt hs g h)
        have h3 := (hs.far (p := ⟨w.heap.size + 1, 0, none⟩) (fun g h => by have := (hsl g h).1; show g ≠ w.heap.size + 1; omega) (.slice Am s.1.length cm)).far (p := ⟨w.heap.size + 1, 1, none⟩) (fun g h => by have := (hsl g h).1; show g ≠ w.heap.size + 1; omega) (.slice As s.2.length cs)
        exact ⟨Am, cm, As, cs, rfl, h2.rd, h3.rd, by exact bel1 HGr⟩
end
end Go.Proofs.YtbfkpfdkndnhkaaGreat

/- Contracts: fractions rounded down and to the nearest number, the diagonal of a matrix. -/
namespace Go.Proofs.YtbfkpfdkndnhkaaGreat
set_option linter.unusedSimpArgs false
set_option linter.unusedVariables false
open Go.RowKit

section
set_option maxHeartbeats 2000000
theorem iRoundQ_c (q : Q2) (w : World) : Calls Tryz.prog 62 #[.agg #[.int .i64 q.1, .int .i64 q.2]] w fun e w' => e = .returned (.int .i64 (roundQ q)) ∧ Grows w w' := by
  have CI := fun W => iIsRatio_c q.1 q.2 W
  change ∀ W, Calls Tryz.prog 59 #[.agg #[.int .i64 q.1, .int .i64 q.2]] W (fun e w' => e = .returned (.bool (okQ q)) ∧ Grows W w') at CI
  obtain ⟨w1, hw1⟩ : ∃ w1, w1 = w.alloc (.cells #[.int .i64 q.1, .int .i64 q.2] 59) := ⟨_, rfl⟩
  have mq : QBox w1 w.heap.size q := by rw [hw1]; exact QBox.new_ _ _ _ rfl
  have HG : Grows w w1 := by rw [hw1]; exact bel0
  have HW1 := Lib.hid hw1
  obtain ⟨RES, hRES⟩ : ∃ x, x = roundQ q := ⟨_, rfl⟩
  rw [← hRES]
  unfold roundQ at hRES
  cases hok : okQ q
  · rw [hok] at CI hRES
    have CI' := Lib.hid CI
    have HR := Lib.hid hRES
    clear CI hok hRES hw1
    go_enter Tryz.func62, Tryz.ntmps62
    go_wp2_with fail
    rw [← HW1.out]
    refine (CI'.out _).mono ?_; rintro e w2 ⟨rfl, g2⟩
    go_wp2_with fail
    go_ret
    exact ⟨by rw [HR.out]; rfl, by exact bel2 g2 HG⟩
  · have hb := okQ_bd hok
    rw [hok] at CI hRES
    have CI' := Lib.hid CI
    have HR := Lib.hid hRES
    have CD := Lib.hid fun W => floorDiv_c (2 * q.1 + q.2) (2 * q.2) W (by omega) (by omega) (by omega) (by omega)
    have k1 : IntKind.i64.wrap (2 * q.1) = 2 * q.1 := IntWalk.i64_in _ (by omega)
    have k2 : IntKind.i64.wrap (2 * q.1 + q.2) = 2 * q.1 + q.2 := IntWalk.i64_in _ (by omega)
    have k3 : IntKind.i64.wrap (2 * q.2) = 2 * q.2 := IntWalk.i64_in _ (by omega)
    clear CI hok hRES hw1
    go_enter Tryz.func62, Tryz.ntmps62
    go_wp2_with fail
    rw [← HW1.out]
    refine (CI'.out _).mono ?_; rintro e w2 ⟨rfl, g2⟩
    obtain ⟨q0, q1⟩ := (mq.grows g2).cells
    go_wp2_with fail
    refine (CD.out _).mono ?_; rintro e w3 ⟨rfl, rfl⟩
    go_wp2_with fail
    go_ret
    exact ⟨by rw [HR.out]; rfl, by exact bel2 g2 HG⟩
end
end Go.Proofs.YtbfkpfdkndnhkaaGreat
