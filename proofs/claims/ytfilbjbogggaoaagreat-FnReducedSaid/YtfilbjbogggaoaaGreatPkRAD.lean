/- Contracts and lemmas, put together. -/
import Derived.Deep.DeepCutAuto
import Derived.Test.YtfilbjbogggaoaaGreatPkA
import Derived.Test.YtfilbjbogggaoaaGreatPkB
import Derived.Test.YtfilbjbogggaoaaGreatPkCD
import Derived.Test.YtfilbjbogggaoaaGreatPkD
import Derived.Test.YtfilbjbogggaoaaGreatPkE
import Derived.Test.YtfilbjbogggaoaaGreatPkF
import Derived.Test.YtfilbjbogggaoaaGreatPkGD
/- Contracts: the squares of the orthogonal vectors. -/
namespace Go.Proofs.YtfilbjbogggaoaaGreat
set_option linter.unusedSimpArgs false
set_option linter.unusedVariables false
open Go.RowKit

def befP (L : List Int) : Nat → Int
  | 0 => 1
  | i + 1 => nth L i
def sqP (L : List Int) : Nat → List Q2
  | 0 => []
  | i + 1 => sqP L i ++ [makeQ (nth L i) (befP L i)]
theorem sqP_length (L : List Int) (i : Nat) : (sqP L i).length = i := by
  induction i with
  | zero => rfl
  | succ i ih => rw [sqP]; simp [ih]
def sqO (r c : Int) (l : List Int) : Option (List Q2) := if isDef r c l then some (sqP (oL (lmO r c l)) (oL (lmO r c l)).length) else none
def oLQ (o : Option (List Q2)) : List Q2 := o.getD []
theorem sqO_length {r c : Int} {l : List Int} : (oLQ (sqO r c l)).length ≤ 1048576 := by
  unfold sqO
  split
  · show (sqP _ _).length ≤ _
    rw [sqP_length]
    cases hx : lmO r c l with
    | none => simp [oL]
    | some s => have := lmO_length hx; simp [oL]; omega
  · simp [oLQ]
theorem oL_lm_length (r c : Int) (l : List Int) : (oL (lmO r c l)).length ≤ 1048576 := by
  cases hx : lmO r c l with
  | none => simp [oL]
  | some s => have := lmO_length hx; simp [oL]; omega

section
set_option maxHeartbeats 1000000
end
end Go.Proofs.YtfilbjbogggaoaaGreat

/- Plain: the account of the orthogonal vectors; words on memory for it. -/
namespace Go.Proofs.YtfilbjbogggaoaaGreat
set_option linter.unusedSimpArgs false
set_option linter.unusedVariables false
open Go.RowKit

theorem RdQ.at_ {w : World} {A : Option Addr} {l : List Q2} (h : RdQ w A l) (i : Nat) (hi : i < l.length) : ∃ b off, A = some ⟨b, off, none⟩ ∧ b < w.heap.size ∧ w.cell? ⟨b, off + i * 2, none⟩ = some (.int .i64 (nthQ l i).1) ∧ w.cell? ⟨b, off + i * 2 + 1, none⟩ = some (.int .i64 (nthQ l i).2) := h i hi
def muX (x0 : Int) (sq row oth : List Q2) : Nat → Q2
  | 0 => (x0, 1)
  | k + 1 => addQ (muX x0 sq row oth k) (negQ (mulQ (mulQ (nthQ row k) (nthQ oth k)) (nthQ sq k)))
def cofX (C : Nat) (l : List Int) (mu : List (List Q2)) (sq : List Q2) (i : Nat) (row : List Q2) (j : Nat) : Q2 := muX (nth l (i * C + j)) sq row (mu.getD j []) j
def lastX (C : Nat) (l : List Int) (sq : List Q2) (i : Nat) (row : List Q2) : Q2 := muX (nth l (i * C + i)) sq row row i
def rowF (C : Nat) (l : List Int) (mu : List (List Q2)) (sq : List Q2) (i : Nat) : Nat → Option (List Q2)
  | 0 => some []
  | j + 1 => (rowF C l mu sq i j).bind fun row => if okQ (cofX C l mu sq i row j) then some (row ++ [divQ (cofX C l mu sq i row j) (nthQ sq j)]) else none
def accS (C : Nat) (l : List Int) (i : Nat) (s : List (List Q2) × List Q2) : Option (List (List Q2) × List Q2) :=
  (rowF C l s.1 s.2 i i).bind fun row => if okQ (lastX C l s.2 i row) && decide (0 < (lastX C l s.2 i row).1) then some (s.1 ++ [row], s.2 ++ [lastX C l s.2 i row]) else none
def accF (C : Nat) (l : List Int) : Nat → Option (List (List Q2) × List Q2)
  | 0 => some ([], [])
  | i + 1 => (accF C l i).bind (accS C l i)
theorem rowF_none {C : Nat} {l : List Int} {mu : List (List Q2)} {sq : List Q2} {i j k : Nat} (h : rowF C l mu sq i j = none) (hk : j ≤ k) : rowF C l mu sq i k = none := by
  induction k with
  | zero => obtain rfl : j = 0 := by omega
            exact h
  | succ k ih =>
    by_cases e : j = k + 1
    · rw [← e]; exact h
    · rw [rowF, ih (by omega)]; rfl
theorem rowF_len {C : Nat} {l : List Int} {mu : List (List Q2)} {sq : List Q2} {i j : Nat} {row : List Q2} (h : rowF C l mu sq i j = some row) : row.length = j := by
  induction j generalizing row with
  | zero => cases h; rfl
  | succ j ih =>
    rw [rowF] at h
    obtain ⟨r, h1, h2⟩ := Option.bind_eq_some_iff.1 h
    split at h2
    · cases h2; simp [ih h1]
    · cases h2
theorem rowF_fail {C : Nat} {l : List Int} {mu : List (List Q2)} {sq : List Q2} {i j : Nat} {row : List Q2} (h : rowF C l mu sq i j = some row) (h2 : okQ (cofX C l mu sq i row j) = false) : rowF C l mu sq i (j + 1) = none := by rw [rowF, h, Option.bind_some, h2]; rfl
theorem rowF_next {C : Nat} {l : List Int} {mu : List (List Q2)} {sq : List Q2} {i j : Nat} {row : List Q2} (h : rowF C l mu sq i j = some row) (h2 : okQ (cofX C l mu sq i row j) = true) : rowF C l mu sq i (j + 1) = some (row ++ [divQ (cofX C l mu sq i row j) (nthQ sq j)]) := by rw [rowF, h, Option.bind_some, h2]; rfl
theorem accF_none {C : Nat} {l : List Int} {i k : Nat} (h : accF C l i = none) (hk : i ≤ k) : accF C l k = none := by
  induction k with
  | zero => obtain rfl : i = 0 := by omega
            exact h
  | succ k ih =>
    by_cases e : i = k + 1
    · rw [← e]; exact h
    · rw [accF, ih (by omega)]; rfl
theorem accF_next {C : Nat} {l : List Int} {i : Nat} {s : List (List Q2) × List Q2} (h : accF C l i = some s) : accF C l (i + 1) = accS C l i s := by rw [accF, h]; rfl
theorem acc_row {C n : Nat} {l : List Int} {i j : Nat} {s : List (List Q2) × List Q2} {row : List Q2} (h : accF C l i = some s) (hn : i < n) (hj : j < i) (h1 : rowF C l s.1 s.2 i j = some row) (h2 : okQ (cofX C l s.1 s.2 i row j) = false) : accF C l n = none := by
  refine accF_none (i := i + 1) ?_ (by omega)
  rw [accF_next h, accS, rowF_none (rowF_fail h1 h2) (by omega)]; rfl
theorem acc_last {C n : Nat} {l : List Int} {i : Nat} {s : List (List Q2) × List Q2} {row : List Q2} (h : accF C l i = some s) (hn : i < n) (h1 : rowF C l s.1 s.2 i i = some row) (h2 : okQ (lastX C l s.2 i row) = false ∨ (lastX C l s.2 i row).1 ≤ 0) : accF C l n = none := by
  refine accF_none (i := i + 1) ?_ (by omega)
  rw [accF_next h, accS, h1, Option.bind_some, if_neg]
  rcases h2 with h2 | h2
  · simp [h2]
  · simp; omega
theorem acc_next {C : Nat} {l : List Int} {i : Nat} {s : List (List Q2) × List Q2} {row : List Q2} (h : accF C l i = some s) (h1 : rowF C l s.1 s.2 i i = some row) (h2 : okQ (lastX C l s.2 i row) = true) (h3 : 0 < (lastX C l s.2 i row).1) : accF C l (i + 1) = some (s.1 ++ [row], s.2 ++ [lastX C l s.2 i row]) := by
  rw [accF_next h, accS, h1, Option.bind_some, if_pos]
  simp [h2, h3]
structure AccI (i : Nat) (s : List (List Q2) × List Q2) : Prop where
  l1 : s.1.length = i
  l2 : s.2.length = i
  row : ∀ j, j < i → (s.1.getD j []).length = j
theorem accF_inv {C : Nat} {l : List Int} {i : Nat} {s : List (List Q2) × List Q2} (h : accF C l i = some s) : AccI i s := by
  induction i generalizing s with
  | zero => cases h; exact ⟨rfl, rfl, fun j h => by omega⟩
  | succ i ih =>
    rw [accF] at h
    obtain ⟨t, h1, h2⟩ := Option.bind_eq_some_iff.1 h
    have hi := ih h1
    unfold accS at h2
    obtain ⟨row, h3, h4⟩ := Option.bind_eq_some_iff.1 h2
    split at h4
    · cases h4
      refine ⟨by simp [hi.l1], by simp [hi.l2], fun j hj => ?_⟩
      by_cases e : j < i
      · have := hi.row j e
        simp only [List.getD_eq_getElem?_getD] at this ⊢
        rw [List.getElem?_append_left (by rw [hi.l1]; exact e)]; exact this
      · obtain rfl : j = i := by omega
        simp only [List.getD_eq_getElem?_getD]
        rw [List.getElem?_append_right (by rw [hi.l1]; exact Nat.le_refl _), hi.l1, Nat.sub_self]
        exact rowF_len h3
    · cases h4

theorem QBox.put {w : World} {b : Nat} {q : Q2} (h : QBox w b q) (z : Q2) : QBox ((w.setCell ⟨b, 0, none⟩ (.int .i64 z.1)).setCell ⟨b, 1, none⟩ (.int .i64 z.2)) b z := by
  have h0 := h.c0; have h1 := h.c1; have hf := h.fz; have hl := h.lt
  exact ⟨by simp; exact hl, by simp [go_sem, h0], by simp [go_sem, h1], fun o => by simp [go_sem, hf]⟩
/-- a variable of two slices -/
structure SBox (w : World) (b : Nat) (u v : Value) : Prop where
  lt : b < w.heap.size
  c0 : w.cell? ⟨b, 0, none⟩ = some u
  c1 : w.cell? ⟨b, 1, none⟩ = some v
  fz : ∀ o, w.frozen? ⟨b, o, none⟩ = false
theorem SBox.cells {w : World} {b : Nat} {u v : Value} (h : SBox w b u v) : w.cell? ⟨b, 0, none⟩ = some u ∧ w.cell? ⟨b, 1, none⟩ = some v := ⟨h.c0, h.c1⟩
theorem SBox.keep {w w' : World} {B b : Nat} {u v : Value} (h : SBox w b u v) (k : Below B w w') (hB : b < B) : SBox w' b u v :=
  ⟨Nat.lt_of_lt_of_le h.lt k.size, (k.cell (p := ⟨b, 0, none⟩) hB).trans h.c0, (k.cell (p := ⟨b, 1, none⟩) hB).trans h.c1, fun o => (k.frozen (p := ⟨b, o, none⟩) hB).trans (h.fz o)⟩
theorem SBox.grows {w w' : World} {b : Nat} {u v : Value} (h : SBox w b u v) (k : Grows w w') : SBox w' b u v := h.keep k h.lt
theorem SBox.new_ (w : World) (u v : Value) (t : TypeId) {b : Nat} (hb : w.heap.size = b) : SBox (w.alloc (.cells #[u, v] t)) b u v := by
  subst hb
  exact ⟨by simp, by simp [go_sem], by simp [go_sem], fun o => by simp [go_sem]⟩
theorem SBox.of_block {w w' : World} {b : Nat} {u v : Value} (h : SBox w b u v) (hk : w'.heap[b]? = w.heap[b]?) (hs : w.heap.size ≤ w'.heap.size) : SBox w' b u v :=
  ⟨Nat.lt_of_lt_of_le h.lt hs, (World.cell?_of_block hk).trans h.c0, (World.cell?_of_block hk).trans h.c1, fun o => by
    have := h.fz o
    unfold World.frozen? at this ⊢
    simpa [hk] using this⟩
theorem SBox.own {w w' : World} {b : Nat} {u v : Value} {r : Option Nat} (h : SBox w b u v) (hg : w.grownBy w' r) (hne : r ≠ some b) : SBox w' b u v :=
  h.of_block (hg.block b h.lt (fun e => hne e.symm)) hg.size
theorem SBox.put0 {w : World} {b : Nat} {u v : Value} (h : SBox w b u v) (x : Value) : SBox (w.setCell ⟨b, 0, none⟩ x) b x v := by
  have h0 := h.c0; have h1 := h.c1; have hf := h.fz; have hl := h.lt
  exact ⟨by simp; exact hl, by simp [go_sem, h0], by simp [go_sem, h1], fun o => by simp [go_sem, hf]⟩
theorem SBox.put1 {w : World} {b : Nat} {u v : Value} (h : SBox w b u v) (x : Value) : SBox (w.setCell ⟨b, 1, none⟩ x) b u x := by
  have h0 := h.c0; have h1 := h.c1; have hf := h.fz; have hl := h.lt
  exact ⟨by simp; exact hl, by simp [go_sem, h0], by simp [go_sem, h1], fun o => by simp [go_sem, hf]⟩
theorem und_qq : Tryz.prog.underlying 68 = some (.slice 69) := Tryz.underlying68
theorem info_qs : (Tryz.prog.info? 69).map (fun i => (i.zero, i.size, i.bytes)) = some (some (.slice none 0 0), 1, 24) := by kernel_rfl
/-- row j of the account, read -/
theorem RdR.rowQ {w : World} {A : Option Addr} {L : List (List Q2)} (h : RdR RSQ w A L) (j : Nat) (hj : j < L.length) : ∃ b off A' c', A = some ⟨b, off, none⟩ ∧ b < w.heap.size ∧ w.cell? ⟨b, off + j, none⟩ = some (.slice A' (L.getD j []).length c') ∧ RdQ w A' (L.getD j []) ∧ (L.getD j []).length ≤ c' := by
  obtain ⟨b, off, u, e, hb, hc, A', c', e2, h1, h2⟩ := h.at_ j hj
  have e3 : L.getD j [] = L[j] := by simp [List.getD, hj]
  rw [e3]
  subst e2
  exact ⟨b, off, A', c', e, hb, hc, h1, h2⟩
end Go.Proofs.YtfilbjbogggaoaaGreat

/- Contracts: the program's account of the orthogonal vectors. -/
namespace Go.Proofs.YtfilbjbogggaoaaGreat
set_option linter.unusedSimpArgs false
set_option linter.unusedVariables false
open Go.RowKit

def oA (o : Option (List (List Q2) × List Q2)) : List (List Q2) × List Q2 := o.getD ([], [])
/-- the answer is the account, readable, and whether there is one -/
def AccRet (o : Option (List (List Q2) × List Q2)) (w : World) (e : Ending) (w' : World) : Prop :=
  ∃ Am cm As cs, e = .returned (.tuple #[.agg #[.slice Am (oA o).1.length cm, .slice As (oA o).2.length cs], .bool o.isSome]) ∧ RdR RSQ w' Am (oA o).1 ∧ RdQ w' As (oA o).2 ∧ Grows w w'
theorem accRet_out {o : Option (List (List Q2) × List Q2)} {w w' : World} {e : Ending} (h : AccRet o w e w') : ∃ Am cm As cs, e = .returned (.tuple #[.agg #[.slice Am (oA o).1.length cm, .slice As (oA o).2.length cs], .bool o.isSome]) ∧ RdR RSQ w' Am (oA o).1 ∧ RdQ w' As (oA o).2 ∧ Grows w w' := h
/-- the state of a row: j cells of it are made; or it is whole, and its square is appended -/
def JRel (R : Nat) (l : List Int) (s : List (List Q2) × List Q2) (I bo B1 : Nat) (vm vs bv rv : Value) (w1 wi : World) (u j : Value) (wx : World) : Prop :=
  ∃ (J : Nat) (row : List Q2) (A6 : Option Addr) (c6 : Nat), j = .int .i64 J ∧ u = .slice A6 row.length c6 ∧ OwnQ wx wi.heap.size (.slice A6 row.length c6) row ∧
    ((J ≤ I ∧ rowF R l s.1 s.2 I J = some row ∧ Grows wi wx) ∨
     (J = I + 1 ∧ ∃ vs', accF R l (I + 1) = some (s.1 ++ [row], s.2 ++ [lastX R l s.2 I row]) ∧ SBox wx bo vm vs' ∧ OwnQ wx B1 vs' (s.2 ++ [lastX R l s.2 I row]) ∧ OwnR 69 adR RSQ wx B1 vm s.1 [vs', bv, rv] ∧
       (∀ g, vm.ownBlock = some g → vs'.ownBlock ≠ some g) ∧ (∀ g, (Value.slice A6 row.length c6).ownBlock = some g → vs'.ownBlock ≠ some g) ∧ wi.heap.size ≤ wx.heap.size ∧ Below bo w1 wx))

theorem OwnR.put_far {α : Type} {t : TypeId} {ad : Value → Option Nat} {R : World → Value → α → Prop} {w : World} {B : Nat} {v : Value} {L : List α} {S : List Value} (hG : GoodR ad R) (h : OwnR t ad R w B v L S) {s : Value} (hs : s ∈ S) {p : Addr} (hp : s.ownBlock = some p.block) (hv : v.ownBlock ≠ some p.block) (u : Value) : OwnR t ad R (w.setCell p u) B v L S :=
  h.other hG hs (fun g hg e => hv (by rw [← hp, hg]; exact e)) (only_setCell (World.grownBy.refl w _) hp u)
theorem RdR.nil {α : Type} {R : World → Value → α → Prop} (w : World) (A : Option Addr) : RdR R w A ([] : List α) := ⟨[], rfl, RdV.nil _ _, fun i u x h => by simp at h⟩
theorem accRet_none {w w' : World} {e : Ending} (h : e = .returned (.tuple #[.agg #[.slice none 0 0, .slice none 0 0], .bool false])) (g : Grows w w') : AccRet none w e w' := ⟨none, 0, none, 0, h, RdR.nil _ _, RdQ.nil _ _, g⟩
theorem OwnQ.far {w : World} {B : Nat} {v : Value} {l : List Q2} (h : OwnQ w B v l) {p : Addr} (hp : ∀ g, v.ownBlock = some g → g ≠ p.block) (u : Value) : OwnQ (w.setCell p u) B v l := ownsRow_far h hp u

theorem adR_own2 {v : Value} {g : Nat} (h : adR v = some g) : v.ownBlock = some g := by
  unfold adR at h
  split at h
  · split at h
    · cases h
    · cases h; rfl
  · cases h
theorem QBox.own {w w' : World} {b : Nat} {q : Q2} {r : Option Nat} (h : QBox w b q) (hg : w.grownBy w' r) (hne : r ≠ some b) : QBox w' b q := by
  have hk := hg.block b h.lt (fun e => hne e.symm)
  exact ⟨Nat.lt_of_lt_of_le h.lt hg.size, (World.cell?_of_block hk).trans h.c0, (World.cell?_of_block hk).trans h.c1, fun o => by
    have := h.fz o
    unfold World.frozen? at this ⊢
    simpa [hk] using this⟩
/-- out = append(out, q), at a step of a region that draws -/
theorem step_appQ1 {ops : Array Oper} {o : Oper} {a : Act} {K : Act → World → Prop} {Q : Exit → Act → World → Prop} {E : Prop} (hgd : o.guard = none) (s x : Operand)
    (ho : o.op = .call { callee := .builtin .append, args := #[s, x], argTypes := #[69, 69] }) (w : World) (z : Q2)
    (B : Nat) (v : Value) (l : List Q2) (hs : a.eval s = v) (hown : OwnQ w B v l) (hx : a.eval x = .slice (some ⟨w.heap.size, 0, none⟩) 1 1)
    (hl : l.length + 1 ≤ 1099511627776) (hB : B ≤ w.heap.size)
    (h : ∀ v' w', OwnQ w' B v' (l ++ [z]) → w.grownBy w' v.ownBlock → (v'.ownBlock = v.ownBlock ∨ ∃ g, v'.ownBlock = some g ∧ w.heap.size ≤ g) → K (a.put o.dst v') w') :
    if Region.wanted o (yielded ops a.tmps) = true then Oper.wp Tryz.prog o a (w.alloc (.cells #[.int .i64 z.1, .int .i64 z.2] 79)) K Q else E := by
  have hw : Region.wanted o (yielded ops a.tmps) = true := by simp [Region.wanted, hgd]
  rw [if_pos hw]
  obtain ⟨i0, hi0, hz0, hz1, hz2⟩ := info_parts info_ratio
  obtain ⟨v', w', hrun, h2, h3, _, h5⟩ := run_append_own_at (P := Tryz.prog) (w.alloc (.cells #[.int .i64 z.1, .int .i64 z.2] 79)) B 69 o.type 79 i0 (.agg #[.int .i64 0, .int .i64 0]) 2 16 Tryz.underlying69 hi0 hz0 hz1 hz2 rfl (by omega) v l.length (flatV l) (hown.alloc _)
    ⟨w.heap.size, 0, none⟩ 1 1 [.int .i64 z.1, .int .i64 z.2] (by simp) (by
      intro j u hu
      match j with
      | 0 => simp at hu; subst hu; simp [Addr.add, go_sem]
      | 1 => simp at hu; subst hu; simp [Addr.add, go_sem]
      | j + 2 => simp at hu) (by intro u hu; simp at hu; rcases hu with rfl | rfl <;> rfl) (by simp [maxLen]; omega) (by omega) (by simp; omega)
  unfold Oper.wp execOp
  simp only [ho, resolve, invoke, builtin, Sem.run_bind, Sem.run_pure, Result.andThen_ok, List.map_toArray, List.map_cons, List.map_nil, hs, hx, hrun]
  refine h v' w' ?_ ?_ ?_
  · unfold OwnQ
    rw [List.length_append, flatV_append]
    exact h2
  · exact ⟨h3.os, h3.tape, h3.output, Nat.le_trans (by simp) h3.size, fun k hk hne => (h3.block k (by simp; omega) hne).trans (Below.heap_alloc w _ k hk)⟩
  · rcases h5 with h5 | h5
    · exact .inl h5
    · exact .inr ⟨_, h5, by simp⟩
theorem acc_keep {W : World} {b8 bo bs fs : Nat} {x d : Q2} {vm vs : Value} (h : QBox W b8 x) (h2 : SBox W bo vm vs) (h3 : W.cell? ⟨bs, fs, none⟩ = some (.int .i64 d.1)) (h4 : W.cell? ⟨bs, fs + 1, none⟩ = some (.int .i64 d.2)) :
    W.cell? ⟨b8, 0, none⟩ = some (.int .i64 x.1) ∧ W.cell? ⟨b8, 1, none⟩ = some (.int .i64 x.2) ∧ W.cell? ⟨bo, 1, none⟩ = some vs ∧ W.cell? ⟨bs, fs, none⟩ = some (.int .i64 d.1) ∧ W.cell? ⟨bs, fs + 1, none⟩ = some (.int .i64 d.2) := ⟨h.c0, h.c1, h2.c1, h3, h4⟩

section
set_option maxHeartbeats 8000000
set_option maxRecDepth 100000
theorem iAcc_c (R : Nat) (A : Option Addr) (l : List Int) (n cap : Nat) (w : World) (hn : l.length = n) (hlen : l.length = R * R) (hR : R ≤ 24) (ha : Rd w A l) :
    Calls Tryz.prog 62 #[.agg #[.int .i64 R, .int .i64 R, .slice A n cap]] w (AccRet (accF R l R) w) := by
  obtain ⟨w1, hw1⟩ : ∃ w1, w1 = ((w.alloc (.cells #[.int .i64 R, .int .i64 R, .slice A n cap] 26)).alloc (.cells #[.slice none 0 0, .slice none 0 0] 71)).alloc (.cells #[.slice none 0 0, .slice none 0 0] 71) := ⟨_, rfl⟩
  have mg : MBox w1 w.heap.size R R (.slice A n cap) := by rw [hw1]; exact ((MBox.mk_ _ _ _ _ _).grows (by exact bel0)).grows (by exact bel0)
  have mr : SBox w1 (w.heap.size + 1) (.slice none 0 0) (.slice none 0 0) := by rw [hw1]; exact SBox.grows (SBox.new_ (w.alloc _) _ _ _ (by simp)) (by exact bel0)
  have mo : SBox w1 (w.heap.size + 1 + 1) (.slice none 0 0) (.slice none 0 0) := by rw [hw1]; exact SBox.new_ _ _ _ _ (by simp)
  have hs1 : w1.heap.size = w.heap.size + 3 := by rw [hw1]; simp
  have HG : Grows w w1 := by rw [hw1]; exact bel0
  have ha1 := ha.grows HG
  have HW1 := Lib.hid hw1
  have HS1 := Lib.hid hs1
  have HN := Lib.hid hn
  have HLN := Lib.hid hlen
  have hRR : R * R ≤ 576 := Nat.mul_le_mul hR hR
  have HB := Lib.hid fun i (hi : i < R) => (show i * R ≤ 576 by have := Nat.mul_le_mul_right R (Nat.le_of_lt hi); omega)
  have CC := Lib.hid fun (i j : Nat) (hi : i < R) (hj : j < R) W h => at_c R R A l n cap i j W hn h (castMul i R) (by have := castMulLe (HB.out i hi); omega) (castPos i R j) (castLt (by rw [hlen]; exact idx_lt hi hj)) (by omega)
  obtain ⟨bv, hbv⟩ : ∃ bv : Value, bv.ownBlock = some (w.heap.size + 1 + 1) := ⟨.slice (some ⟨w.heap.size + 1 + 1, 0, none⟩) 0 0, rfl⟩
  obtain ⟨rv, hrv⟩ : ∃ rv : Value, rv.ownBlock = some (w.heap.size + 1) := ⟨.slice (some ⟨w.heap.size + 1, 0, none⟩) 0 0, rfl⟩
  have HBV := Lib.hid hbv
  have HRV := Lib.hid hrv
  clear hbv hrv
  obtain ⟨RES, hRES⟩ : ∃ x, x = accF R l R := ⟨_, rfl⟩
  rw [← hRES]
  have HRES := Lib.hid hRES
  clear hw1 hs1 hn hlen hRES
  go_enter Tryz.func62, Tryz.ntmps62
  go_wp2_with fail
  rw [← HW1.out]
  go_loopw [5] (fun i wr => ∃ (I : Nat) (vm vs : Value) (s : List (List Q2) × List Q2), i = .int .i64 I ∧ I ≤ R ∧ accF R l I = some s ∧ SBox wr (w.heap.size + 1 + 1) vm vs ∧ OwnQ wr w1.heap.size vs s.2 ∧ OwnR 69 adR RSQ wr w1.heap.size vm s.1 [vs, bv, rv] ∧ (∀ g, vm.ownBlock = some g → vs.ownBlock ≠ some g) ∧ Below (w.heap.size + 1 + 1) w1 wr) (fun i _ => R - (intOf i).toNat)
  case atStart => exact ⟨0, _, _, ([], []), rfl, Nat.zero_le _, rfl, mo, OwnQ.nil _ _, OwnR.nil _ _ _ _ _ _, fun g hg => by simp [Value.ownBlock] at hg, by exact bel0⟩
  case round =>
    clear mo
    obtain ⟨I, vm, vs, s, rfl, hI, hF, mo, hs, hm, hap, hg⟩ := hrel
    have HF := Lib.hid hF
    have HI := Lib.hid (accF_inv hF)
    have HAP := Lib.hid hap
    have hs1 := HS1.out
    have hsz := Below.size hg
    have ha2 : Rd _ A l := ha.grows (Below.trans HG (hg.mono (by omega)))
    clear hF hap
    by_cases hlt : I < R
    · have hlt' : (I : Int) < (R : Int) := by omega
      obtain ⟨Am, cm, hvm, hrm, hcm⟩ := hm.val
      obtain ⟨As, cs, hvs, hrs, hcs⟩ := hs.val
      rw [HI.out.l1] at hvm hcm
      rw [HI.out.l2] at hvs hcs
      subst hvm hvs
      have mgi := mg.keep hg (by omega)
      obtain ⟨wi, rfl⟩ : ∃ wi : World, wi = wr := ⟨_, rfl⟩
      obtain ⟨b0, b1, b2⟩ := mgi.cells
      go_wp2_with fail
      go_loopw [6, 7] (JRel R l s I (w.heap.size + 1 + 1) w1.heap.size (.slice Am I cm) (.slice As I cs) bv rv w1 wi) (fun _ j _ => R + 1 - (intOf j).toNat)
      case atStart => exact ⟨0, [], _, _, rfl, rfl, OwnQ.new_ _ rfl (Nat.le_refl _), .inl ⟨Nat.zero_le _, rfl, by exact bel0⟩⟩
      case round =>
        clear b0 b1 b2
        obtain ⟨J, row, A6, c6, rfl, rfl, hu, hd⟩ := hrel
        rcases hd with ⟨hJ, hrow, hgj⟩ | ⟨rfl, vs', hnx, mo', hs', hm', hap', hap6, hsx, hb'⟩
        · have HROW := Lib.hid hrow
          have hrl := rowF_len hrow
          have HRL := Lib.hid hrl
          have hJ' : (J : Int) ≤ (I : Int) := by omega
          have hsj := Below.size hgj
          obtain ⟨wj, rfl⟩ : ∃ wj : World, wj = wr := ⟨_, rfl⟩
          have hru := hu.rd
          have mgj := mgi.grows hgj
          have haj := ha2.grows hgj
          have mo_j := mo.grows hgj
          have hrsj := hrs.grows hgj
          have hrmj := hrm.grows RSQ.good hgj
          have C1 := fun W h => CC.out I J hlt (by omega) W h
          rw [castIdx] at C1
          obtain ⟨X0, hX0⟩ : ∃ x, x = nth l (I * R + J) := ⟨_, rfl⟩
          rw [← hX0] at C1
          have C1' := Lib.hid C1
          have CW := Lib.hid fun W => whole_c X0 W
          have HX0 := Lib.hid hX0
          clear hrow hrl C1 hX0
          obtain ⟨b0, b1, b2⟩ := mgj.cells
          go_wp2_with fail
          refine (C1'.out _ (by exact (Rd.grows haj (by exact bel0)))).mono ?_; rintro e w5 ⟨rfl, g5⟩
          go_wp2_with fail
          refine (CW.out _).mono ?_; rintro e w7 ⟨rfl, g7⟩
          have g57 : Grows wj w7 := by exact bel2 g7 g5
          have hs7 := Below.size g57
          clear b0 b1 b2
          obtain ⟨oth, hoth⟩ : ∃ x, x = if J = I then row else s.1.getD J [] := ⟨_, rfl⟩
          have HOTH := Lib.hid hoth
          clear hoth
          go_wp2_with fail
          go_loopw [9] (fun k wy => ∃ (K : Nat), k = .int .i64 K ∧ K ≤ J ∧ QBox wy w7.heap.size (muX X0 s.2 row oth K) ∧ Grows w7 wy) (fun k _ => J - (intOf k).toNat)
          case atStart => exact ⟨0, rfl, Nat.zero_le _, QBox.new_ w7 (X0, 1) 79 rfl, by exact bel0⟩
          case round =>
            obtain ⟨K, rfl, hK, qb, hgk⟩ := hrel
            have hsk := Below.size hgk
            have gjk : Grows wj wr := by exact bel2 hgk g57
            obtain ⟨x, hx⟩ : ∃ x, x = muX X0 s.2 row oth K := ⟨_, rfl⟩
            rw [← hx] at qb
            have HX := Lib.hid hx
            clear hx
            obtain ⟨q0, q1⟩ := qb.cells
            have ql := qb.lt
            have mok := mo_j.grows gjk
            obtain ⟨o0, o1⟩ := mok.cells
            by_cases hltk : K < J
            · have hltk' : (K : Int) < (J : Int) := by omega
              have hkr : (K : Int) < (row.length : Int) := by rw [HRL.out]; omega
              have hki : (K : Int) < (I : Int) := by omega
              have CW1 := Lib.hid fun W => whole_c 1 W
              obtain ⟨br, fr, rfl, hbr, r0, r1⟩ := (hru.grows gjk).at_ K (by rw [HRL.out]; exact hltk)
              obtain ⟨bs, fs, rfl, hbs, s0, s1⟩ := (hrsj.grows gjk).at_ K (by rw [HI.out.l2]; omega)
              obtain ⟨a, ha'⟩ : ∃ a, a = nthQ row K := ⟨_, rfl⟩
              obtain ⟨d, hd'⟩ : ∃ d, d = nthQ s.2 K := ⟨_, rfl⟩
              rw [← ha'] at r0 r1
              rw [← hd'] at s0 s1
              have HA := Lib.hid ha'
              have HD := Lib.hid hd'
              clear ha' hd'
              by_cases hJI : J = I
              · subst hJI
                have HZ := Lib.hid (show nthQ oth K = a by rw [HOTH.out, if_pos rfl, HA.out])
                have hjb : ((J : Int) == (J : Int)) = true := by simp
                have CM1 := fun W => iMultiplyRatios_c a a W
                have CM2 := fun W => iMultiplyRatios_c (mulQ a a) d W
                have CS := fun W => sub_c x (mulQ (mulQ a a) d) W
                have HNX := Lib.hid (show muX X0 s.2 row oth (K + 1) = subQ x (mulQ (mulQ a a) d) by rw [muX, ← HX.out, HZ.out, ← HA.out, ← HD.out]; rfl)
                generalize subQ x (mulQ (mulQ a a) d) = x' at *
                generalize mulQ (mulQ a a) d = y2 at *
                generalize mulQ a a = y1 at *
                have CM1' := Lib.hid CM1
                have CM2' := Lib.hid CM2
                have CS' := Lib.hid CS
                clear CM1 CM2 CS
                go_wp2_with fail
                refine (CW1.out _).mono ?_; rintro e wa ⟨rfl, ga⟩
                have hsa := Below.size ga
                have r0a := ((bcell ga).1 br (fr + K * 2) hbr).trans r0
                have r1a := ((bcell ga).1 br (fr + K * 2 + 1) hbr).trans r1
                have s0a := ((bcell ga).1 bs (fs + K * 2) hbs).trans s0
                have s1a := ((bcell ga).1 bs (fs + K * 2 + 1) hbs).trans s1
                clear q0 q1 o0 o1 r0 r1 s0 s1
                obtain ⟨q0, q1⟩ := (qb.grows ga).cells
                obtain ⟨o0, o1⟩ := (mok.grows ga).cells
                have hbr' : br < wa.heap.size := by omega
                have hbs' : bs < wa.heap.size := by omega
                have hbo' := (mok.grows ga).lt
                go_wp2_with fail
                obtain ⟨wb, hwb⟩ : ∃ wb, wb = wa.alloc (.cells #[.int .i64 a.1, .int .i64 a.2] 79) := ⟨_, rfl⟩
                rw [← hwb]
                have gab : Grows wa wb := by rw [hwb]; exact bel0
                have qo : QBox wb wa.heap.size a := by rw [hwb]; exact QBox.new_ _ _ _ rfl
                have HWB := Lib.hid hwb
                have r0b := ext_is (((bcell gab).1 br (fr + K * 2) hbr').trans r0a)
                have r1b := ext_is (((bcell gab).1 br (fr + K * 2 + 1) hbr').trans r1a)
                have s0b := ext_is (((bcell gab).1 bs (fs + K * 2) hbs').trans s0a)
                have s1b := ext_is (((bcell gab).1 bs (fs + K * 2 + 1) hbs').trans s1a)
                have qbb := (qb.grows ga).grows gab
                have q0b := ext_is qbb.c0
                have q1b := ext_is qbb.c1
                have t0b := ext_is qo.c0
                have t1b := ext_is qo.c1
                have o1b := ext_is ((mok.grows ga).grows gab).c1
                clear hwb q0 q1 o0 o1 r0a r1a s0a s1a
                ((refine wp_region_tail 14 (by kernel_rfl) (by kernel_rfl) ?_; simp only [List.take_succ_cons, List.take_zero, List.drop_succ_cons, List.drop_zero]); (repeat (go_big_quiet_step ((first | (go_at_call 128; with_reducible exact extC (CM1'.out _)) | (go_at_call 128; with_reducible exact extC (CM2'.out _)) | (go_at_call 127; with_reducible exact extC (CS'.out _)))))); refine wpQuiet_nil ?_; rintro wc ⟨wc0, hwc0⟩; have gc := grows_of_ext hwc0; clear hwc0 wc0)
                have qbc := qbb.grows gc
                obtain ⟨q0, q1⟩ := qbc.cells
                have qf := qbc.fz
                have qlc := qbc.lt
                clear q0b q1b t0b t1b o1b r0b r1b s0b s1b
                go_wp2_with fail
                go_round
                case rel => exact ⟨K + 1, by go_num, by omega, by rw [HNX.out]; exact qbc.put _, by exact bel4 gc gab ga hgk⟩
                case measure => simp [intOf]; omega
              · have hjb : ((J : Int) == (I : Int)) = false := by rw [beq_eq_false_iff_ne]; omega
                have hJlt : J < I := by omega
                have hJlt' : (J : Int) < (I : Int) := by omega
                obtain ⟨bm, fm, Aj, cj, rfl, hbm, m0, hrj, hcj⟩ := (hrmj.grows RSQ.good gjk).rowQ J (by rw [HI.out.l1]; exact hJlt)
                have hjl := HI.out.row J hJlt
                rw [hjl] at m0 hcj
                obtain ⟨bj, fj, rfl, hbj, j0, j1⟩ := hrj.at_ K (by rw [hjl]; exact hltk)
                obtain ⟨z, hz'⟩ : ∃ z, z = nthQ (s.1.getD J []) K := ⟨_, rfl⟩
                rw [← hz'] at j0 j1
                have HZ := Lib.hid (show nthQ oth K = z by rw [HOTH.out, if_neg hJI, hz'])
                have CM1 := fun W => iMultiplyRatios_c a z W
                have CM2 := fun W => iMultiplyRatios_c (mulQ a z) d W
                have CS := fun W => sub_c x (mulQ (mulQ a z) d) W
                have HNX := Lib.hid (show muX X0 s.2 row oth (K + 1) = subQ x (mulQ (mulQ a z) d) by rw [muX, ← HX.out, HZ.out, ← HA.out, ← HD.out]; rfl)
                clear hz' hjl
                generalize subQ x (mulQ (mulQ a z) d) = x' at *
                generalize mulQ (mulQ a z) d = y2 at *
                generalize mulQ a z = y1 at *
                have CM1' := Lib.hid CM1
                have CM2' := Lib.hid CM2
                have CS' := Lib.hid CS
                clear CM1 CM2 CS
                go_wp2_with fail
                refine (CW1.out _).mono ?_; rintro e wa ⟨rfl, ga⟩
                have hsa := Below.size ga
                have r0a := ((bcell ga).1 br (fr + K * 2) hbr).trans r0
                have r1a := ((bcell ga).1 br (fr + K * 2 + 1) hbr).trans r1
                have s0a := ((bcell ga).1 bs (fs + K * 2) hbs).trans s0
                have s1a := ((bcell ga).1 bs (fs + K * 2 + 1) hbs).trans s1
                have j0a := ((bcell ga).1 bj (fj + K * 2) hbj).trans j0
                have j1a := ((bcell ga).1 bj (fj + K * 2 + 1) hbj).trans j1
                have m0a := ((bcell ga).1 bm (fm + J) hbm).trans m0
                clear q0 q1 o0 o1 r0 r1 s0 s1 j0 j1 m0
                obtain ⟨q0, q1⟩ := (qb.grows ga).cells
                obtain ⟨o0, o1⟩ := (mok.grows ga).cells
                have hbr' : br < wa.heap.size := by omega
                have hbs' : bs < wa.heap.size := by omega
                have hbj' : bj < wa.heap.size := by omega
                have hbm' : bm < wa.heap.size := by omega
                have hbo' := (mok.grows ga).lt
                go_wp2_with fail
                obtain ⟨wb, hwb⟩ : ∃ wb, wb = wa.alloc (.cells #[.int .i64 z.1, .int .i64 z.2] 79) := ⟨_, rfl⟩
                rw [← hwb]
                have gab : Grows wa wb := by rw [hwb]; exact bel0
                have qo : QBox wb wa.heap.size z := by rw [hwb]; exact QBox.new_ _ _ _ rfl
                have HWB := Lib.hid hwb
                have r0b := ext_is (((bcell gab).1 br (fr + K * 2) hbr').trans r0a)
                have r1b := ext_is (((bcell gab).1 br (fr + K * 2 + 1) hbr').trans r1a)
                have s0b := ext_is (((bcell gab).1 bs (fs + K * 2) hbs').trans s0a)
                have s1b := ext_is (((bcell gab).1 bs (fs + K * 2 + 1) hbs').trans s1a)
                have qbb := (qb.grows ga).grows gab
                have q0b := ext_is qbb.c0
                have q1b := ext_is qbb.c1
                have t0b := ext_is qo.c0
                have t1b := ext_is qo.c1
                have o1b := ext_is ((mok.grows ga).grows gab).c1
                clear hwb q0 q1 o0 o1 r0a r1a s0a s1a j0a j1a m0a
                ((refine wp_region_tail 14 (by kernel_rfl) (by kernel_rfl) ?_; simp only [List.take_succ_cons, List.take_zero, List.drop_succ_cons, List.drop_zero]); (repeat (go_big_quiet_step ((first | (go_at_call 128; with_reducible exact extC (CM1'.out _)) | (go_at_call 128; with_reducible exact extC (CM2'.out _)) | (go_at_call 127; with_reducible exact extC (CS'.out _)))))); refine wpQuiet_nil ?_; rintro wc ⟨wc0, hwc0⟩; have gc := grows_of_ext hwc0; clear hwc0 wc0)
                have qbc := qbb.grows gc
                obtain ⟨q0, q1⟩ := qbc.cells
                have qf := qbc.fz
                have qlc := qbc.lt
                clear q0b q1b t0b t1b o1b r0b r1b s0b s1b
                go_wp2_with fail
                go_round
                case rel => exact ⟨K + 1, by go_num, by omega, by rw [HNX.out]; exact qbc.put _, by exact bel4 gc gab ga hgk⟩
                case measure => simp [intOf]; omega
            · obtain rfl : J = K := by omega
              have mrk := ((mr.keep hg (by omega)).grows hgj).grows gjk
              have gik : Grows wi wr := by exact bel2 gjk hgj
              have HGi : Grows w wi := Below.trans HG (hg.mono (by omega))
              have HGr : Grows w wr := by exact bel2 gik HGi
              have HCOF := Lib.hid (show J ≠ I → cofX R l s.1 s.2 I row J = x from fun h => by rw [HX.out, HOTH.out, if_neg h, HX0.out]; rfl)
              have HLAST := Lib.hid (show J = I → lastX R l s.2 I row = x from fun h => by subst h; rw [HX.out, HOTH.out, if_pos rfl, HX0.out]; rfl)
              have CI := fun W => iIsRatio_c x.1 x.2 W
              change ∀ W, Calls Tryz.prog 129 #[.agg #[.int .i64 x.1, .int .i64 x.2]] W (fun e w' => e = .returned (.bool (okQ x)) ∧ Grows W w') at CI
              cases hok : okQ x
              · have hn : RES = none := by
                  rw [HRES.out]
                  by_cases hJI : J = I
                  · have h := HROW.out
                    rw [hJI] at h
                    exact acc_last HF.out hlt h (.inl (by rw [HLAST.out hJI]; exact hok))
                  · exact acc_row HF.out hlt (by omega) HROW.out (by rw [HCOF.out hJI]; exact hok)
                subst hn
                rw [hok] at CI
                have CI' := Lib.hid CI
                clear CI hok
                go_wp2_with fail
                refine (CI'.out _).mono ?_; rintro e wa ⟨rfl, ga⟩
                clear q0 q1 o0 o1
                obtain ⟨z0, z1⟩ := (mrk.grows ga).cells
                have zf := (mrk.grows ga).fz
                have zl := (mrk.grows ga).lt
                go_wp2_with fail
                refine bodyPost_ret (v := .tuple #[.agg #[.slice none 0 0, .slice none 0 0], .bool false]) ?_ rfl ?_
                · simp [results, Tryz.results62, go_sem, z0, z1, zf, zl]
                · exact accRet_none rfl (by exact bel2 ga HGr)
              · have HOK := Lib.hid hok
                rw [hok] at CI
                have CI' := Lib.hid CI
                clear CI hok
                by_cases hJI : J = I
                · subst hJI
                  by_cases hpos : x.1 ≤ 0
                  · obtain rfl : RES = none := by rw [HRES.out]; exact acc_last HF.out hlt HROW.out (.inr (by rw [HLAST.out rfl]; exact hpos))
                    go_wp2_with fail
                    refine (CI'.out _).mono ?_; rintro e wa ⟨rfl, ga⟩
                    clear q0 q1 o0 o1
                    obtain ⟨q0, q1⟩ := (qb.grows ga).cells
                    obtain ⟨z0, z1⟩ := (mrk.grows ga).cells
                    have zf := (mrk.grows ga).fz
                    have zl := (mrk.grows ga).lt
                    go_wp2_with fail
                    refine bodyPost_ret (v := .tuple #[.agg #[.slice none 0 0, .slice none 0 0], .bool false]) ?_ rfl ?_
                    · simp [results, Tryz.results62, go_sem, z0, z1, zf, zl]
                    · exact accRet_none rfl (by exact bel2 ga HGr)
                  · have HACC := Lib.hid (acc_next HF.out HROW.out (by rw [HLAST.out rfl]; exact HOK.out) (by rw [HLAST.out rfl]; omega))
                    rw [HLAST.out rfl] at HACC
                    have HL2 := Lib.hid (HLAST.out rfl)
                    go_wp2_with fail
                    refine (CI'.out _).mono ?_; rintro e wa ⟨rfl, ga⟩
                    have hsa := Below.size ga
                    clear q0 q1 o0 o1
                    obtain ⟨q0, q1⟩ := (qb.grows ga).cells
                    obtain ⟨o0, o1⟩ := (mok.grows ga).cells
                    have gia : Grows wi wa := by exact bel2 ga gik
                    have hsr := hs.grows gia
                    have moa := mok.grows ga
                    have hma := (hm.grows RSQ.good gia)
                    have hua := (hu.grows (show Grows wj wa by exact bel2 ga gjk))
                    have hslt := fun g h => (World.ownsRow.lt hs g h)
                    have hmlt := fun g h => (hm.lt (g := g) h)
                    have hult := fun g h => (World.ownsRow.lt hu g h)
                    have HSLT := Lib.hid hslt
                    have HMLT := Lib.hid hmlt
                    have HULT := Lib.hid hult
                    clear hslt hmlt hult
                    have HL8 := Lib.hid (show (s.2 ++ [x]).length = J + 1 by simp [HI.out.l2])
                    go_wp2_with (at_builtin; refine wpList_appQ1 rfl (.tmp 86) (.tmp 88) rfl _ x w1.heap.size _ s.2 (by rfl) hsr (by rfl) (by rw [HI.out.l2]; omega) (by omega) ?_; intro v8 w8 ho8 hg8 hv8; obtain ⟨A8, c8, hv8e, _, _⟩ := ho8.val; rw [HL8.out] at hv8e; subst hv8e; have mo8 := moa.own hg8 (fun e => by have := (HSLT.out _ e).1; omega); clear q0 q1 o0 o1; obtain ⟨o0, o1⟩ := mo8.cells; have of8 := mo8.fz; have ol8 := mo8.lt)
                    go_roundw
                    case rel =>
                      have hb8 : Below w1.heap.size wa w8 := below_appR hsr (by omega) hg8
                      have hS : OwnR 69 adR RSQ wa w1.heap.size (.slice Am J cm) s.1 [.slice As J cs, (Value.slice A8 (J + 1) c8), bv, rv] := hma.avoid RSQ.good (fun s' h g hg' => by
                        simp only [List.mem_cons, List.not_mem_nil, or_false] at h
                        rcases h with rfl | rfl | rfl | rfl
                        · exact .inl ⟨.slice As J cs, by simp, hg'⟩
                        · rcases hv8 with h | ⟨g', h, h'⟩
                          · exact .inl ⟨.slice As J cs, by simp, by rw [← h]; exact hg'⟩
                          · rw [h] at hg'; cases hg'; exact .inr (.inr h')
                        · exact .inl ⟨s', by simp, hg'⟩
                        · exact .inl ⟨s', by simp, hg'⟩)
                      have hm8 := hS.other RSQ.good (s := .slice As J cs) (by simp) (fun g h e => HAP.out g e h) hg8
                      have hm9 := hm8.put_far RSQ.good (s := bv) (by simp) (p := ⟨w.heap.size + 1 + 1, 1, none⟩) HBV.out (fun e => by have h2 := (HMLT.out (w.heap.size + 1 + 1) e).1; omega) (Value.slice A8 (J + 1) c8)
                      have hm10 := hm9.avoid RSQ.good (S' := [(Value.slice A8 (J + 1) c8), bv, rv]) (fun s' h g hg' => .inl ⟨s', by simp only [List.mem_cons] at h ⊢; exact .inr h, hg'⟩)
                      have hu8 : OwnQ w8 wi.heap.size (.slice A6 row.length c6) row := ownsRow_other hua hg8 (fun g h e => by have := (HSLT.out g h).2; have := (HULT.out g e).1; omega)
                      have hu9 := hu8.far (p := ⟨w.heap.size + 1 + 1, 1, none⟩) (fun g h => by have := (HULT.out g h).1; show g ≠ w.heap.size + 1 + 1; omega) (Value.slice A8 (J + 1) c8)
                      have ho9 := ho8.far (p := ⟨w.heap.size + 1 + 1, 1, none⟩) (fun g h => by have := (World.ownsRow.lt ho8 g h).1; show g ≠ w.heap.size + 1 + 1; omega) (Value.slice A8 (J + 1) c8)
                      have hb9 : Below (w.heap.size + 1 + 1) w1 (w8.setCell ⟨w.heap.size + 1 + 1, 1, none⟩ (Value.slice A8 (J + 1) c8)) := (Below.trans (Below.trans hg (Below.mono gia (by omega))) (hb8.mono (by omega))).setCell (Nat.le_refl _) _
                      refine ⟨J + 1, row, A6, c6, by go_num, rfl, hu9, .inr ⟨rfl, (Value.slice A8 (J + 1) c8), by rw [HL2.out]; exact HACC.out, mo8.put1 (Value.slice A8 (J + 1) c8), by rw [HL2.out]; exact ho9, hm10, fun g h e => ?_, fun g h e => ?_, by have := hg8.size; simp; omega, hb9⟩⟩
                      · rcases hv8 with h' | ⟨g', h', h''⟩
                        · exact HAP.out g h (by rw [← h']; exact e)
                        · rw [h'] at e; cases e; have := (HMLT.out _ h).2; have := Below.size gia; omega
                      · rcases hv8 with h' | ⟨g', h', h''⟩
                        · rw [h'] at e; have := (HSLT.out g e).2; have := (HULT.out g h).1; omega
                        · rw [h'] at e; cases e; have := (HULT.out _ h).2; omega
                    case measure => simp [intOf]; omega
                · have hJlt' : (J : Int) < (I : Int) := by omega
                  have hki : (J : Int) < (I : Int) := by omega
                  obtain ⟨bs, fs, rfl, hbs, s0, s1⟩ := hrs.at_ J (by rw [HI.out.l2]; omega)
                  obtain ⟨d, hd'⟩ : ∃ d, d = nthQ s.2 J := ⟨_, rfl⟩
                  rw [← hd'] at s0 s1
                  have CD := fun W => iDivideRatios_c x d W
                  have hnx := rowF_next HROW.out (by rw [HCOF.out hJI]; exact HOK.out)
                  rw [HCOF.out hJI, ← hd'] at hnx
                  have HNX := Lib.hid hnx
                  clear hd' hnx
                  generalize divQ x d = y at *
                  have CD' := Lib.hid CD
                  have HU := Lib.hid fun g h => (World.ownsRow.lt hu g h)
                  clear CD
                  go_wp2_with fail
                  refine (CI'.out _).mono ?_; rintro e wa ⟨rfl, ga⟩
                  clear q0 q1 o0 o1
                  have hsa := Below.size ga
                  have gia : Grows wi wa := by exact bel2 ga gik
                  have hsia := Below.size gia
                  have qba := qb.grows ga
                  have moa := mok.grows ga
                  have hua := hu.grows (show Grows wj wa by exact bel2 ga gjk)
                  have s0a := ((bcell gia).1 bs (fs + J * 2) hbs).trans s0
                  have s1a := ((bcell gia).1 bs (fs + J * 2 + 1) hbs).trans s1
                  obtain ⟨q0, q1⟩ := qba.cells
                  obtain ⟨o0, o1⟩ := moa.cells
                  have hbsa : bs < wa.heap.size := by omega
                  have HK := Lib.hid fun W (g : Grows wa W) => acc_keep (qba.grows g) (moa.grows g) (((bcell g).1 bs (fs + J * 2) hbsa).trans s0a) (((bcell g).1 bs (fs + J * 2 + 1) hbsa).trans s1a)
                  go_wp2_with fail
                  (refine wp_region_heldL (fun W => W.cell? ⟨w7.heap.size, 0, none⟩ = some (.int .i64 x.1) ∧ W.cell? ⟨w7.heap.size, 1, none⟩ = some (.int .i64 x.2) ∧ W.cell? ⟨w.heap.size + 1 + 1, 1, none⟩ = some (.slice (some ⟨bs, fs, none⟩) I cs) ∧ W.cell? ⟨bs, fs + J * 2, none⟩ = some (.int .i64 d.1) ∧ W.cell? ⟨bs, fs + J * 2 + 1, none⟩ = some (.int .i64 d.2)) (by kernel_rfl) (by ((try dsimp only); (first | exact k8 | exact HK.out _ (by exact bel1 gc) | exact HK.out _ (by exact bel0)))) (fun hHeld => ?_); refine heldL_take (i := 0) (v := _) (by rfl) (by kernel_rfl) (by kernel_rfl) (by kernel_rfl) (fun _ _ _ h => h) (Or.inl ⟨by rfl, fun wS hSw => by ((try dsimp only at hSw); go_simp; (try with_reducible rfl))⟩) (by assumption) ?_; simp only [Act.put, List.setIfInBounds_toArray, List.set_cons_zero, List.set_cons_succ]; refine heldL_take (i := 1) (v := _) (by rfl) (by kernel_rfl) (by kernel_rfl) (by kernel_rfl) (fun _ _ _ h => h) (Or.inl ⟨by rfl, fun wS hSw => by ((try dsimp only at hSw); go_simp; (try with_reducible rfl))⟩) (by assumption) ?_; simp only [Act.put, List.setIfInBounds_toArray, List.set_cons_zero, List.set_cons_succ]; refine heldL_take (i := 2) (v := _) (by rfl) (by kernel_rfl) (by kernel_rfl) (by kernel_rfl) (fun _ _ _ h => h) (Or.inl ⟨by rfl, fun wS hSw => by ((try dsimp only at hSw); go_simp; (try with_reducible rfl))⟩) (by assumption) ?_; simp only [Act.put, List.setIfInBounds_toArray, List.set_cons_zero, List.set_cons_succ]; refine heldL_take (i := 3) (v := _) (by rfl) (by kernel_rfl) (by kernel_rfl) (by kernel_rfl) (fun _ _ _ h => h) (Or.inl ⟨by rfl, fun wS hSw => by ((try dsimp only at hSw); go_simp; (try with_reducible rfl))⟩) (by assumption) ?_; simp only [Act.put, List.setIfInBounds_toArray, List.set_cons_zero, List.set_cons_succ]; refine heldL_take (i := 4) (v := _) (by rfl) (by kernel_rfl) (by kernel_rfl) (by kernel_rfl) (fun _ _ _ h => h) (Or.inl ⟨by rfl, fun wS hSw => by ((try dsimp only at hSw); go_simp; (try with_reducible rfl))⟩) (by assumption) ?_; simp only [Act.put, List.setIfInBounds_toArray, List.set_cons_zero, List.set_cons_succ]; refine heldL_take (i := 5) (v := _) (by rfl) (by kernel_rfl) (by kernel_rfl) (by kernel_rfl) (fun _ _ _ h => h) (Or.inl ⟨by rfl, fun wS hSw => by ((try dsimp only at hSw); go_simp; (try with_reducible rfl))⟩) (by assumption) ?_; simp only [Act.put, List.setIfInBounds_toArray, List.set_cons_zero, List.set_cons_succ]; refine heldL_take (i := 6) (v := _) (by rfl) (by kernel_rfl) (by kernel_rfl) (by kernel_rfl) (fun _ _ _ h => h) (Or.inl ⟨by rfl, fun wS hSw => by ((try dsimp only at hSw); go_simp; (try with_reducible rfl))⟩) (by assumption) ?_; simp only [Act.put, List.setIfInBounds_toArray, List.set_cons_zero, List.set_cons_succ]; refine heldL_step (i := 7) (by kernel_rfl) (by rfl) (fun K hK => ?_); go_simp; (refine (CD'.out _).mono ?_; rintro e wc ⟨rfl, gc⟩; have hsc := Below.size gc; (try simp at hsc); have huc := hua.grows (w' := wc) (by exact bel1 gc); have qbc := qba.grows (w' := wc) (by exact bel1 gc); have moc := moa.grows (w' := wc) (by exact bel1 gc); have s0c := ((bcell gc).1 bs (fs + J * 2) (by first | exact hbsa | simpa using hbsa)).trans s0a; have s1c := ((bcell gc).1 bs (fs + J * 2 + 1) (by first | exact hbsa | simpa using hbsa)).trans s1a) ; (try (go_wp2_with fail)); refine hK.out _ _ (by ((try dsimp only); (first | exact k8 | exact HK.out _ (by exact bel1 gc) | exact HK.out _ (by exact bel0)))) (fun hHeld => ?_); clear hK K; (try simp only [Act.put, List.setIfInBounds_toArray, List.set_cons_zero, List.set_cons_succ]); refine heldL_step (i := 8) (by kernel_rfl) (by rfl) (fun K hK => ?_); go_simp; refine hK.out _ _ (by ((try dsimp only); (first | exact k8 | exact HK.out _ (by exact bel1 gc) | exact HK.out _ (by exact bel0)))) (fun hHeld => ?_); clear hK K; (try simp only [Act.put, List.setIfInBounds_toArray, List.set_cons_zero, List.set_cons_succ]); refine heldL_step (i := 9) (by kernel_rfl) (by rfl) (fun K hK => ?_); (refine step_appQ1 rfl (.tmp 71) (.tmp 79) rfl _ y wi.heap.size _ row (by rfl) huc (by rfl) (by rw [HRL.out]; omega) (by omega) ?_; intro v8 w8 ho8 hg8 hv8; have hb8 : Below wi.heap.size wc w8 := below_appR huc (by omega) hg8; have hnr : ∀ b, b < wi.heap.size ∨ b = w7.heap.size → (Value.slice A6 row.length c6).ownBlock ≠ some b := (fun b hb e => by have := HU.out b e; omega); have k8 := acc_keep (qbc.own hg8 (hnr _ (.inr rfl))) (moc.own hg8 (hnr _ (.inl (by omega)))) ((cell_keep (hg8.block bs (by omega) (fun e => hnr bs (.inl hbs) e.symm))).trans s0c) ((cell_keep (hg8.block bs (by omega) (fun e => hnr bs (.inl hbs) e.symm))).trans s1c); obtain ⟨A8, c8, rfl, _, _⟩ := ho8.val; clear hg8 hv8 hnr) ; refine hK.out _ _ (by ((try dsimp only); (first | exact k8 | exact HK.out _ (by exact bel1 gc) | exact HK.out _ (by exact bel0)))) (fun hHeld => ?_); clear hK K; (try simp only [Act.put, List.setIfInBounds_toArray, List.set_cons_zero, List.set_cons_succ]); refine heldL_take (i := 10) (v := _) (by rfl) (by kernel_rfl) (by kernel_rfl) (by kernel_rfl) (fun _ _ _ h => h) (Or.inl ⟨by rfl, fun wS hSw => by ((try dsimp only at hSw); go_simp; (try with_reducible rfl))⟩) (by assumption) ?_; simp only [Act.put, List.setIfInBounds_toArray, List.set_cons_zero, List.set_cons_succ]; refine wpAnyH_done (by kernel_rfl) ?_ _; refine NoPanic.normal ?_)
                  go_wp2_with fail
                  go_roundw
                  case rel =>
                    have g8 : Grows wi w8 := Below.trans (show Grows wi wc by exact bel2 gc gia) hb8
                    exact ⟨J + 1, row ++ [y], A8, c8, by go_num, by simp, ho8, .inl ⟨by omega, HNX.out, g8⟩⟩
                  case measure => simp [intOf]; omega
        · have hj' : ¬ ((I : Int) + 1 ≤ (I : Int)) := by omega
          obtain ⟨o0, o1⟩ := mo'.cells
          have ol := mo'.lt
          have hz : RSQ wr (.slice A6 row.length c6) row := by
            obtain ⟨A', c', e, h1, h2⟩ := hu.val
            exact ⟨A', c', e, h1, h2⟩
          have HULT := Lib.hid fun g h => (World.ownsRow.lt hu g h)
          have HMLT := Lib.hid fun g h => (hm.lt (g := g) h)
          have HM2 := Lib.hid fun g h => (hm'.lt (g := g) h)
          have HSEP := Lib.hid (show ∀ g, adR (.slice A6 row.length c6) = some g → (Value.slice Am I cm).ownBlock ≠ some g ∧ ∀ s ∈ [vs', bv, rv], s.ownBlock ≠ some g from fun g hg2 => by
            have h0 := adR_own2 hg2
            have h1 := HULT.out g h0
            refine ⟨fun e => by have := HMLT.out g e; omega, fun s' h e => ?_⟩
            simp only [List.mem_cons, List.not_mem_nil, or_false] at h
            rcases h with rfl | rfl | rfl
            · exact hap6 g h0 e
            · rw [HBV.out] at e; cases e; omega
            · rw [HRV.out] at e; cases e; omega)
          have HL9 := Lib.hid (show (s.1 ++ [row]).length = I + 1 by simp [HI.out.l1])
          have HB2 := Lib.hid hb'
          have HNX2 := Lib.hid hnx
          clear hap6
          go_wp2_with (at_builtin; refine wpList_appR1 69 68 und_qq info_qs rfl (.tmp 92) (.tmp 94) rfl _ (.slice A6 row.length c6) row RSQ.good rfl hz w1.heap.size _ s.1 [vs', bv, rv] (by rfl) hm' HSEP.out (by rfl) (by rw [HI.out.l1]; omega) (by omega) ?_; intro v9 w9 ho9 hg9 hv9; obtain ⟨A9, c9, hv9e, _, _⟩ := ho9.val; rw [HL9.out] at hv9e; subst hv9e; have mo9 := mo'.own hg9 (fun e => by have h2 := (HM2.out (w.heap.size + 1 + 1) e).1; omega); clear o0 o1 ol; obtain ⟨o0, o1⟩ := mo9.cells; have of9 := mo9.fz; have ol9 := mo9.lt)
          go_roundw
          case rel =>
            have hb9 := below_R hm' (by omega) hg9
            have h1 : OwnQ w9 w1.heap.size vs' (s.2 ++ [lastX R l s.2 I row]) := ownsRow_other hs' hg9 (fun g h e => hap' g h e)
            have h2 := h1.far (p := ⟨w.heap.size + 1 + 1, 0, none⟩) (fun g h => by have := (World.ownsRow.lt h1 g h).1; show g ≠ w.heap.size + 1 + 1; omega) (.slice A9 (I + 1) c9)
            have h3 := ho9.put_far RSQ.good (s := bv) (by simp) (p := ⟨w.heap.size + 1 + 1, 0, none⟩) HBV.out (fun e => by have h4 := (ho9.lt (g := w.heap.size + 1 + 1) e).1; omega) (.slice A9 (I + 1) c9)
            have h5 := apart_appR hs' hap' hv9
            exact ⟨I + 1, _, _, (s.1 ++ [row], s.2 ++ [lastX R l s.2 I row]), by go_num, by omega, HNX2.out, mo9.put0 _, h2, h3, h5, (Below.trans HB2.out (hb9.mono (by omega))).setCell (Nat.le_refl _) _⟩
          case measure => simp [intOf]; omega
    · obtain rfl : I = R := by omega
      obtain rfl : RES = some s := by rw [HRES.out, HF.out]
      obtain ⟨Am, cm, hvm, _, _⟩ := hm.val
      obtain ⟨As, cs, hvs, _, _⟩ := hs.val
      subst hvm hvs
      have mr2 := mr.keep hg (by omega)
      obtain ⟨o0, o1⟩ := mo.cells
      obtain ⟨z0, z1⟩ := mr2.cells
      have zf := mr2.fz
      have zl := mr2.lt
      obtain ⟨b0, b1, b2⟩ := (mg.keep hg (by omega)).cells
      have HGr : Grows w wr := Below.trans HG (hg.mono (by omega))
      go_wp2_with fail
      refine bodyPost_ret (v := .tuple #[.agg #[.slice Am s.1.length cm, .slice As s.2.length cs], .bool true]) ?_ rfl ?_
      · simp [results, Tryz.results62, go_sem, z0, z1, zf, zl]
      · have hml := fun g h => (hm.lt (g := g) h)
        have h1 := hm.put_far RSQ.good (s := rv) (by simp) (p := ⟨w.heap.size + 1, 0, none⟩) HRV.out (fun e => by have h4 := (hml (w.heap.size + 1) e).1; omega) (.slice Am s.1.length cm)
        have h2 := h1.put_far RSQ.good (s := rv) (by simp) (p := ⟨w.heap.size + 1, 1, none⟩) HRV.out (fun e => by have h4 := (hml (w.heap.size + 1) e).1; omega) (.slice As s.2.length cs)
        have hsl := fun g h => (World.ownsRow.lt hs g h)
        have h3 := (hs.far (p := ⟨w.heap.size + 1, 0, none⟩) (fun g h => by have := (hsl g h).1; show g ≠ w.heap.size + 1; omega) (.slice Am s.1.length cm)).far (p := ⟨w.heap.size + 1, 1, none⟩) (fun g h => by have := (hsl g h).1; show g ≠ w.heap.size + 1; omega) (.slice As s.2.length cs)
        exact ⟨Am, cm, As, cs, rfl, h2.rd, h3.rd, by exact bel1 HGr⟩
end
end Go.Proofs.YtfilbjbogggaoaaGreat

/- Contracts: the reference's account of the orthogonal vectors. -/
namespace Go.Proofs.YtfilbjbogggaoaaGreat
set_option linter.unusedSimpArgs false
set_option linter.unusedVariables false
open Go.RowKit

/-- the answer is the account, readable, and whether there is one; some rows where there is none -/
def MuRet (o : Option (List (List Q2) × List Q2)) (w : World) (e : Ending) (w' : World) : Prop :=
  ∃ Am cm As cs mu sq, e = .returned (.tuple #[.slice Am (List.length mu) cm, .slice As (List.length sq) cs, .bool o.isSome]) ∧ RdR RSQ w' Am mu ∧ RdQ w' As sq ∧ (∀ x, o = some x → x = (mu, sq)) ∧ Grows w w'
theorem muRet_out {o : Option (List (List Q2) × List Q2)} {w w' : World} {e : Ending} (h : MuRet o w e w') : ∃ Am cm As cs mu sq, e = .returned (.tuple #[.slice Am (List.length mu) cm, .slice As (List.length sq) cs, .bool o.isSome]) ∧ RdR RSQ w' Am mu ∧ RdQ w' As sq ∧ (∀ x, o = some x → x = (mu, sq)) ∧ Grows w w' := h
def JRelS (R : Nat) (l : List Int) (s : List (List Q2) × List Q2) (I B1 : Nat) (vm vs : Value) (w1 wi : World) (v6 u j : Value) (wx : World) : Prop :=
  ∃ (J : Nat) (row : List Q2) (A6 : Option Addr) (c6 : Nat), j = .int .i64 J ∧ u = .slice A6 row.length c6 ∧ OwnQ wx wi.heap.size (.slice A6 row.length c6) row ∧
    ((J ≤ I ∧ v6 = vs ∧ rowF R l s.1 s.2 I J = some row ∧ Grows wi wx) ∨
     (J = I + 1 ∧ (∃ A7 c7, v6 = .slice A7 (I + 1) c7) ∧ accF R l (I + 1) = some (s.1 ++ [row], s.2 ++ [lastX R l s.2 I row]) ∧ OwnQ wx B1 v6 (s.2 ++ [lastX R l s.2 I row]) ∧ OwnR 69 adR RSQ wx B1 vm s.1 [v6] ∧
       (∀ g, vm.ownBlock = some g → v6.ownBlock ≠ some g) ∧ (∀ g, (Value.slice A6 row.length c6).ownBlock = some g → v6.ownBlock ≠ some g) ∧ wi.heap.size ≤ wx.heap.size ∧ Grows w1 wx))
theorem acc_keepS {W : World} {b8 bs fs : Nat} {x d : Q2} (h : QBox W b8 x) (h3 : W.cell? ⟨bs, fs, none⟩ = some (.int .i64 d.1)) (h4 : W.cell? ⟨bs, fs + 1, none⟩ = some (.int .i64 d.2)) :
    W.cell? ⟨b8, 0, none⟩ = some (.int .i64 x.1) ∧ W.cell? ⟨b8, 1, none⟩ = some (.int .i64 x.2) ∧ W.cell? ⟨bs, fs, none⟩ = some (.int .i64 d.1) ∧ W.cell? ⟨bs, fs + 1, none⟩ = some (.int .i64 d.2) := ⟨h.c0, h.c1, h3, h4⟩

section
set_option maxHeartbeats 8000000
set_option maxRecDepth 100000
theorem sAcc_c (R : Nat) (A : Option Addr) (l : List Int) (n cap : Nat) (w : World) (hn : l.length = n) (hlen : l.length = R * R) (hR : R ≤ 24) (ha : Rd w A l) :
    Calls Tryz.prog 75 #[.agg #[.int .i64 R, .int .i64 R, .slice A n cap]] w (MuRet (accF R l R) w) := by
  obtain ⟨w1, hw1⟩ : ∃ w1, w1 = w.alloc (.cells #[.int .i64 R, .int .i64 R, .slice A n cap] 26) := ⟨_, rfl⟩
  have mg : MBox w1 w.heap.size R R (.slice A n cap) := by rw [hw1]; exact MBox.mk_ _ _ _ _ _
  have hs1 : w1.heap.size = w.heap.size + 1 := by rw [hw1]; simp
  have HG : Grows w w1 := by rw [hw1]; exact bel0
  have ha1 := ha.grows HG
  have HW1 := Lib.hid hw1
  have HS1 := Lib.hid hs1
  have HN := Lib.hid hn
  have HLN := Lib.hid hlen
  have hRR : R * R ≤ 576 := Nat.mul_le_mul hR hR
  have HB := Lib.hid fun i (hi : i < R) => (show i * R ≤ 576 by have := Nat.mul_le_mul_right R (Nat.le_of_lt hi); omega)
  have CC := Lib.hid fun (i j : Nat) (hi : i < R) (hj : j < R) W h => l12Cell_c R R A l n cap i j W hn h (castMul i R) (by have := castMulLe (HB.out i hi); omega) (castPos i R j) (castLt (by rw [hlen]; exact idx_lt hi hj)) (by omega)
  obtain ⟨RES, hRES⟩ : ∃ x, x = accF R l R := ⟨_, rfl⟩
  rw [← hRES]
  have HRES := Lib.hid hRES
  clear hw1 hs1 hn hlen hRES
  go_enter Tryz.func75, Tryz.ntmps75
  go_wp2_with fail
  rw [← HW1.out]
  go_loopw [5, 6, 7] (fun a b i wr => ∃ (I : Nat) (s : List (List Q2) × List Q2) (Am : Option Addr) (cm : Nat) (As : Option Addr) (cs : Nat), i = .int .i64 I ∧ a = .slice Am I cm ∧ b = .slice As I cs ∧ I ≤ R ∧ accF R l I = some s ∧ OwnQ wr w1.heap.size (.slice As I cs) s.2 ∧ OwnR 69 adR RSQ wr w1.heap.size (.slice Am I cm) s.1 [.slice As I cs] ∧ (∀ g, (Value.slice Am I cm).ownBlock = some g → (Value.slice As I cs).ownBlock ≠ some g) ∧ Grows w1 wr) (fun _ _ i _ => R - (intOf i).toNat)
  case atStart => exact ⟨0, ([], []), _, _, _, _, rfl, rfl, rfl, Nat.zero_le _, rfl, OwnQ.new_ _ (by have := HS1.out; simp; omega) (by have := HS1.out; omega), (OwnR.new_ 69 adR RSQ w1 _ (b := w.heap.size + 1) HS1.out (by have := HS1.out; omega)).grows RSQ.good (by exact bel0), fun g hg e => by (simp [Value.ownBlock] at hg e; omega), by exact bel0⟩
  case round =>
    obtain ⟨I, s, Am, cm, As, cs, rfl, rfl, rfl, hI, hF, hs, hm, hap, hg⟩ := hrel
    have HF := Lib.hid hF
    have HI := Lib.hid (accF_inv hF)
    have HAP := Lib.hid hap
    have hs1 := HS1.out
    have hsz := Below.size hg
    have ha2 := ha1.grows hg
    have hrs := hs.rd
    have hrm := hm.rd
    clear hF hap
    by_cases hlt : I < R
    · have hlt' : (I : Int) < (R : Int) := by omega
      have mgi := mg.grows hg
      obtain ⟨wi, rfl⟩ : ∃ wi : World, wi = wr := ⟨_, rfl⟩
      obtain ⟨b0, b1, b2⟩ := mgi.cells
      go_wp2_with fail
      go_loopw [6, 8, 9] (JRelS R l s I w1.heap.size (.slice Am I cm) (.slice As I cs) w1 wi) (fun _ _ j _ => R + 1 - (intOf j).toNat)
      case atStart => exact ⟨0, [], _, _, rfl, rfl, OwnQ.new_ _ rfl (Nat.le_refl _), .inl ⟨Nat.zero_le _, rfl, rfl, by exact bel0⟩⟩
      case round =>
        clear b0 b1 b2
        obtain ⟨J, row, A6, c6, rfl, rfl, hu, hd⟩ := hrel
        rcases hd with ⟨hJ, rfl, hrow, hgj⟩ | ⟨rfl, ⟨A7, c7, rfl⟩, hnx, hs', hm', hap', hap6, hsx, hb'⟩
        · have HROW := Lib.hid hrow
          have hrl := rowF_len hrow
          have HRL := Lib.hid hrl
          have hJ' : (J : Int) ≤ (I : Int) := by omega
          have hsj := Below.size hgj
          obtain ⟨wj, rfl⟩ : ∃ wj : World, wj = wr := ⟨_, rfl⟩
          have hru := hu.rd
          have mgj := mgi.grows hgj
          have haj := ha2.grows hgj
          have hrsj := hrs.grows hgj
          have hrmj := hrm.grows RSQ.good hgj
          have C1 := fun W h => CC.out I J hlt (by omega) W h
          rw [castIdx] at C1
          obtain ⟨X0, hX0⟩ : ∃ x, x = nth l (I * R + J) := ⟨_, rfl⟩
          rw [← hX0] at C1
          have C1' := Lib.hid C1
          have HX0 := Lib.hid hX0
          clear hrow hrl C1 hX0
          obtain ⟨b0, b1, b2⟩ := mgj.cells
          go_wp2_with fail
          refine (C1'.out _ (by exact (Rd.grows haj (by exact bel0)))).mono ?_; rintro e w7 ⟨rfl, g57⟩
          have hs7 := Below.size g57
          clear b0 b1 b2
          obtain ⟨oth, hoth⟩ : ∃ x, x = if J = I then row else s.1.getD J [] := ⟨_, rfl⟩
          have HOTH := Lib.hid hoth
          clear hoth
          go_wp2_with fail
          go_loopw [11] (fun k wy => ∃ (K : Nat), k = .int .i64 K ∧ K ≤ J ∧ QBox wy w7.heap.size (muX X0 s.2 row oth K) ∧ Grows w7 wy) (fun k _ => J - (intOf k).toNat)
          case atStart => exact ⟨0, rfl, Nat.zero_le _, QBox.new_ w7 (X0, 1) 79 rfl, by exact bel0⟩
          case round =>
            obtain ⟨K, rfl, hK, qb, hgk⟩ := hrel
            have hsk := Below.size hgk
            have gjk : Grows wj wr := by exact bel2 hgk g57
            obtain ⟨x, hx⟩ : ∃ x, x = muX X0 s.2 row oth K := ⟨_, rfl⟩
            rw [← hx] at qb
            have HX := Lib.hid hx
            clear hx
            obtain ⟨q0, q1⟩ := qb.cells
            have ql := qb.lt
            by_cases hltk : K < J
            · have hltk' : (K : Int) < (J : Int) := by omega
              have hkr : (K : Int) < (row.length : Int) := by rw [HRL.out]; omega
              have hki : (K : Int) < (I : Int) := by omega
              obtain ⟨br, fr, rfl, hbr, r0, r1⟩ := (hru.grows gjk).at_ K (by rw [HRL.out]; exact hltk)
              obtain ⟨bs, fs, rfl, hbs, s0, s1⟩ := (hrsj.grows gjk).at_ K (by rw [HI.out.l2]; omega)
              obtain ⟨a, ha'⟩ : ∃ a, a = nthQ row K := ⟨_, rfl⟩
              obtain ⟨d, hd'⟩ : ∃ d, d = nthQ s.2 K := ⟨_, rfl⟩
              rw [← ha'] at r0 r1
              rw [← hd'] at s0 s1
              have HA := Lib.hid ha'
              have HD := Lib.hid hd'
              clear ha' hd'
              have r0b := ext_is r0
              have r1b := ext_is r1
              have s0b := ext_is s0
              have s1b := ext_is s1
              by_cases hJI : J = I
              · subst hJI
                have hjb : ¬ ((J : Int) < (J : Int)) := by omega
                obtain ⟨z, hz'⟩ : ∃ z, z = a := ⟨_, rfl⟩
                have HZ := Lib.hid (show nthQ oth K = z by rw [HOTH.out, if_pos rfl, hz', HA.out])
                have CM1 := fun W => sMultiplyRatios_c a z W
                have CM2 := fun W => sMultiplyRatios_c (mulQ a z) d W
                have CN := fun W => sNeg_c (mulQ (mulQ a z) d) W
                have CS := fun W => sAddRatios_c x (negQ (mulQ (mulQ a z) d)) W
                have HNX := Lib.hid (show muX X0 s.2 row oth (K + 1) = addQ x (negQ (mulQ (mulQ a z) d)) by rw [muX, ← HX.out, HZ.out, ← HA.out, ← HD.out])
                generalize addQ x (negQ (mulQ (mulQ a z) d)) = x' at *
                generalize negQ (mulQ (mulQ a z) d) = y3 at *
                generalize mulQ (mulQ a z) d = y2 at *
                generalize mulQ a z = y1 at *
                have CM1' := Lib.hid CM1
                have CM2' := Lib.hid CM2
                have CN' := Lib.hid CN
                have CS' := Lib.hid CS
                have HZ2 := Lib.hid hz'
                clear CM1 CM2 CN CS hz'
                go_wp2_with fail
                obtain ⟨wb, hwb⟩ : ∃ wb, wb = wr.alloc (.cells #[.int .i64 a.1, .int .i64 a.2] 79) := ⟨_, rfl⟩
                rw [← hwb]
                rw [← HZ2.out] at hwb
                have gab : Grows wr wb := by rw [hwb]; exact bel0
                have qo : QBox wb wr.heap.size z := by rw [hwb]; exact QBox.new_ _ _ _ rfl
                have r0c := ext_is (((bcell gab).1 br (fr + K * 2) hbr).trans r0)
                have r1c := ext_is (((bcell gab).1 br (fr + K * 2 + 1) hbr).trans r1)
                have s0c := ext_is (((bcell gab).1 bs (fs + K * 2) hbs).trans s0)
                have s1c := ext_is (((bcell gab).1 bs (fs + K * 2 + 1) hbs).trans s1)
                have qbb := qb.grows gab
                have q0b := ext_is qbb.c0
                have q1b := ext_is qbb.c1
                have t0b := ext_is qo.c0
                have t1b := ext_is qo.c1
                clear hwb q0 q1 r0 r1 s0 s1 r0b r1b s0b s1b
                ((refine wp_region_tail 14 (by kernel_rfl) (by kernel_rfl) ?_; simp only [List.take_succ_cons, List.take_zero, List.drop_succ_cons, List.drop_zero]); (repeat (go_big_quiet_step ((first | (go_at_call 144; with_reducible exact extC (CM1'.out _)) | (go_at_call 144; with_reducible exact extC (CM2'.out _)) | (go_at_call 143; with_reducible exact extC (CN'.out _)) | (go_at_call 142; with_reducible exact extC (CS'.out _)))))); refine wpQuiet_nil ?_; rintro wc ⟨wc0, hwc0⟩; have gc := grows_of_ext hwc0; clear hwc0 wc0)
                have qbc := qbb.grows gc
                obtain ⟨q0, q1⟩ := qbc.cells
                have qf := qbc.fz
                have qlc := qbc.lt
                clear q0b q1b t0b t1b r0c r1c s0c s1c
                go_wp2_with fail
                go_round
                case rel => exact ⟨K + 1, by go_num, by omega, by rw [HNX.out]; exact qbc.put _, by exact bel3 gc gab hgk⟩
                case measure => simp [intOf]; omega
              · have hJlt : J < I := by omega
                have hJlt' : (J : Int) < (I : Int) := by omega
                obtain ⟨bm, fm, Aj, cj, rfl, hbm, m0, hrj, hcj⟩ := (hrmj.grows RSQ.good gjk).rowQ J (by rw [HI.out.l1]; exact hJlt)
                have hjl := HI.out.row J hJlt
                rw [hjl] at m0 hcj
                obtain ⟨bj, fj, rfl, hbj, j0, j1⟩ := hrj.at_ K (by rw [hjl]; exact hltk)
                obtain ⟨z, hz'⟩ : ∃ z, z = nthQ (s.1.getD J []) K := ⟨_, rfl⟩
                rw [← hz'] at j0 j1
                have HZ := Lib.hid (show nthQ oth K = z by rw [HOTH.out, if_neg hJI, hz'])
                have CM1 := fun W => sMultiplyRatios_c a z W
                have CM2 := fun W => sMultiplyRatios_c (mulQ a z) d W
                have CN := fun W => sNeg_c (mulQ (mulQ a z) d) W
                have CS := fun W => sAddRatios_c x (negQ (mulQ (mulQ a z) d)) W
                have HNX := Lib.hid (show muX X0 s.2 row oth (K + 1) = addQ x (negQ (mulQ (mulQ a z) d)) by rw [muX, ← HX.out, HZ.out, ← HA.out, ← HD.out])
                clear hz' hjl
                generalize addQ x (negQ (mulQ (mulQ a z) d)) = x' at *
                generalize negQ (mulQ (mulQ a z) d) = y3 at *
                generalize mulQ (mulQ a z) d = y2 at *
                generalize mulQ a z = y1 at *
                have CM1' := Lib.hid CM1
                have CM2' := Lib.hid CM2
                have CN' := Lib.hid CN
                have CS' := Lib.hid CS
                clear CM1 CM2 CN CS
                go_wp2_with fail
                obtain ⟨wb, hwb⟩ : ∃ wb, wb = wr.alloc (.cells #[.int .i64 z.1, .int .i64 z.2] 79) := ⟨_, rfl⟩
                rw [← hwb]
                have gab : Grows wr wb := by rw [hwb]; exact bel0
                have qo : QBox wb wr.heap.size z := by rw [hwb]; exact QBox.new_ _ _ _ rfl
                have r0c := ext_is (((bcell gab).1 br (fr + K * 2) hbr).trans r0)
                have r1c := ext_is (((bcell gab).1 br (fr + K * 2 + 1) hbr).trans r1)
                have s0c := ext_is (((bcell gab).1 bs (fs + K * 2) hbs).trans s0)
                have s1c := ext_is (((bcell gab).1 bs (fs + K * 2 + 1) hbs).trans s1)
                have qbb := qb.grows gab
                have q0b := ext_is qbb.c0
                have q1b := ext_is qbb.c1
                have t0b := ext_is qo.c0
                have t1b := ext_is qo.c1
                clear hwb q0 q1 r0 r1 s0 s1 r0b r1b s0b s1b j0 j1 m0
                ((refine wp_region_tail 14 (by kernel_rfl) (by kernel_rfl) ?_; simp only [List.take_succ_cons, List.take_zero, List.drop_succ_cons, List.drop_zero]); (repeat (go_big_quiet_step ((first | (go_at_call 144; with_reducible exact extC (CM1'.out _)) | (go_at_call 144; with_reducible exact extC (CM2'.out _)) | (go_at_call 143; with_reducible exact extC (CN'.out _)) | (go_at_call 142; with_reducible exact extC (CS'.out _)))))); refine wpQuiet_nil ?_; rintro wc ⟨wc0, hwc0⟩; have gc := grows_of_ext hwc0; clear hwc0 wc0)
                have qbc := qbb.grows gc
                obtain ⟨q0, q1⟩ := qbc.cells
                have qf := qbc.fz
                have qlc := qbc.lt
                clear q0b q1b t0b t1b r0c r1c s0c s1c
                go_wp2_with fail
                go_round
                case rel => exact ⟨K + 1, by go_num, by omega, by rw [HNX.out]; exact qbc.put _, by exact bel3 gc gab hgk⟩
                case measure => simp [intOf]; omega
            · obtain rfl : J = K := by omega
              have gik : Grows wi wr := by exact bel2 gjk hgj
              have HGi : Grows w wi := by exact bel2 hg HG
              have HGr : Grows w wr := by exact bel2 gik HGi
              have HCOF := Lib.hid (show J ≠ I → cofX R l s.1 s.2 I row J = x from fun h => by rw [HX.out, HOTH.out, if_neg h, HX0.out]; rfl)
              have HLAST := Lib.hid (show J = I → lastX R l s.2 I row = x from fun h => by subst h; rw [HX.out, HOTH.out, if_pos rfl, HX0.out]; rfl)
              have CI := fun W => sIsRatio_c x.1 x.2 W
              change ∀ W, Calls Tryz.prog 76 #[.agg #[.int .i64 x.1, .int .i64 x.2]] W (fun e w' => e = .returned (.bool (okQ x)) ∧ Grows W w') at CI
              have hsl : I = s.2.length := HI.out.l2.symm
              have hml : I = s.1.length := HI.out.l1.symm
              have HSL := Lib.hid hsl
              have HML := Lib.hid hml
              clear hsl hml
              cases hok : okQ x
              · have hn : RES = none := by
                  rw [HRES.out]
                  by_cases hJI : J = I
                  · have h := HROW.out
                    rw [hJI] at h
                    exact acc_last HF.out hlt h (.inl (by rw [HLAST.out hJI]; exact hok))
                  · exact acc_row HF.out hlt (by omega) HROW.out (by rw [HCOF.out hJI]; exact hok)
                subst hn
                rw [hok] at CI
                have CI' := Lib.hid CI
                clear CI hok
                go_wp2_with fail
                refine (CI'.out _).mono ?_; rintro e wa ⟨rfl, ga⟩
                have gia : Grows wi wa := by exact bel2 ga gik
                go_wp2_with fail
                go_ret3
                exact ⟨Am, cm, As, cs, s.1, s.2, by rw [← HML.out, ← HSL.out]; rfl, hrm.grows RSQ.good gia, hrs.grows gia, (fun x h => by cases h), by exact bel2 ga HGr⟩
              · have HOK := Lib.hid hok
                rw [hok] at CI
                have CI' := Lib.hid CI
                clear CI hok
                by_cases hJI : J = I
                · subst hJI
                  by_cases hpos : x.1 ≤ 0
                  · obtain rfl : RES = none := by rw [HRES.out]; exact acc_last HF.out hlt HROW.out (.inr (by rw [HLAST.out rfl]; exact hpos))
                    go_wp2_with fail
                    refine (CI'.out _).mono ?_; rintro e wa ⟨rfl, ga⟩
                    clear q0 q1
                    obtain ⟨q0, q1⟩ := (qb.grows ga).cells
                    have gia : Grows wi wa := by exact bel2 ga gik
                    go_wp2_with fail
                    go_ret3
                    exact ⟨Am, cm, As, cs, s.1, s.2, by rw [← HML.out, ← HSL.out]; rfl, hrm.grows RSQ.good gia, hrs.grows gia, (fun x h => by cases h), by exact bel2 ga HGr⟩
                  · have HACC := Lib.hid (acc_next HF.out HROW.out (by rw [HLAST.out rfl]; exact HOK.out) (by rw [HLAST.out rfl]; omega))
                    rw [HLAST.out rfl] at HACC
                    have HL2 := Lib.hid (HLAST.out rfl)
                    go_wp2_with fail
                    refine (CI'.out _).mono ?_; rintro e wa ⟨rfl, ga⟩
                    have hsa := Below.size ga
                    clear q0 q1
                    obtain ⟨q0, q1⟩ := (qb.grows ga).cells
                    have gia : Grows wi wa := by exact bel2 ga gik
                    have hsr := hs.grows gia
                    have hma := (hm.grows RSQ.good gia)
                    have hua := (hu.grows (show Grows wj wa by exact bel2 ga gjk))
                    have HSLT := Lib.hid fun g h => (World.ownsRow.lt hs g h)
                    have HMLT := Lib.hid fun g h => (hm.lt (g := g) h)
                    have HULT := Lib.hid fun g h => (World.ownsRow.lt hu g h)
                    have HL8 := Lib.hid (show (s.2 ++ [x]).length = J + 1 by simp [HI.out.l2])
                    go_wp2_with (at_builtin; refine wpList_appQ1 rfl (.tmp 83) (.tmp 85) rfl _ x w1.heap.size _ s.2 (by rfl) hsr (by rfl) (by rw [HI.out.l2]; omega) (by omega) ?_; intro v8 w8 ho8 hg8 hv8; obtain ⟨A8, c8, hv8e, _, _⟩ := ho8.val; rw [HL8.out] at hv8e; subst hv8e; clear q0 q1)
                    go_roundw
                    case rel =>
                      have hb8 : Below w1.heap.size wa w8 := below_appR hsr (by omega) hg8
                      have hS : OwnR 69 adR RSQ wa w1.heap.size (.slice Am J cm) s.1 [.slice As J cs, .slice A8 (J + 1) c8] := hma.avoid RSQ.good (fun s' h g hg' => by
                        simp only [List.mem_cons, List.not_mem_nil, or_false] at h
                        rcases h with rfl | rfl
                        · exact .inl ⟨.slice As J cs, by simp, hg'⟩
                        · rcases hv8 with h | ⟨g', h, h'⟩
                          · exact .inl ⟨.slice As J cs, by simp, by rw [← h]; exact hg'⟩
                          · rw [h] at hg'; cases hg'; exact .inr (.inr h'))
                      have hm8 := hS.other RSQ.good (s := .slice As J cs) (by simp) (fun g h e => HAP.out g e h) hg8
                      have hm10 := hm8.avoid RSQ.good (S' := [.slice A8 (J + 1) c8]) (fun s' h g hg' => .inl ⟨s', by simp only [List.mem_cons] at h ⊢; exact .inr h, hg'⟩)
                      have hu8 : OwnQ w8 wi.heap.size (.slice A6 row.length c6) row := ownsRow_other hua hg8 (fun g h e => by have := (HSLT.out g h).2; have := (HULT.out g e).1; omega)
                      have hb9 : Grows w1 w8 := Below.trans (show Grows w1 wa by exact bel2 gia hg) hb8
                      refine ⟨J + 1, row, A6, c6, by go_num, rfl, hu8, .inr ⟨rfl, ⟨A8, c8, rfl⟩, by rw [HL2.out]; exact HACC.out, by rw [HL2.out]; exact ho8, hm10, fun g h e => ?_, fun g h e => ?_, by have := hg8.size; omega, hb9⟩⟩
                      · rcases hv8 with h' | ⟨g', h', h''⟩
                        · exact HAP.out g h (by rw [← h']; exact e)
                        · rw [h'] at e; cases e; have := (HMLT.out _ h).2; have := Below.size gia; omega
                      · rcases hv8 with h' | ⟨g', h', h''⟩
                        · rw [h'] at e; have := (HSLT.out g e).2; have := (HULT.out g h).1; omega
                        · rw [h'] at e; cases e; have := (HULT.out _ h).2; omega
                    case measure => simp [intOf]; omega
                · have hJlt' : (J : Int) < (I : Int) := by omega
                  have hjb : ((J : Int) == (I : Int)) = false := by rw [beq_eq_false_iff_ne]; omega
                  obtain ⟨bs, fs, rfl, hbs, s0, s1⟩ := hrs.at_ J (by rw [HI.out.l2]; omega)
                  obtain ⟨d, hd'⟩ : ∃ d, d = nthQ s.2 J := ⟨_, rfl⟩
                  rw [← hd'] at s0 s1
                  have CD := fun W => sDivideRatios_c x d W
                  have hnx := rowF_next HROW.out (by rw [HCOF.out hJI]; exact HOK.out)
                  rw [HCOF.out hJI, ← hd'] at hnx
                  have HNX := Lib.hid hnx
                  clear hd' hnx
                  generalize divQ x d = y at *
                  have CD' := Lib.hid CD
                  have HU := Lib.hid fun g h => (World.ownsRow.lt hu g h)
                  clear CD
                  go_wp2_with fail
                  refine (CI'.out _).mono ?_; rintro e wa ⟨rfl, ga⟩
                  clear q0 q1
                  have hsa := Below.size ga
                  have gia : Grows wi wa := by exact bel2 ga gik
                  have hsia := Below.size gia
                  have qba := qb.grows ga
                  have hua := hu.grows (show Grows wj wa by exact bel2 ga gjk)
                  have s0a := ((bcell gia).1 bs (fs + J * 2) hbs).trans s0
                  have s1a := ((bcell gia).1 bs (fs + J * 2 + 1) hbs).trans s1
                  obtain ⟨q0, q1⟩ := qba.cells
                  have hbsa : bs < wa.heap.size := by omega
                  have HK := Lib.hid fun W (g : Grows wa W) => acc_keepS (qba.grows g) (((bcell g).1 bs (fs + J * 2) hbsa).trans s0a) (((bcell g).1 bs (fs + J * 2 + 1) hbsa).trans s1a)
                  go_wp2_with fail
                  (refine wp_region_heldL (fun W => W.cell? ⟨w7.heap.size, 0, none⟩ = some (.int .i64 x.1) ∧ W.cell? ⟨w7.heap.size, 1, none⟩ = some (.int .i64 x.2) ∧ W.cell? ⟨bs, fs + J * 2, none⟩ = some (.int .i64 d.1) ∧ W.cell? ⟨bs, fs + J * 2 + 1, none⟩ = some (.int .i64 d.2)) (by kernel_rfl) (by ((try dsimp only); (first | exact k8 | exact HK.out _ (by exact bel1 gc) | exact HK.out _ (by exact bel0)))) (fun hHeld => ?_); refine heldL_take (i := 0) (v := _) (by rfl) (by kernel_rfl) (by kernel_rfl) (by kernel_rfl) (fun _ _ _ h => h) (Or.inl ⟨by rfl, fun wS hSw => by ((try dsimp only at hSw); go_simp; (try with_reducible rfl))⟩) (by assumption) ?_; simp only [Act.put, List.setIfInBounds_toArray, List.set_cons_zero, List.set_cons_succ]; refine heldL_take (i := 1) (v := _) (by rfl) (by kernel_rfl) (by kernel_rfl) (by kernel_rfl) (fun _ _ _ h => h) (Or.inl ⟨by rfl, fun wS hSw => by ((try dsimp only at hSw); go_simp; (try with_reducible rfl))⟩) (by assumption) ?_; simp only [Act.put, List.setIfInBounds_toArray, List.set_cons_zero, List.set_cons_succ]; refine heldL_take (i := 2) (v := _) (by rfl) (by kernel_rfl) (by kernel_rfl) (by kernel_rfl) (fun _ _ _ h => h) (Or.inl ⟨by rfl, fun wS hSw => by ((try dsimp only at hSw); go_simp; (try with_reducible rfl))⟩) (by assumption) ?_; simp only [Act.put, List.setIfInBounds_toArray, List.set_cons_zero, List.set_cons_succ]; refine heldL_take (i := 3) (v := _) (by rfl) (by kernel_rfl) (by kernel_rfl) (by kernel_rfl) (fun _ _ _ h => h) (Or.inl ⟨by rfl, fun wS hSw => by ((try dsimp only at hSw); go_simp; (try with_reducible rfl))⟩) (by assumption) ?_; simp only [Act.put, List.setIfInBounds_toArray, List.set_cons_zero, List.set_cons_succ]; refine heldL_take (i := 4) (v := _) (by rfl) (by kernel_rfl) (by kernel_rfl) (by kernel_rfl) (fun _ _ _ h => h) (Or.inl ⟨by rfl, fun wS hSw => by ((try dsimp only at hSw); go_simp; (try with_reducible rfl))⟩) (by assumption) ?_; simp only [Act.put, List.setIfInBounds_toArray, List.set_cons_zero, List.set_cons_succ]; refine heldL_take (i := 5) (v := _) (by rfl) (by kernel_rfl) (by kernel_rfl) (by kernel_rfl) (fun _ _ _ h => h) (Or.inl ⟨by rfl, fun wS hSw => by ((try dsimp only at hSw); go_simp; (try with_reducible rfl))⟩) (by assumption) ?_; simp only [Act.put, List.setIfInBounds_toArray, List.set_cons_zero, List.set_cons_succ]; refine heldL_step (i := 6) (by kernel_rfl) (by rfl) (fun K hK => ?_); go_simp; (refine (CD'.out _).mono ?_; rintro e wc ⟨rfl, gc⟩; have hsc := Below.size gc; (try simp at hsc); have huc := hua.grows (w' := wc) (by exact bel1 gc); have qbc := qba.grows (w' := wc) (by exact bel1 gc); have s0c := ((bcell gc).1 bs (fs + J * 2) (by first | exact hbsa | simpa using hbsa)).trans s0a; have s1c := ((bcell gc).1 bs (fs + J * 2 + 1) (by first | exact hbsa | simpa using hbsa)).trans s1a) ; (try (go_wp2_with fail)); refine hK.out _ _ (by ((try dsimp only); (first | exact k8 | exact HK.out _ (by exact bel1 gc) | exact HK.out _ (by exact bel0)))) (fun hHeld => ?_); clear hK K; (try simp only [Act.put, List.setIfInBounds_toArray, List.set_cons_zero, List.set_cons_succ]); refine heldL_step (i := 7) (by kernel_rfl) (by rfl) (fun K hK => ?_); go_simp; refine hK.out _ _ (by ((try dsimp only); (first | exact k8 | exact HK.out _ (by exact bel1 gc) | exact HK.out _ (by exact bel0)))) (fun hHeld => ?_); clear hK K; (try simp only [Act.put, List.setIfInBounds_toArray, List.set_cons_zero, List.set_cons_succ]); refine heldL_step (i := 8) (by kernel_rfl) (by rfl) (fun K hK => ?_); (refine step_appQ1 rfl (.tmp 87) (.tmp 94) rfl _ y wi.heap.size _ row (by rfl) huc (by rfl) (by rw [HRL.out]; omega) (by omega) ?_; intro v8 w8 ho8 hg8 hv8; have hb8 : Below wi.heap.size wc w8 := below_appR huc (by omega) hg8; have hnr : ∀ b, b < wi.heap.size ∨ b = w7.heap.size → (Value.slice A6 row.length c6).ownBlock ≠ some b := (fun b hb e => by have := HU.out b e; omega); have k8 := acc_keepS (qbc.own hg8 (hnr _ (.inr rfl))) ((cell_keep (hg8.block bs (by omega) (fun e => hnr bs (.inl hbs) e.symm))).trans s0c) ((cell_keep (hg8.block bs (by omega) (fun e => hnr bs (.inl hbs) e.symm))).trans s1c); obtain ⟨A8, c8, rfl, _, _⟩ := ho8.val; clear hg8 hv8 hnr) ; refine hK.out _ _ (by ((try dsimp only); (first | exact k8 | exact HK.out _ (by exact bel1 gc) | exact HK.out _ (by exact bel0)))) (fun hHeld => ?_); clear hK K; (try simp only [Act.put, List.setIfInBounds_toArray, List.set_cons_zero, List.set_cons_succ]); refine heldL_take (i := 9) (v := _) (by rfl) (by kernel_rfl) (by kernel_rfl) (by kernel_rfl) (fun _ _ _ h => h) (Or.inl ⟨by rfl, fun wS hSw => by ((try dsimp only at hSw); go_simp; (try with_reducible rfl))⟩) (by assumption) ?_; simp only [Act.put, List.setIfInBounds_toArray, List.set_cons_zero, List.set_cons_succ]; refine wpAnyH_done (by kernel_rfl) ?_ _; refine NoPanic.normal ?_)
                  go_wp2_with fail
                  go_roundw
                  case rel =>
                    have g8 : Grows wi w8 := Below.trans (show Grows wi wc by exact bel2 gc gia) hb8
                    exact ⟨J + 1, row ++ [y], A8, c8, by go_num, by simp, ho8, .inl ⟨by omega, rfl, HNX.out, g8⟩⟩
                  case measure => simp [intOf]; omega
        · have hj' : ¬ ((I : Int) + 1 ≤ (I : Int)) := by omega
          have hz : RSQ wr (.slice A6 row.length c6) row := by
            obtain ⟨A', c', e, h1, h2⟩ := hu.val
            exact ⟨A', c', e, h1, h2⟩
          have HULT := Lib.hid fun g h => (World.ownsRow.lt hu g h)
          have HMLT := Lib.hid fun g h => (hm.lt (g := g) h)
          have HSEP := Lib.hid (show ∀ g, adR (.slice A6 row.length c6) = some g → (Value.slice Am I cm).ownBlock ≠ some g ∧ ∀ s ∈ [Value.slice A7 (I + 1) c7], s.ownBlock ≠ some g from fun g hg2 => by
            have h0 := adR_own2 hg2
            have h1 := HULT.out g h0
            refine ⟨fun e => by have := HMLT.out g e; omega, fun s' h e => ?_⟩
            simp only [List.mem_cons, List.not_mem_nil, or_false] at h
            subst h
            exact hap6 g h0 e)
          have HL9 := Lib.hid (show (s.1 ++ [row]).length = I + 1 by simp [HI.out.l1])
          have HB2 := Lib.hid hb'
          have HNX2 := Lib.hid hnx
          have HAP2 := Lib.hid hap'
          have hsb := Below.size hb'
          clear hap6 hnx hap'
          go_wp2_with (at_builtin; refine wpList_appR1 69 68 und_qq info_qs rfl (.tmp 96) (.tmp 98) rfl _ (.slice A6 row.length c6) row RSQ.good rfl hz w1.heap.size _ s.1 [.slice A7 (I + 1) c7] (by rfl) hm' HSEP.out (by rfl) (by rw [HI.out.l1]; omega) (by omega) ?_; intro v9 w9 ho9 hg9 hv9; obtain ⟨A9, c9, hv9e, _, _⟩ := ho9.val; rw [HL9.out] at hv9e; subst hv9e)
          go_roundw
          case rel =>
            have hb9 := below_R hm' (by omega) hg9
            have h1 : OwnQ w9 w1.heap.size (.slice A7 (I + 1) c7) (s.2 ++ [lastX R l s.2 I row]) := ownsRow_other hs' hg9 (fun g h e => HAP2.out g h e)
            have h5 := apart_appR hs' HAP2.out hv9
            exact ⟨I + 1, (s.1 ++ [row], s.2 ++ [lastX R l s.2 I row]), A9, c9, A7, c7, by go_num, rfl, rfl, by omega, HNX2.out, h1, ho9, h5, Below.trans HB2.out hb9⟩
          case measure => simp [intOf]; omega
    · obtain rfl : I = R := by omega
      obtain rfl : RES = some s := by rw [HRES.out, HF.out]
      obtain ⟨b0, b1, b2⟩ := (mg.grows hg).cells
      have hsl : I = s.2.length := HI.out.l2.symm
      have hml : I = s.1.length := HI.out.l1.symm
      have HSL := Lib.hid hsl
      have HML := Lib.hid hml
      clear hsl hml
      go_wp2_with fail
      go_ret3
      exact ⟨Am, cm, As, cs, s.1, s.2, by rw [← HML.out, ← HSL.out]; rfl, hrm, hrs, (fun x h => by cases h; rfl), by exact bel2 hg HG⟩
end
end Go.Proofs.YtfilbjbogggaoaaGreat

/- Contracts: a coefficient of the account. -/
namespace Go.Proofs.YtfilbjbogggaoaaGreat
set_option linter.unusedSimpArgs false
set_option linter.unusedVariables false
open Go.RowKit

def cofO (g : MX) (i j : Int) : Option Q2 :=
  if isDef g.r g.c g.l && (decide (0 ≤ i) && decide (i < g.r) && decide (0 ≤ j) && decide (j < i)) then
    (accF g.r.toNat g.l g.r.toNat).bind fun s => if okQ (nthQ (s.1.getD i.toNat []) j.toNat) then some (nthQ (s.1.getD i.toNat []) j.toNat) else none
  else none
theorem cofO_no {g : MX} {i j : Int} (h : isDef g.r g.c g.l = false ∨ i < 0 ∨ g.r ≤ i ∨ j < 0 ∨ i ≤ j) : cofO g i j = none := by
  unfold cofO
  rw [if_neg]
  simp only [Bool.and_eq_true, decide_eq_true_eq]
  rcases h with h | h
  · simp [h]
  · omega
theorem cofO_yes {R I J : Nat} {l : List Int} (h : isDef R R l = true) (h1 : I < R) (h2 : J < I) : cofO ⟨R, R, l⟩ I J = (accF R l R).bind fun s => if okQ (nthQ (s.1.getD I []) J) then some (nthQ (s.1.getD I []) J) else none := by
  unfold cofO
  rw [if_pos]
  · simp only [Int.toNat_natCast]
  · simp only [Bool.and_eq_true, decide_eq_true_eq]
    exact ⟨h, by omega, by omega⟩
def oQ (o : Option Q2) : Q2 := o.getD (0, 0)
/-- the answer is a fraction, and whether there is one -/
def QORet (o : Option Q2) (w : World) (e : Ending) (w' : World) : Prop := e = .returned (.tuple #[.agg #[.int .i64 (oQ o).1, .int .i64 (oQ o).2], .bool o.isSome]) ∧ Grows w w'
theorem qoRet_out {o : Option Q2} {w w' : World} {e : Ending} (h : QORet o w e w') : e = .returned (.tuple #[.agg #[.int .i64 (oQ o).1, .int .i64 (oQ o).2], .bool o.isSome]) ∧ Grows w w' := h
theorem isDef_nat {r c : Int} {l : List Int} (h : isDef r c l = true) : ∃ R : Nat, r = R ∧ c = R ∧ R ≤ 6 ∧ l.length = R * R := by
  obtain ⟨_, R, rfl, rfl, hR, hlen, _⟩ := isSq_nat (isDef_sq h)
  exact ⟨R, rfl, rfl, hR, hlen⟩
theorem mat_q (w : World) (r c : Int) (u : Value) :
    ∃ w1, w1 = (w.alloc (.cells #[.int .i64 r, .int .i64 c, u] 26)).alloc (.cells #[.int .i64 0, .int .i64 0] 79) ∧
      MBox w1 w.heap.size r c u ∧ QBox w1 (w.heap.size + 1) (0, 0) ∧ w1.heap.size = w.heap.size + 2 ∧ Grows w w1 :=
  ⟨_, rfl, (MBox.mk_ _ _ _ _ _).grows ((Below.refl _ _).alloc (Nat.le_refl _) _), QBox.new_ _ (0, 0) _ (by simp), by simp, by exact bel0⟩

section
set_option maxHeartbeats 4000000
end
end Go.Proofs.YtfilbjbogggaoaaGreat

/- The Smith form as an algorithm on lists. -/
namespace Go.Proofs.YtfilbjbogggaoaaGreat
set_option linter.unusedSimpArgs false
set_option linter.unusedVariables false

/-! ### operations on columns -/
def addCT (R C i j : Nat) (t : Int) (l : List Int) : List Int := tab R C fun a b => if b = i then addB (nth l (a * C + i)) (mulB (nth l (a * C + j)) t) else nth l (a * C + b)
def swpCT (R C i j : Nat) (l : List Int) : List Int := tab R C fun a b => if b = i then nth l (a * C + j) else if b = j then nth l (a * C + i) else nth l (a * C + b)
theorem addCT_length (R C i j : Nat) (t : Int) (l : List Int) : (addCT R C i j t l).length = R * C := tab_length _ _ _
theorem swpCT_length (R C i j : Nat) (l : List Int) : (swpCT R C i j l).length = R * C := tab_length _ _ _
theorem addCT_mkd {R C i j : Nat} {t : Int} {l : List Int} (hl : l.length = R * C) (h : mkd l) : mkd (addCT R C i j t l) := mkd_tab fun a b ha hb => by
  split
  · exact addB_or' _ _
  · exact mkd_nth hl h ha hb
theorem swpCT_mkd {R C i j : Nat} {l : List Int} (hl : l.length = R * C) (h : mkd l) (hi : i < C) (hj : j < C) : mkd (swpCT R C i j l) := mkd_tab fun a b ha hb => by
  split
  · exact mkd_nth hl h ha hj
  · split
    · exact mkd_nth hl h ha hi
    · exact mkd_nth hl h ha hb
theorem addCT_other {R C i j a b : Nat} {t : Int} {l : List Int} (ha : a < R) (hb : b < C) (h : b ≠ i) : nth (addCT R C i j t l) (a * C + b) = nth l (a * C + b) := by
  unfold addCT; rw [tab_nth _ ha hb, if_neg h]
theorem addCT_same {R C i j a : Nat} {t : Int} {l : List Int} (hi : i < C) (ha : a < R) (h : allNum (addCT R C i j t l) = true) : nth (addCT R C i j t l) (a * C + i) = nth l (a * C + i) + nth l (a * C + j) * t := by
  have := (allNum_iff _).1 h (a * C + i) (by rw [addCT_length]; exact idx_lt ha hi)
  unfold addCT at *
  rw [tab_nth _ ha hi, if_pos rfl] at *
  exact isNum_addB this
theorem addCT_stay {R C i j : Nat} {t : Int} {l : List Int} (hl : l.length = R * C) (hm : mkd l) (h : allNum l = false) : allNum (addCT R C i j t l) = false := by
  obtain ⟨a, b, ha, hb, e⟩ := not_num hl h hm
  refine has_bad (i := a * C + b) (by rw [addCT_length]; exact idx_lt ha hb) ?_
  by_cases he : b = i
  · subst he
    unfold addCT; rw [tab_nth _ ha hb, if_pos rfl, e, addB_bad_left]
  · rw [addCT_other ha hb he]; exact e
theorem swpCT_cell {R C i j a b : Nat} {l : List Int} (ha : a < R) (hb : b < C) : nth (swpCT R C i j l) (a * C + b) = if b = i then nth l (a * C + j) else if b = j then nth l (a * C + i) else nth l (a * C + b) := by
  unfold swpCT; rw [tab_nth _ ha hb]
theorem swpCT_stay {R C i j : Nat} {l : List Int} (hl : l.length = R * C) (hm : mkd l) (hi : i < C) (hj : j < C) (h : allNum l = false) : allNum (swpCT R C i j l) = false := by
  obtain ⟨a, b, ha, hb, e⟩ := not_num hl h hm
  by_cases h1 : b = i
  · refine has_bad (i := a * C + j) (by rw [swpCT_length]; exact idx_lt ha hj) ?_
    rw [swpCT_cell ha hj]
    split
    · rename_i h2; rw [h2, ← h1, e]
    · rw [if_pos rfl, ← h1, e]
  · by_cases h2 : b = j
    · refine has_bad (i := a * C + i) (by rw [swpCT_length]; exact idx_lt ha hi) ?_
      rw [swpCT_cell ha hi, if_pos rfl, ← h2, e]
    · refine has_bad (i := a * C + b) (by rw [swpCT_length]; exact idx_lt ha hb) ?_
      rw [swpCT_cell ha hb, if_neg h1, if_neg h2, e]
theorem swpCT_num {R C i j : Nat} {l : List Int} (hl : l.length = R * C) (hi : i < C) (hj : j < C) (h : allNum l = true) : allNum (swpCT R C i j l) = true := by
  rw [allNum_iff] at *
  intro k hk
  rw [swpCT_length] at hk
  obtain ⟨h1, h2, h3⟩ := idx_split hk
  rw [h3, swpCT_cell h1 h2]
  split
  · exact h _ (by rw [hl]; exact idx_lt h1 hj)
  · split
    · exact h _ (by rw [hl]; exact idx_lt h1 hi)
    · exact h _ (by rw [hl]; exact idx_lt h1 h2)

/-! ### triples: a matrix, and those of the operations to rows and to columns -/
abbrev L3 := List Int × List Int × List Int
def thr (a u v : List Int) : Option L3 := if allNum a && (allNum u && allNum v) then some (a, u, v) else none
theorem thr_some {a u v : List Int} {s : L3} (h : thr a u v = some s) : s = (a, u, v) ∧ allNum a = true ∧ allNum u = true ∧ allNum v = true := by
  unfold thr at h
  split at h
  · rename_i hh; rw [Bool.and_eq_true, Bool.and_eq_true] at hh; cases h; exact ⟨rfl, hh.1, hh.2.1, hh.2.2⟩
  · cases h
theorem thr_none {a u v : List Int} (h : thr a u v = none) : allNum a = false ∨ allNum u = false ∨ allNum v = false := by
  unfold thr at h
  cases h1 : allNum a
  · exact .inl rfl
  · cases h2 : allNum u
    · exact .inr (.inl rfl)
    · cases h3 : allNum v
      · exact .inr (.inr rfl)
      · rw [h1, h2, h3] at h; cases h
theorem none_thr {a u v : List Int} (h : allNum a = false ∨ allNum u = false ∨ allNum v = false) : thr a u v = none := by
  unfold thr
  rcases h with h | h | h <;> simp [h]
structure Ok3 (R C : Nat) (s : L3) : Prop where
  l1 : s.1.length = R * C
  l2 : s.2.1.length = R * R
  l3 : s.2.2.length = C * C
  n1 : allNum s.1 = true
  n2 : allNum s.2.1 = true
  n3 : allNum s.2.2 = true
def addR3 (R C i j : Nat) (t : Int) (s : L3) : L3 := (addT R C i j t s.1, addT R R i j t s.2.1, s.2.2)
def addC3 (R C i j : Nat) (t : Int) (s : L3) : L3 := (addCT R C i j t s.1, s.2.1, addCT C C i j t s.2.2)
def swpR3 (R C i j : Nat) (s : L3) : L3 := (swpT R C i j s.1, swpT R R i j s.2.1, s.2.2)
def swpC3 (R C i j : Nat) (s : L3) : L3 := (swpCT R C i j s.1, s.2.1, swpCT C C i j s.2.2)
def negR3 (R C i : Nat) (s : L3) : L3 := (negT R C i s.1, negT R R i s.2.1, s.2.2)
/-- the triple if all its numbers fit -/
def fit3 (s : L3) : Option L3 := thr s.1 s.2.1 s.2.2
theorem fit3_some {s t : L3} (h : fit3 s = some t) : t = s ∧ allNum s.1 = true ∧ allNum s.2.1 = true ∧ allNum s.2.2 = true := thr_some h
theorem Ok3.fit {R C : Nat} {s : L3} (h : Ok3 R C s) : fit3 s = some s := by unfold fit3 thr; rw [h.n1, h.n2, h.n3]; rfl
structure Mk3 (R C : Nat) (x : L3) : Prop where
  l1 : x.1.length = R * C
  l2 : x.2.1.length = R * R
  l3 : x.2.2.length = C * C
  m1 : mkd x.1
  m2 : mkd x.2.1
  m3 : mkd x.2.2
def Stands3 (R C : Nat) (s : Option L3) (x : L3) : Prop := Mk3 R C x ∧ s = fit3 x
theorem Ok3.mk3 {R C : Nat} {s : L3} (h : Ok3 R C s) : Mk3 R C s := ⟨h.l1, h.l2, h.l3, mkd_of h.n1, mkd_of h.n2, mkd_of h.n3⟩
theorem Ok3.stands {R C : Nat} {s : L3} (h : Ok3 R C s) : Stands3 R C (some s) s := ⟨h.mk3, h.fit.symm⟩
theorem Stands3.some_eq {R C : Nat} {s x : L3} (h : Stands3 R C (some s) x) : x = s ∧ Ok3 R C s := by
  obtain ⟨e, h1, h2, h3⟩ := fit3_some h.2.symm
  obtain rfl : s = x := e
  exact ⟨rfl, h.1.l1, h.1.l2, h.1.l3, h1, h2, h3⟩
theorem Stands3.addR {R C i j : Nat} {t : Int} {s : Option L3} {x : L3} (h : Stands3 R C s x) : Stands3 R C (s.bind fun s => fit3 (addR3 R C i j t s)) (addR3 R C i j t x) := by
  refine ⟨⟨addT_length _ _ _ _ _ _, addT_length _ _ _ _ _ _, h.1.l3, addT_mkd h.1.l1 h.1.m1, addT_mkd h.1.l2 h.1.m2, h.1.m3⟩, ?_⟩
  cases s with
  | some s => obtain ⟨rfl, _⟩ := h.some_eq; rfl
  | none =>
    refine (none_thr ?_).symm
    rcases thr_none h.2.symm with e | e | e
    · exact .inl (addT_stay h.1.l1 h.1.m1 e)
    · exact .inr (.inl (addT_stay h.1.l2 h.1.m2 e))
    · exact .inr (.inr e)
theorem Stands3.addC {R C i j : Nat} {t : Int} {s : Option L3} {x : L3} (h : Stands3 R C s x) : Stands3 R C (s.bind fun s => fit3 (addC3 R C i j t s)) (addC3 R C i j t x) := by
  refine ⟨⟨addCT_length _ _ _ _ _ _, h.1.l2, addCT_length _ _ _ _ _ _, addCT_mkd h.1.l1 h.1.m1, h.1.m2, addCT_mkd h.1.l3 h.1.m3⟩, ?_⟩
  cases s with
  | some s => obtain ⟨rfl, _⟩ := h.some_eq; rfl
  | none =>
    refine (none_thr ?_).symm
    rcases thr_none h.2.symm with e | e | e
    · exact .inl (addCT_stay h.1.l1 h.1.m1 e)
    · exact .inr (.inl e)
    · exact .inr (.inr (addCT_stay h.1.l3 h.1.m3 e))
theorem swpR3_ok {R C i j : Nat} {s : L3} (h : Ok3 R C s) (hi : i < R) (hj : j < R) : Ok3 R C (swpR3 R C i j s) :=
  ⟨swpT_length _ _ _ _ _, swpT_length _ _ _ _ _, h.l3, swpT_num h.l1 hi hj h.n1, swpT_num h.l2 hi hj h.n2, h.n3⟩
theorem swpC3_ok {R C i j : Nat} {s : L3} (h : Ok3 R C s) (hi : i < C) (hj : j < C) : Ok3 R C (swpC3 R C i j s) :=
  ⟨swpCT_length _ _ _ _ _, h.l2, swpCT_length _ _ _ _ _, swpCT_num h.l1 hi hj h.n1, h.n2, swpCT_num h.l3 hi hj h.n3⟩
theorem negR3_ok {R C i : Nat} {s : L3} (h : Ok3 R C s) (hi : i < R) : Ok3 R C (negR3 R C i s) :=
  ⟨negT_length _ _ _ _, negT_length _ _ _ _, h.l3, negT_num h.l1 hi h.n1, negT_num h.l2 hi h.n2, h.n3⟩
theorem addR3_ok {R C i j : Nat} {t : Int} {s s' : L3} (h : Ok3 R C s) (e : fit3 (addR3 R C i j t s) = some s') : s' = addR3 R C i j t s ∧ Ok3 R C s' := by
  obtain ⟨rfl, h1, h2, h3⟩ := fit3_some e
  exact ⟨rfl, addT_length _ _ _ _ _ _, addT_length _ _ _ _ _ _, h.l3, h1, h2, h3⟩
theorem addC3_ok {R C i j : Nat} {t : Int} {s s' : L3} (h : Ok3 R C s) (e : fit3 (addC3 R C i j t s) = some s') : s' = addC3 R C i j t s ∧ Ok3 R C s' := by
  obtain ⟨rfl, h1, h2, h3⟩ := fit3_some e
  exact ⟨rfl, addCT_length _ _ _ _ _ _, h.l2, addCT_length _ _ _ _ _ _, h1, h2, h3⟩
end Go.Proofs.YtfilbjbogggaoaaGreat

/- Contracts: fractions rounded down and to the nearest number, the diagonal of a matrix. -/
namespace Go.Proofs.YtfilbjbogggaoaaGreat
set_option linter.unusedSimpArgs false
set_option linter.unusedVariables false
open Go.RowKit

section
set_option maxHeartbeats 2000000
theorem iRoundQ_c (q : Q2) (w : World) : Calls Tryz.prog 132 #[.agg #[.int .i64 q.1, .int .i64 q.2]] w fun e w' => e = .returned (.int .i64 (roundQ q)) ∧ Grows w w' := by
  have CI := fun W => iIsRatio_c q.1 q.2 W
  change ∀ W, Calls Tryz.prog 129 #[.agg #[.int .i64 q.1, .int .i64 q.2]] W (fun e w' => e = .returned (.bool (okQ q)) ∧ Grows W w') at CI
  obtain ⟨w1, hw1⟩ : ∃ w1, w1 = w.alloc (.cells #[.int .i64 q.1, .int .i64 q.2] 79) := ⟨_, rfl⟩
  have mq : QBox w1 w.heap.size q := by rw [hw1]; exact QBox.new_ _ _ _ rfl
  have HG : Grows w w1 := by rw [hw1]; exact bel0
  have HW1 := Lib.hid hw1
  obtain ⟨RES, hRES⟩ : ∃ x, x = roundQ q := ⟨_, rfl⟩
  rw [← hRES]
  unfold roundQ at hRES
  cases hok : okQ q
  · rw [hok] at CI hRES
    have CI' := Lib.hid CI
    have HR := Lib.hid hRES
    clear CI hok hRES hw1
    go_enter Tryz.func132, Tryz.ntmps132
    go_wp2_with fail
    rw [← HW1.out]
    refine (CI'.out _).mono ?_; rintro e w2 ⟨rfl, g2⟩
    go_wp2_with fail
    go_ret
    exact ⟨by rw [HR.out]; rfl, by exact bel2 g2 HG⟩
  · have hb := okQ_bd hok
    rw [hok] at CI hRES
    have CI' := Lib.hid CI
    have HR := Lib.hid hRES
    have CD := Lib.hid fun W => floorDiv_c (2 * q.1 + q.2) (2 * q.2) W (by omega) (by omega) (by omega) (by omega)
    have k1 : IntKind.i64.wrap (2 * q.1) = 2 * q.1 := IntWalk.i64_in _ (by omega)
    have k2 : IntKind.i64.wrap (2 * q.1 + q.2) = 2 * q.1 + q.2 := IntWalk.i64_in _ (by omega)
    have k3 : IntKind.i64.wrap (2 * q.2) = 2 * q.2 := IntWalk.i64_in _ (by omega)
    clear CI hok hRES hw1
    go_enter Tryz.func132, Tryz.ntmps132
    go_wp2_with fail
    rw [← HW1.out]
    refine (CI'.out _).mono ?_; rintro e w2 ⟨rfl, g2⟩
    obtain ⟨q0, q1⟩ := (mq.grows g2).cells
    go_wp2_with fail
    refine (CD.out _).mono ?_; rintro e w3 ⟨rfl, rfl⟩
    go_wp2_with fail
    go_ret
    exact ⟨by rw [HR.out]; rfl, by exact bel2 g2 HG⟩
theorem sRoundQ_c (q : Q2) (w : World) : Calls Tryz.prog 77 #[.agg #[.int .i64 q.1, .int .i64 q.2]] w fun e w' => e = .returned (.int .i64 (roundQ q)) ∧ Grows w w' := by
  have CI := fun W => sIsRatio_c q.1 q.2 W
  change ∀ W, Calls Tryz.prog 76 #[.agg #[.int .i64 q.1, .int .i64 q.2]] W (fun e w' => e = .returned (.bool (okQ q)) ∧ Grows W w') at CI
  obtain ⟨w1, hw1⟩ : ∃ w1, w1 = w.alloc (.cells #[.int .i64 q.1, .int .i64 q.2] 79) := ⟨_, rfl⟩
  have mq : QBox w1 w.heap.size q := by rw [hw1]; exact QBox.new_ _ _ _ rfl
  have HG : Grows w w1 := by rw [hw1]; exact bel0
  have HW1 := Lib.hid hw1
  obtain ⟨RES, hRES⟩ : ∃ x, x = roundQ q := ⟨_, rfl⟩
  rw [← hRES]
  unfold roundQ at hRES
  cases hok : okQ q
  · rw [hok] at CI hRES
    have CI' := Lib.hid CI
    have HR := Lib.hid hRES
    clear CI hok hRES hw1
    go_enter Tryz.func77, Tryz.ntmps77
    go_wp2_with fail
    rw [← HW1.out]
    refine (CI'.out _).mono ?_; rintro e w2 ⟨rfl, g2⟩
    go_wp2_with fail
    go_ret
    exact ⟨by rw [HR.out]; rfl, by exact bel2 g2 HG⟩
  · have hb := okQ_bd hok
    rw [hok] at CI hRES
    have CI' := Lib.hid CI
    have HR := Lib.hid hRES
    have CD := Lib.hid fun W => l1Floor_c (2 * q.1 + q.2) (2 * q.2) W (by omega) (by omega) (by omega) (by omega)
    have k1 : IntKind.i64.wrap (2 * q.1) = 2 * q.1 := IntWalk.i64_in _ (by omega)
    have k2 : IntKind.i64.wrap (2 * q.1 + q.2) = 2 * q.1 + q.2 := IntWalk.i64_in _ (by omega)
    have k3 : IntKind.i64.wrap (2 * q.2) = 2 * q.2 := IntWalk.i64_in _ (by omega)
    clear CI hok hRES hw1
    go_enter Tryz.func77, Tryz.ntmps77
    go_wp2_with fail
    rw [← HW1.out]
    refine (CI'.out _).mono ?_; rintro e w2 ⟨rfl, g2⟩
    obtain ⟨q0, q1⟩ := (mq.grows g2).cells
    go_wp2_with fail
    refine (CD.out _).mono ?_; rintro e w3 ⟨rfl, rfl⟩
    go_wp2_with fail
    go_ret
    exact ⟨by rw [HR.out]; rfl, by exact bel2 g2 HG⟩
end
end Go.Proofs.YtfilbjbogggaoaaGreat

/- Contracts: whether a form is reduced. -/
namespace Go.Proofs.YtfilbjbogggaoaaGreat
set_option linter.unusedSimpArgs false
set_option linter.unusedVariables false
open Go.RowKit

/-- the first cells of a row: none if |m| is at most 1/2 at each, else whether that is known of the first that is not -/
def halfR (row : List Q2) : Nat → Option Bool
  | 0 => none
  | j + 1 => match halfR row j with
    | some k => some k
    | none => if okQ (nthQ row j) = false then some false else if (nthQ row j).2 < 2 * absI (nthQ row j).1 then some true else none
def ordQ (m last sq : Q2) : Int := cmpQ sq (mulQ (addQ (3, 4) (negQ (mulQ m m))) last)
theorem cmpQ_four (a b : Q2) : cmpQ a b = -1 ∨ cmpQ a b = 0 ∨ cmpQ a b = 1 ∨ cmpQ a b = 2 := by
  unfold cmpQ
  repeat' split
  all_goals omega
def ordS (s : List (List Q2) × List Q2) (i : Nat) : Int := ordQ (nthQ (s.1.getD i []) (i - 1)) (nthQ s.2 (i - 1)) (nthQ s.2 i)
def rdcF (s : List (List Q2) × List Q2) : Nat → Option Bool
  | 0 => none
  | i + 1 => match rdcF s i with
    | some k => some k
    | none => match halfR (s.1.getD i []) i with
      | some k => some k
      | none => if i = 0 then none else if ordS s i = 0 ∨ ordS s i = 1 then none else some (decide (ordS s i ≠ 2))
def rdcO (g : MX) : Bool × Bool :=
  if isDef g.r g.c g.l then
    match accF g.r.toNat g.l g.r.toNat with
    | none => (false, false)
    | some s => match rdcF s g.r.toNat with
      | none => (true, true)
      | some k => (false, k)
  else (false, false)
theorem halfR_some {row : List Q2} {j n : Nat} {k : Bool} (h : halfR row j = some k) (hn : j ≤ n) : halfR row n = some k := by
  induction n with
  | zero => obtain rfl : j = 0 := by omega
            exact h
  | succ n ih =>
    by_cases e : j = n + 1
    · rw [← e]; exact h
    · rw [halfR, ih (by omega)]
theorem halfR_bad {row : List Q2} {j : Nat} (h : halfR row j = none) (h2 : okQ (nthQ row j) = false) : halfR row (j + 1) = some false := by rw [halfR, h]; simp [h2]
theorem halfR_big {row : List Q2} {j : Nat} (h : halfR row j = none) (h2 : okQ (nthQ row j) = true) (h3 : (nthQ row j).2 < 2 * absI (nthQ row j).1) : halfR row (j + 1) = some true := by rw [halfR, h]; simp [h2, h3]
theorem halfR_ok {row : List Q2} {j : Nat} (h : halfR row j = none) (h2 : okQ (nthQ row j) = true) (h3 : ¬ (nthQ row j).2 < 2 * absI (nthQ row j).1) : halfR row (j + 1) = none := by rw [halfR, h]; simp [h2, h3]
theorem rdcF_some {s : List (List Q2) × List Q2} {i n : Nat} {k : Bool} (h : rdcF s i = some k) (hn : i ≤ n) : rdcF s n = some k := by
  induction n with
  | zero => obtain rfl : i = 0 := by omega
            exact h
  | succ n ih =>
    by_cases e : i = n + 1
    · rw [← e]; exact h
    · rw [rdcF, ih (by omega)]
theorem rdcF_half {s : List (List Q2) × List Q2} {i : Nat} {k : Bool} (h : rdcF s i = none) (h2 : halfR (s.1.getD i []) i = some k) : rdcF s (i + 1) = some k := by rw [rdcF, h]; simp only [h2]
theorem rdcF_zero {s : List (List Q2) × List Q2} : rdcF s 1 = none := by rw [rdcF, rdcF]; simp [halfR]
theorem rdcF_ord {s : List (List Q2) × List Q2} {i : Nat} (hi : 0 < i) (h : rdcF s i = none) (h2 : halfR (s.1.getD i []) i = none) : rdcF s (i + 1) = if ordS s i = 0 ∨ ordS s i = 1 then none else some (decide (ordS s i ≠ 2)) := by
  rw [rdcF, h]; simp only [h2]; rw [if_neg (by omega)]
theorem rdcO_no {g : MX} (h : isDef g.r g.c g.l = false) : rdcO g = (false, false) := by unfold rdcO; rw [h]; rfl
theorem rdcO_yes {R : Nat} {l : List Int} (h : isDef R R l = true) : rdcO ⟨R, R, l⟩ = match accF R l R with
    | none => (false, false)
    | some s => match rdcF s R with
      | none => (true, true)
      | some k => (false, k) := by
  unfold rdcO
  simp only [h, if_true, Int.toNat_natCast]

section
set_option maxHeartbeats 4000000
theorem halves_c (q : Q2) (w : World) : Calls Tryz.prog 82 #[.agg #[.int .i64 q.1, .int .i64 q.2]] w fun e w' => e = .returned (.tuple #[.bool (okQ q && decide (2 * absI q.1 ≤ q.2)), .bool (okQ q)]) ∧ Grows w w' := by
  have CI := fun W => iIsRatio_c q.1 q.2 W
  change ∀ W, Calls Tryz.prog 129 #[.agg #[.int .i64 q.1, .int .i64 q.2]] W (fun e w' => e = .returned (.bool (okQ q)) ∧ Grows W w') at CI
  obtain ⟨w1, hw1⟩ : ∃ w1, w1 = w.alloc (.cells #[.int .i64 q.1, .int .i64 q.2] 79) := ⟨_, rfl⟩
  have mq : QBox w1 w.heap.size q := by rw [hw1]; exact QBox.new_ _ _ _ rfl
  have HG : Grows w w1 := by rw [hw1]; exact bel0
  have HW1 := Lib.hid hw1
  clear hw1
  cases hok : okQ q
  · rw [hok] at CI
    have CI' := Lib.hid CI
    clear CI hok
    go_enter Tryz.func82, Tryz.ntmps82
    go_wp2_with fail
    rw [← HW1.out]
    refine (CI'.out _).mono ?_; rintro e w2 ⟨rfl, g2⟩
    go_wp2_with fail
    go_ret2
    exact ⟨by simp, by exact bel2 g2 HG⟩
  · have hb := okQ_bd hok
    rw [hok] at CI
    have CI' := Lib.hid CI
    have CA := Lib.hid fun W => absInt_c q.1 W (by omega)
    have h0 := absI_pos q.1
    have h1 := (absI_le q.1 400000000).2 (by omega)
    obtain ⟨RB, hRB⟩ : ∃ b, b = decide (2 * absI q.1 ≤ q.2) := ⟨_, rfl⟩
    rw [← hRB]
    have HRB := Lib.hid hRB
    clear CI hok hRB
    generalize absI q.1 = a at *
    have hwr : IntKind.i64.wrap (2 * a) = 2 * a := IntWalk.i64_in _ (by omega)
    go_enter Tryz.func82, Tryz.ntmps82
    go_wp2_with fail
    rw [← HW1.out]
    refine (CI'.out _).mono ?_; rintro e w2 ⟨rfl, g2⟩
    obtain ⟨q0, q1⟩ := (mq.grows g2).cells
    have x0 := ext_is q0
    have x1 := ext_is q1
    go_wp2_with fail
    ((refine wp_region_ext (by kernel_rfl) (by kernel_rfl) ?_); (repeat (go_big_quiet_step ((go_at_call 152; with_reducible exact extS (CA.out _))))); refine wpQuiet_nil ?_; rintro w3 ⟨w30, hw30⟩; have g3 := grows_of_ext hw30; clear hw30 w30)
    go_wp2_with fail
    go_ret2
    exact ⟨by rw [HRB.out]; simp, by exact bel3 g3 g2 HG⟩
theorem inOrder_c (s : List (List Q2) × List Q2) (R k : Nat) (Am As : Option Addr) (cm cs : Nat) (w : World) (hl1 : s.1.length = R) (hl2 : s.2.length = R) (hrow : ∀ j, j < R → (s.1.getD j []).length = j) (hR : R ≤ 24) (h0 : 0 < k) (hk : k < R) (hm : RdR RSQ w Am s.1) (hs : RdQ w As s.2) :
    Calls Tryz.prog 83 #[.agg #[.slice Am R cm, .slice As R cs], .int .i64 k] w fun e w' => e = .returned (.tuple #[.bool (ordS s k == 0 || ordS s k == 1), .bool (ordS s k != 2)]) ∧ Grows w w' := by
  obtain ⟨w1, hw1⟩ : ∃ w1, w1 = w.alloc (.cells #[.slice Am R cm, .slice As R cs] 71) := ⟨_, rfl⟩
  have mo : SBox w1 w.heap.size (.slice Am R cm) (.slice As R cs) := by rw [hw1]; exact SBox.new_ _ _ _ _ rfl
  have HG : Grows w w1 := by rw [hw1]; exact bel0
  have HW1 := Lib.hid hw1
  have hm1 := hm.grows RSQ.good HG
  have hs1 := hs.grows HG
  obtain ⟨bm, fm, Aj, cj, rfl, hbm, m0, hrj, hcj⟩ := hm1.rowQ k (by rw [hl1]; exact hk)
  rw [hrow k hk] at m0 hcj
  obtain ⟨bj, fj, rfl, hbj, j0, j1⟩ := hrj.at_ (k - 1) (by rw [hrow k hk]; omega)
  obtain ⟨bs, fs, rfl, hbs, s0, s1⟩ := hs1.at_ (k - 1) (by rw [hl2]; omega)
  obtain ⟨bs', fs', e', _, u0, u1⟩ := hs1.at_ k (by rw [hl2]; exact hk)
  cases e'
  have hord : ordS s k = cmpQ (nthQ s.2 k) (mulQ (subQ (3, 4) (mulQ (nthQ (s.1.getD k []) (k - 1)) (nthQ (s.1.getD k []) (k - 1)))) (nthQ s.2 (k - 1))) := rfl
  have CM1 := fun W => iMultiplyRatios_c (nthQ (s.1.getD k []) (k - 1)) (nthQ (s.1.getD k []) (k - 1)) W
  have CS := fun W => sub_c (3, 4) (mulQ (nthQ (s.1.getD k []) (k - 1)) (nthQ (s.1.getD k []) (k - 1))) W
  have CM2 := fun W => iMultiplyRatios_c (subQ (3, 4) (mulQ (nthQ (s.1.getD k []) (k - 1)) (nthQ (s.1.getD k []) (k - 1)))) (nthQ s.2 (k - 1)) W
  have CC := fun W => iCmp_c (nthQ s.2 k) (mulQ (subQ (3, 4) (mulQ (nthQ (s.1.getD k []) (k - 1)) (nthQ (s.1.getD k []) (k - 1)))) (nthQ s.2 (k - 1))) W
  rw [← hord] at CC
  have hc4 : ordS s k = -1 ∨ ordS s k = 0 ∨ ordS s k = 1 ∨ ordS s k = 2 := cmpQ_four _ _
  generalize ordS s k = C at *
  have HC4 := Lib.hid hc4
  clear hc4
  generalize mulQ (subQ (3, 4) (mulQ (nthQ (s.1.getD k []) (k - 1)) (nthQ (s.1.getD k []) (k - 1)))) (nthQ s.2 (k - 1)) = y3 at *
  generalize subQ (3, 4) (mulQ (nthQ (s.1.getD k []) (k - 1)) (nthQ (s.1.getD k []) (k - 1))) = y2 at *
  generalize mulQ (nthQ (s.1.getD k []) (k - 1)) (nthQ (s.1.getD k []) (k - 1)) = y1 at *
  generalize nthQ (s.1.getD k []) (k - 1) = a at *
  generalize nthQ s.2 (k - 1) = d at *
  generalize nthQ s.2 k = u at *
  have CM1' := Lib.hid CM1
  have CM2' := Lib.hid CM2
  have CS' := Lib.hid CS
  have CC' := Lib.hid CC
  have hk1 : IntKind.i64.wrap ((k : Int) - 1) = (k : Int) - 1 := IntWalk.i64_in _ (by omega)
  obtain ⟨k', rfl⟩ : ∃ k', k = k' + 1 := ⟨k - 1, by omega⟩
  simp only [Nat.add_sub_cancel] at j0 j1 s0 s1
  have hkc : ((k' + 1 : Nat) : Int) = (k' : Int) + 1 := by omega
  have hk2 : ((k' : Int) + 1 - 1) = (k' : Int) := by omega
  have hk3 : (k' : Int) + 1 < (R : Int) := by omega
  have hk4 : (k' : Int) < (R : Int) := by omega
  have hk5 : ((k' : Int) + 1).toNat = k' + 1 := by omega
  have hk6 : IntKind.i64.wrap ((k' : Int) + 1 - 1) = (k' : Int) := by rw [hk2]; exact IntWalk.i64_in _ (by omega)
  have hk7 : IntKind.i64.wrap (k' : Int) = (k' : Int) := IntWalk.i64_in _ (by omega)
  have hk8 : ¬ ((k' : Int) < 0) := by omega
  have hk9 : (0 : Int) ≤ (k' : Int) := by omega
  clear hw1 hord CM1 CM2 CS CC hl1 hl2 hrow
  obtain ⟨o0, o1⟩ := mo.cells
  go_enter Tryz.func83, Tryz.ntmps83
  go_upto_region 1 with fail
  rw [← HW1.out]
  go_wp2_with fail
  obtain ⟨wj, hwj⟩ : ∃ wj, wj = w1.alloc (.cells #[.int .i64 a.1, .int .i64 a.2] 79) := ⟨_, rfl⟩
  rw [← hwj]
  have g1j : Grows w1 wj := by rw [hwj]; exact bel0
  have qa : QBox wj w1.heap.size a := by rw [hwj]; exact QBox.new_ _ _ _ rfl
  have moj := mo.grows g1j
  have s0j := ((bcell g1j).1 bs (fs + k' * 2) hbs).trans s0
  have s1j := ((bcell g1j).1 bs (fs + k' * 2 + 1) hbs).trans s1
  have u0j := ((bcell g1j).1 bs (fs + (k' + 1) * 2) hbs).trans u0
  have u1j := ((bcell g1j).1 bs (fs + (k' + 1) * 2 + 1) hbs).trans u1
  have hbsj : bs < wj.heap.size := by have := Below.size g1j; omega
  have HK := Lib.hid fun W (g : Grows wj W) => acc_keep (qa.grows g) (moj.grows g) (((bcell g).1 bs (fs + k' * 2) hbsj).trans s0j) (((bcell g).1 bs (fs + k' * 2 + 1) hbsj).trans s1j)
  clear hwj o0 o1 m0 j0 j1 s0 s1 u0 u1
  obtain ⟨a0, a1⟩ := qa.cells
  obtain ⟨o0, o1⟩ := moj.cells
  go_cut [7] (fun s7 wx => ∃ (g : Nat), s7 = .pointer (some ⟨g, 0, none⟩) ∧ QBox wx g y3 ∧ Grows wj wx)
  case first =>
    go_region_held3 (fun W => W.cell? ⟨w1.heap.size, 0, none⟩ = some (.int .i64 a.1) ∧ W.cell? ⟨w1.heap.size, 1, none⟩ = some (.int .i64 a.2) ∧ W.cell? ⟨w.heap.size, 1, none⟩ = some (.slice (some ⟨bs, fs, none⟩) R cs) ∧ W.cell? ⟨bs, fs + k' * 2, none⟩ = some (.int .i64 d.1) ∧ W.cell? ⟨bs, fs + k' * 2 + 1, none⟩ = some (.int .i64 d.2)) ((refine HK.out _ ?_; first | exact bel3 g8 g7 g6 | exact bel2 g7 g6 | exact bel1 g6 | exact bel0))
      (first
       | (go_at_call 128; (with_reducible refine (CM1'.out _).mono ?_); rintro e w6 ⟨rfl, g6⟩; have z6 := Below.size g6; (try simp at z6); (try (have q := QBox.grows (QBox.new_ wj (0, 0) 79 rfl) (w' := w6) (Grows.trans (show Grows _ _ from (Below.refl _ _).drew) g6))))
       | (go_at_call 127; (with_reducible refine (CS'.out _).mono ?_); rintro e w7 ⟨rfl, g7⟩; have z7 := Below.size g7; (try simp at z7); (first | (replace q := q.grows g7) | (have q := QBox.grows (QBox.new_ w6 (0, 0) 79 rfl) g7) | skip))
       | (go_at_call 128; (with_reducible refine (CM2'.out _).mono ?_); rintro e w8 ⟨rfl, g8⟩; have z8 := Below.size g8; (try simp at z8); (first | (replace q := q.grows g8) | (have q := QBox.grows (QBox.new_ w7 (0, 0) 79 rfl) g8) | skip); (try (obtain ⟨q0, q1⟩ := q.cells; have qf := q.fz; have ql := q.lt))))
    all_goals
      go_wp2_with fail
      go_meet
      exact ⟨_, rfl, by first | exact QBox.put q _ | exact QBox.new_ _ _ _ rfl | exact QBox.put (QBox.new_ _ (0, 0) _ rfl) _, by exact bel3 g8 g7 g6⟩
  case rest =>
    obtain ⟨g, rfl, qy, gc⟩ := hcut
    have x0 := ext_is ((moj.grows gc).c1)
    have x1 := ext_is (((bcell gc).1 bs (fs + (k' + 1) * 2) hbsj).trans u0j)
    have x2 := ext_is (((bcell gc).1 bs (fs + (k' + 1) * 2 + 1) hbsj).trans u1j)
    have x3 := ext_is qy.c0
    have x4 := ext_is qy.c1
    clear a0 a1 o0 o1
    go_wp2_with fail
    ((refine wp_region_ext (by kernel_rfl) (by kernel_rfl) ?_); (repeat (go_big_quiet_step ((go_at_call 153; with_reducible exact extC (CC'.out _))))); refine wpQuiet_nil ?_; rintro w9 ⟨w90, hw90⟩; have g9 := grows_of_ext hw90; clear hw90 w90)
    rcases HC4.out with rfl | rfl | rfl | rfl
    all_goals
      go_wp2_with fail
      go_ret2
      exact ⟨by simp, by exact bel4 g9 gc g1j HG⟩
theorem l19Good_c (m last sq : Q2) (w : World) :
    Calls Tryz.prog 79 #[.agg #[.int .i64 m.1, .int .i64 m.2], .agg #[.int .i64 last.1, .int .i64 last.2], .agg #[.int .i64 sq.1, .int .i64 sq.2]] w fun e w' => e = .returned (.tuple #[.bool (ordQ m last sq == 0 || ordQ m last sq == 1), .bool (ordQ m last sq != 2)]) ∧ Grows w w' := by
  obtain ⟨w1, hw1⟩ : ∃ w1, w1 = ((w.alloc (.cells #[.int .i64 m.1, .int .i64 m.2] 79)).alloc (.cells #[.int .i64 last.1, .int .i64 last.2] 79)).alloc (.cells #[.int .i64 sq.1, .int .i64 sq.2] 79) := ⟨_, rfl⟩
  have mm : QBox w1 w.heap.size m := by rw [hw1]; exact ((QBox.new_ w m 79 rfl).grows ((Below.refl _ _).alloc (Nat.le_refl _) _)).grows ((Below.refl _ _).alloc (Nat.le_refl _) _)
  have ml : QBox w1 (w.heap.size + 1) last := by rw [hw1]; exact (QBox.new_ _ last 79 (by simp)).grows ((Below.refl _ _).alloc (Nat.le_refl _) _)
  have ms : QBox w1 (w.heap.size + 1 + 1) sq := by rw [hw1]; exact QBox.new_ _ sq 79 (by simp)
  have HG : Grows w w1 := by rw [hw1]; exact bel0
  have HW1 := Lib.hid hw1
  clear hw1
  have CM1 := Lib.hid fun W => sMultiplyRatios_c m m W
  have CN := Lib.hid fun W => sNeg_c (mulQ m m) W
  have CA := Lib.hid fun W => sAddRatios_c (3, 4) (negQ (mulQ m m)) W
  have CM2 := fun W => sMultiplyRatios_c (addQ (3, 4) (negQ (mulQ m m))) last W
  have CC := fun W => sCmp_c sq (mulQ (addQ (3, 4) (negQ (mulQ m m))) last) W
  have hc4 : ordQ m last sq = -1 ∨ ordQ m last sq = 0 ∨ ordQ m last sq = 1 ∨ ordQ m last sq = 2 := cmpQ_four _ _
  change ∀ W, Calls Tryz.prog 151 _ W (fun e w' => e = .returned (.int .i64 (ordQ m last sq)) ∧ Grows W w') at CC
  generalize ordQ m last sq = C at *
  have HC4 := Lib.hid hc4
  have CC' := Lib.hid CC
  have CM2' := Lib.hid CM2
  clear hc4 CC CM2
  generalize mulQ (addQ (3, 4) (negQ (mulQ m m))) last = y3 at *
  generalize addQ (3, 4) (negQ (mulQ m m)) = y2 at *
  generalize negQ (mulQ m m) = y1 at *
  generalize mulQ m m = y0 at *
  go_enter Tryz.func79, Tryz.ntmps79
  go_upto_region 1 with fail
  rw [← HW1.out]
  obtain ⟨mm_0, mm_1⟩ := mm.cells; have mm_l := mm.lt
  obtain ⟨ml_0, ml_1⟩ := ml.cells; have ml_l := ml.lt
  obtain ⟨ms_0, ms_1⟩ := ms.cells; have ms_l := ms.lt
  go_wp2_with fail
  refine (CM1.out _).mono ?_; rintro e w2 ⟨rfl, g_w2⟩
  have s_w2 := Below.size g_w2; (try simp at s_w2)
  clear mm_0 mm_1 mm_l
  replace mm := mm.grows (w' := w2) (by exact bel1 g_w2)
  obtain ⟨mm_0, mm_1⟩ := mm.cells; have mm_l := mm.lt
  clear ml_0 ml_1 ml_l
  replace ml := ml.grows (w' := w2) (by exact bel1 g_w2)
  obtain ⟨ml_0, ml_1⟩ := ml.cells; have ml_l := ml.lt
  clear ms_0 ms_1 ms_l
  replace ms := ms.grows (w' := w2) (by exact bel1 g_w2)
  obtain ⟨ms_0, ms_1⟩ := ms.cells; have ms_l := ms.lt
  replace HG : Grows w w2 := by exact bel2 g_w2 HG
  have h_w2 := Below.size HG
  go_wp2_with fail
  refine (CN.out _).mono ?_; rintro e w3 ⟨rfl, g_w3⟩
  have s_w3 := Below.size g_w3; (try simp at s_w3)
  clear mm_0 mm_1 mm_l
  replace mm := mm.grows (w' := w3) (by exact bel1 g_w3)
  obtain ⟨mm_0, mm_1⟩ := mm.cells; have mm_l := mm.lt
  clear ml_0 ml_1 ml_l
  replace ml := ml.grows (w' := w3) (by exact bel1 g_w3)
  obtain ⟨ml_0, ml_1⟩ := ml.cells; have ml_l := ml.lt
  clear ms_0 ms_1 ms_l
  replace ms := ms.grows (w' := w3) (by exact bel1 g_w3)
  obtain ⟨ms_0, ms_1⟩ := ms.cells; have ms_l := ms.lt
  replace HG : Grows w w3 := by exact bel2 g_w3 HG
  have h_w3 := Below.size HG
  go_wp2_with fail
  refine (CA.out _).mono ?_; rintro e w4 ⟨rfl, g_w4⟩
  have s_w4 := Below.size g_w4; (try simp at s_w4)
  clear mm_0 mm_1 mm_l
  replace mm := mm.grows (w' := w4) (by exact bel1 g_w4)
  obtain ⟨mm_0, mm_1⟩ := mm.cells; have mm_l := mm.lt
  clear ml_0 ml_1 ml_l
  replace ml := ml.grows (w' := w4) (by exact bel1 g_w4)
  obtain ⟨ml_0, ml_1⟩ := ml.cells; have ml_l := ml.lt
  clear ms_0 ms_1 ms_l
  replace ms := ms.grows (w' := w4) (by exact bel1 g_w4)
  obtain ⟨ms_0, ms_1⟩ := ms.cells; have ms_l := ms.lt
  replace HG : Grows w w4 := by exact bel2 g_w4 HG
  have h_w4 := Below.size HG
  go_upto_region 2 with fail
  obtain ⟨w5, hw5⟩ : ∃ w5, w5 = w4.alloc (.cells #[.int .i64 y2.1, .int .i64 y2.2] 79) := ⟨_, rfl⟩
  have mx : QBox w5 w4.heap.size y2 := by rw [hw5]; exact QBox.new_ _ _ _ rfl
  have g45 : Grows w4 w5 := by rw [hw5]; exact bel0
  rw [← hw5]
  clear hw5
  have s_w5 := Below.size g45; (try simp at s_w5)
  clear mm_0 mm_1 mm_l
  replace mm := mm.grows (w' := w5) (by exact bel1 g45)
  obtain ⟨mm_0, mm_1⟩ := mm.cells; have mm_l := mm.lt
  clear ml_0 ml_1 ml_l
  replace ml := ml.grows (w' := w5) (by exact bel1 g45)
  obtain ⟨ml_0, ml_1⟩ := ml.cells; have ml_l := ml.lt
  clear ms_0 ms_1 ms_l
  replace ms := ms.grows (w' := w5) (by exact bel1 g45)
  obtain ⟨ms_0, ms_1⟩ := ms.cells; have ms_l := ms.lt
  replace HG : Grows w w5 := by exact bel2 g45 HG
  have h_w5 := Below.size HG
  obtain ⟨mx_0, mx_1⟩ := mx.cells; have mx_l := mx.lt
  have x0 := ext_is ms_0
  have x1 := ext_is ms_1
  have x2 := ext_is ml_0
  have x3 := ext_is ml_1
  have x4 := ext_is mx_0
  have x5 := ext_is mx_1
  ((refine wp_region_ext (by kernel_rfl) (by kernel_rfl) ?_); (repeat (go_big_quiet_step ((first | (go_at_call 144; with_reducible exact extC (CM2'.out _)) | (go_at_call 151; with_reducible exact extC (CC'.out _)))))); refine wpQuiet_nil ?_; rintro w9 ⟨w90, hw90⟩; have g9 := grows_of_ext hw90; clear hw90 w90)
  rcases HC4.out with rfl | rfl | rfl | rfl
  all_goals
    go_wp2_with fail
    go_ret2
    exact ⟨by simp, by exact bel2 g9 HG⟩
end
end Go.Proofs.YtfilbjbogggaoaaGreat

/- Plain: operations on columns are those on the rows of the transposed matrix. -/
namespace Go.Proofs.YtfilbjbogggaoaaGreat
set_option linter.unusedSimpArgs false
set_option linter.unusedVariables false
open Go.RowKit

theorem trL_length (R C : Nat) (l : List Int) : (trL R C l).length = C * R := tab_length _ _ _
theorem trL_cell {R C i j : Nat} {l : List Int} (hi : i < R) (hj : j < C) : nth (trL R C l) (j * R + i) = nth l (i * C + j) := by
  unfold trL; rw [tab_nth _ hj hi]
theorem trL_trL {R C : Nat} {l : List Int} (h : l.length = R * C) : trL C R (trL R C l) = l := by
  refine (tab_ext h fun i j hi hj => ?_).symm
  exact (trL_cell hi hj).symm
theorem trL_num {R C : Nat} {l : List Int} (hl : l.length = R * C) (h : allNum l = true) : allNum (trL R C l) = true := by
  rw [allNum_iff] at *
  intro k hk
  rw [trL_length] at hk
  obtain ⟨h1, h2, h3⟩ := idx_split hk
  rw [h3, trL_cell h2 h1]
  exact h _ (by rw [hl]; exact idx_lt h2 h1)
theorem trL_num' {R C : Nat} {l : List Int} (hl : l.length = R * C) : allNum (trL R C l) = allNum l := by
  cases h : allNum l
  · cases h2 : allNum (trL R C l)
    · rfl
    · have := trL_num (trL_length R C l) h2
      rw [trL_trL hl, h] at this
      cases this
  · exact trL_num hl h
theorem trL_id (R : Nat) : trL R R (idL R) = idL R := by
  refine tab_ext (trL_length _ _ _) fun i j hi hj => ?_
  rw [trL_cell hj hi]
  unfold idL
  rw [tab_nth _ hj hi]
  by_cases e : i = j
  · rw [if_pos e, if_pos e.symm]
  · rw [if_neg e, if_neg fun h => e h.symm]
theorem addCT_tr {R C i j : Nat} {t : Int} {l : List Int} (hi : i < C) (hj : j < C) : trL C R (addT C R i j t (trL R C l)) = addCT R C i j t l := by
  unfold addCT
  refine tab_ext (trL_length _ _ _) fun a b ha hb => ?_
  rw [trL_cell hb ha]
  unfold addT
  rw [tab_nth _ hb ha, trL_cell ha hi, trL_cell ha hj, trL_cell ha hb]
theorem swpCT_tr {R C i j : Nat} {l : List Int} (hi : i < C) (hj : j < C) : trL C R (swpT C R i j (trL R C l)) = swpCT R C i j l := by
  unfold swpCT
  refine tab_ext (trL_length _ _ _) fun a b ha hb => ?_
  rw [trL_cell hb ha]
  unfold swpT
  rw [tab_nth _ hb ha, trL_cell ha hi, trL_cell ha hj, trL_cell ha hb]
end Go.Proofs.YtfilbjbogggaoaaGreat

/- Plain: the reduction of a form, step by step; operations on columns are those on the rows of the transposed. -/
namespace Go.Proofs.YtfilbjbogggaoaaGreat
set_option linter.unusedSimpArgs false
set_option linter.unusedVariables false
open Go.RowKit

/-! ### both rows and columns -/
def bothA (R i j : Nat) (t : Int) (s : LL) : Option LL := (addS R R i j t s).bind fun x => two (addCT R R i j t x.1) x.2
def bothW (R i j : Nat) (s : LL) : LL := (swpCT R R i j (swpT R R i j s.1), swpT R R i j s.2)
theorem bothA_two {R i j : Nat} {t : Int} {s : LL} (h : Ok2 R R s) : bothA R i j t s = two (addCT R R i j t (addT R R i j t s.1)) (addT R R i j t s.2) := by
  unfold bothA addS
  cases h1 : two (addT R R i j t s.1) (addT R R i j t s.2) with
  | none =>
    refine (none_two ?_).symm
    rcases two_none h1 with h2 | h2
    · exact .inl (addCT_stay (addT_length _ _ _ _ _ _) (addT_mkd h.l1 (mkd_of h.n1)) h2)
    · exact .inr h2
  | some x =>
    obtain ⟨rfl, _, _⟩ := two_some h1
    rfl
theorem bothA_ok {R i j : Nat} {t : Int} {s s' : LL} (h : bothA R i j t s = some s') : Ok2 R R s' := by
  unfold bothA at h
  obtain ⟨x, h1, h2⟩ := Option.bind_eq_some_iff.1 h
  have hx := addS_ok h1
  obtain ⟨rfl, h3, h4⟩ := two_some h2
  exact ⟨addCT_length _ _ _ _ _ _, hx.l2, h3, h4⟩
theorem bothW_ok {R i j : Nat} {s : LL} (h : Ok2 R R s) (hi : i < R) (hj : j < R) : Ok2 R R (bothW R i j s) :=
  ⟨swpCT_length _ _ _ _ _, swpT_length _ _ _ _ _, swpCT_num (swpT_length _ _ _ _ _) hi hj (swpT_num h.l1 hi hj h.n1), swpT_num h.l2 hi hj h.n2⟩

/-! ### a step -/
theorem round_num {q : Q2} (h : okQ q = true) : isNum (roundQ q) = true := by
  have hb := okQ_bd h
  unfold roundQ
  rw [h, if_pos rfl, isNum_iff]
  constructor
  · exact (Int.le_ediv_iff_mul_le (by omega)).2 (by omega)
  · exact Int.lt_add_one_iff.1 (Int.ediv_lt_of_lt_mul (by omega) (by omega))
/-- the last place before j whose coefficient is no ratio, or not nearest to 0 -/
def fstJ (row : List Q2) : Nat → Option Nat
  | 0 => none
  | j + 1 => if okQ (nthQ row j) && decide (roundQ (nthQ row j) = 0) then fstJ row j else some j
theorem fstJ_next {row : List Q2} {j : Nat} (h1 : okQ (nthQ row j) = true) (h2 : roundQ (nthQ row j) = 0) : fstJ row (j + 1) = fstJ row j := by rw [fstJ, h1, h2]; rfl
theorem fstJ_bad {row : List Q2} {j : Nat} (h1 : okQ (nthQ row j) = false) : fstJ row (j + 1) = some j := by rw [fstJ, h1]; rfl
theorem fstJ_here {row : List Q2} {j : Nat} (h1 : okQ (nthQ row j) = true) (h2 : roundQ (nthQ row j) ≠ 0) : fstJ row (j + 1) = some j := by rw [fstJ, h1]; simp [h2]
theorem fstJ_lt {row : List Q2} {k j : Nat} (h : fstJ row k = some j) : j < k := by
  induction k with
  | zero => cases h
  | succ k ih =>
    rw [fstJ] at h
    split at h
    · have := ih h; omega
    · cases h; omega
abbrev RS := LL × Nat
def redS (R : Nat) (mu : List (List Q2) × List Q2) (x : RS) : Option RS :=
  match fstJ (mu.1.getD x.2 []) x.2 with
  | some j => if okQ (nthQ (mu.1.getD x.2 []) j) then (bothA R x.2 j (-(roundQ (nthQ (mu.1.getD x.2 []) j))) x.1).map fun s => (s, x.2) else none
  | none => if ordS mu x.2 = 2 then none else if ordS mu x.2 = 0 ∨ ordS mu x.2 = 1 then some (x.1, x.2 + 1) else some (bothW R x.2 (x.2 - 1) x.1, max 1 (x.2 - 1))
theorem redS_bad {R k j : Nat} {mu : List (List Q2) × List Q2} {s : LL} (h : fstJ (mu.1.getD k []) k = some j) (h2 : okQ (nthQ (mu.1.getD k []) j) = false) : redS R mu (s, k) = none := by
  unfold redS; simp only [h, h2]; rfl
theorem redS_add {R k j : Nat} {mu : List (List Q2) × List Q2} {s : LL} (h : fstJ (mu.1.getD k []) k = some j) (h2 : okQ (nthQ (mu.1.getD k []) j) = true) : redS R mu (s, k) = (bothA R k j (-(roundQ (nthQ (mu.1.getD k []) j))) s).map fun s => (s, k) := by
  unfold redS; simp only [h, h2, if_true]
theorem redS_unknown {R k : Nat} {mu : List (List Q2) × List Q2} {s : LL} (h : fstJ (mu.1.getD k []) k = none) (h2 : ordS mu k = 2) : redS R mu (s, k) = none := by
  unfold redS; simp only [h, h2, if_true]
theorem redS_good {R k : Nat} {mu : List (List Q2) × List Q2} {s : LL} (h : fstJ (mu.1.getD k []) k = none) (h2 : ordS mu k = 0 ∨ ordS mu k = 1) : redS R mu (s, k) = some (s, k + 1) := by
  unfold redS; simp only [h]
  rw [if_neg (by omega), if_pos h2]
theorem redS_swap {R k : Nat} {mu : List (List Q2) × List Q2} {s : LL} (h : fstJ (mu.1.getD k []) k = none) (h2 : ordS mu k ≠ 2) (h3 : ¬ (ordS mu k = 0 ∨ ordS mu k = 1)) : redS R mu (s, k) = some (bothW R k (k - 1) s, max 1 (k - 1)) := by
  unfold redS; simp only [h]
  rw [if_neg h2, if_neg h3]
theorem redS_ok {R : Nat} {mu : List (List Q2) × List Q2} {x y : RS} (hx : Ok2 R R x.1) (h1 : 1 ≤ x.2) (h2 : x.2 < R) (h : redS R mu x = some y) : Ok2 R R y.1 ∧ 1 ≤ y.2 ∧ y.2 ≤ R := by
  obtain ⟨s, k⟩ := x
  simp only at hx h1 h2
  cases hf : fstJ (mu.1.getD k []) k with
  | some j =>
    cases ho : okQ (nthQ (mu.1.getD k []) j)
    · rw [redS_bad hf ho] at h; cases h
    · rw [redS_add hf ho] at h
      obtain ⟨s', h3, rfl⟩ := Option.map_eq_some_iff.1 h
      exact ⟨bothA_ok h3, h1, by simp only; omega⟩
  | none =>
    by_cases h3 : ordS mu k = 2
    · rw [redS_unknown hf h3] at h; cases h
    · by_cases h4 : ordS mu k = 0 ∨ ordS mu k = 1
      · rw [redS_good hf h4] at h; cases h
        exact ⟨hx, by simp only; omega, by simp only; omega⟩
      · rw [redS_swap hf h3 h4] at h; cases h
        exact ⟨bothW_ok hx h2 (by omega), by simp only; omega, by simp only; omega⟩

/-! ### all steps -/
def rdgF (R : Nat) : Nat → RS → Option LL
  | 0, x => if x.2 < R then none else some x.1
  | f + 1, x => if x.2 < R then (accF R x.1.1 R).bind fun mu => (redS R mu x).bind (rdgF R f) else some x.1
theorem rdgF_end {R f : Nat} {x : RS} (h : ¬ x.2 < R) : rdgF R f x = some x.1 := by cases f <;> (rw [rdgF, if_neg h])
theorem rdgF_out {R : Nat} {x : RS} (h : x.2 < R) : rdgF R 0 x = none := by rw [rdgF, if_pos h]
theorem rdgF_acc {R f : Nat} {x : RS} (h : x.2 < R) (h2 : accF R x.1.1 R = none) : rdgF R f x = none := by
  cases f
  · exact rdgF_out h
  · rw [rdgF, if_pos h, h2]; rfl
theorem rdgF_step {R f : Nat} {x : RS} {mu : List (List Q2) × List Q2} (h : x.2 < R) (h2 : accF R x.1.1 R = some mu) : rdgF R (f + 1) x = (redS R mu x).bind (rdgF R f) := by
  rw [rdgF, if_pos h, h2]; rfl
theorem rdgF_ok {R f : Nat} {x : RS} {s : LL} (hx : Ok2 R R x.1) (h1 : 1 ≤ x.2) (h : rdgF R f x = some s) : Ok2 R R s := by
  induction f generalizing x with
  | zero =>
    rw [rdgF] at h
    split at h
    · cases h
    · cases h; exact hx
  | succ f ih =>
    by_cases h2 : x.2 < R
    · cases h3 : accF R x.1.1 R with
      | none => rw [rdgF_acc h2 h3] at h; cases h
      | some mu =>
        rw [rdgF_step h2 h3] at h
        obtain ⟨y, h4, h5⟩ := Option.bind_eq_some_iff.1 h
        obtain ⟨h6, h7, _⟩ := redS_ok hx h1 h2 h4
        exact ih h6 h7 h5
    · rw [rdgF_end h2] at h; cases h; exact hx
def rdgO (g : MX) : Option (MX × MX) :=
  if isDef g.r g.c g.l then (rdgF g.r.toNat 200 ((g.l, idL g.r.toNat), 1)).map fun s => (⟨g.r, g.r, s.1⟩, ⟨g.r, g.r, s.2⟩) else none
theorem rdgO_no {g : MX} (h : isDef g.r g.c g.l = false) : rdgO g = none := by unfold rdgO; rw [h]; rfl
theorem rdgO_yes {R : Nat} {l : List Int} (h : isDef R R l = true) : rdgO ⟨R, R, l⟩ = (rdgF R 200 ((l, idL R), 1)).map fun s => (⟨R, R, s.1⟩, ⟨R, R, s.2⟩) := by
  unfold rdgO; simp only [h, if_true, Int.toNat_natCast]
theorem rdgO_ok {g : MX} {x : MX × MX} (h : rdgO g = some x) : ∃ (R : Nat) (s : LL), g.r = R ∧ g.c = R ∧ R ≤ 24 ∧ x = (⟨R, R, s.1⟩, ⟨R, R, s.2⟩) ∧ Ok2 R R s := by
  cases hd : isDef g.r g.c g.l
  · rw [rdgO_no hd] at h; cases h
  · obtain ⟨_, R, e1, e2, hR, hlen, hn⟩ := isSq_nat (isDef_sq hd)
    obtain ⟨r, c, l⟩ := g
    simp only at e1 e2 hlen hn hd
    subst e1 e2
    rw [rdgO_yes hd] at h
    obtain ⟨s, h1, rfl⟩ := Option.map_eq_some_iff.1 h
    exact ⟨R, s, rfl, rfl, by omega, rfl, rdgF_ok (x := ((l, idL R), 1)) ⟨hlen, idL_length R, (allNum_iff _).2 hn, idL_num R⟩ (Nat.le_refl _) h1⟩
end Go.Proofs.YtfilbjbogggaoaaGreat
