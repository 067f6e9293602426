/- Contracts and lemmas, put together. -/
import Derived.Test.YtpgoefdeodoacaaPkM
import Derived.Test.YtpgoefdeodoacaaQClP
import Derived.Test.YtpgoefdeodoacaaQRto
/- The closest vectors as chosen places of the rows of a box; rows picked out of owned rows. -/
namespace Go.Proofs.Ytpgoefdeodoacaa
set_option linter.unusedSimpArgs false
set_option linter.unusedVariables false
open Go.RowKit

def clT (dx : Int) (okx : Bool) (st : List Nat × Int) (i : Nat) : List Nat × Int := if okx then (if dx < st.2 then ([i], dx) else if dx = st.2 then (st.1 ++ [i], st.2) else st) else st
theorem clT_no {dx : Int} {st : List Nat × Int} {i : Nat} : clT dx false st i = st := rfl
theorem clT_far {dx : Int} {okx : Bool} {st : List Nat × Int} {i : Nat} (h2 : st.2 < dx) : clT dx okx st i = st := by
  unfold clT
  split
  · rw [if_neg (by omega), if_neg (by omega)]
  · rfl
theorem clT_less {dx : Int} {st : List Nat × Int} {i : Nat} (h2 : dx < st.2) : clT dx true st i = ([i], dx) := by unfold clT; rw [if_pos rfl, if_pos h2]
theorem clT_same {dx : Int} {st : List Nat × Int} {i : Nat} (h2 : dx = st.2) : clT dx true st i = (st.1 ++ [i], st.2) := by unfold clT; rw [if_pos rfl, if_neg (by omega), if_pos h2]
def clJ (d : List Int → Int) (ok : List Int → Bool) (rows : List (List Int)) (best : Int) : Nat → List Nat × Int
  | 0 => ([], best)
  | i + 1 => clT (d (rows.getD i [])) (ok (rows.getD i [])) (clJ d ok rows best i) i
theorem clJ_in {d : List Int → Int} {ok : List Int → Bool} {rows : List (List Int)} {best : Int} {i : Nat} : (∀ j ∈ (clJ d ok rows best i).1, j < i) ∧ (clJ d ok rows best i).1.Nodup ∧ (clJ d ok rows best i).1.length ≤ i := by
  induction i with
  | zero => exact ⟨fun j hj => by simp [clJ] at hj, List.nodup_nil, Nat.le_refl _⟩
  | succ i ih =>
    obtain ⟨h1, h2, h3⟩ := ih
    have keep : (∀ j ∈ (clJ d ok rows best i).1, j < i + 1) ∧ (clJ d ok rows best i).1.Nodup ∧ (clJ d ok rows best i).1.length ≤ i + 1 := ⟨fun j hj => Nat.lt_succ_of_lt (h1 j hj), h2, Nat.le_succ_of_le h3⟩
    rw [clJ]
    unfold clT
    split
    · split
      · exact ⟨fun j hj => by simp at hj; omega, by simp, by simp⟩
      · split
        · refine ⟨fun j hj => ?_, ?_, ?_⟩
          · rw [List.mem_append] at hj
            rcases hj with hj | hj
            · exact Nat.lt_succ_of_lt (h1 j hj)
            · simp at hj; omega
          · refine List.nodup_append.2 ⟨h2, by simp, fun a ha b hb => ?_⟩
            simp at hb
            have := h1 a ha
            omega
          · simp; exact h3
        · exact keep
    · exact keep
def dF (b : MX) (t x : List Int) : Int := dVal b.r b.c b.l x t
def dK (b : MX) (t x : List Int) : Bool := dOk b.r b.c b.l x t
def clR (b : MX) (t : List Int) (l : List Q2) (s : List Int) : List (List Int) := boxF (lowL l s l.length) (highL l s l.length) l.length
def clO (b : MX) (t : List Int) (l : List Q2) (s : List Int) : List (List Int) × Int :=
  ((clJ (dF b t) (dK b t) (clR b t l s) (dF b t (rndL l)) (clR b t l s).length).1.map fun j => (clR b t l s).getD j [], (clJ (dF b t) (dK b t) (clR b t l s) (dF b t (rndL l)) (clR b t l s).length).2)
def closS (b : MX) (t : List Int) (l : List Q2) (s : List Int) : Option (List (List Int) × Int) := if boxB (lowL l s l.length) (highL l s l.length) l.length then some (clO b t l s) else none
def closL (b : MX) (t : List Int) (l : List Q2) : Option (List (List Int) × Int) := if dK b t (rndL l) then (boxO (oM (gmO b)) (dF b t (rndL l))).bind (closS b t l) else none
def closO (b : MX) (t : List Int) : Option (List (List Int) × Int) := (prjO b t).bind (closL b t)
theorem closO_none {b : MX} {t : List Int} (h : none = prjO b t) : closO b t = none := by unfold closO; rw [← h]; rfl
theorem closO_some {b : MX} {t : List Int} {l : List Q2} (h : some l = prjO b t) : closO b t = closL b t l := by unfold closO; rw [← h]; rfl
theorem closL_far {b : MX} {t : List Int} {l : List Q2} (h : false = dK b t (rndL l)) : closL b t l = none := by unfold closL; rw [← h]; rfl
theorem closL_none {b : MX} {t : List Int} {l : List Q2} (h2 : none = boxO (oM (gmO b)) (dF b t (rndL l))) : closL b t l = none := by
  unfold closL
  split
  · rw [← h2]; rfl
  · rfl
theorem closL_some {b : MX} {t : List Int} {l : List Q2} {s : List Int} (h : true = dK b t (rndL l)) (h2 : some s = boxO (oM (gmO b)) (dF b t (rndL l))) : closL b t l = closS b t l s := by unfold closL; rw [← h, if_pos rfl, ← h2]; rfl
theorem closS_big {b : MX} {t : List Int} {l : List Q2} {s : List Int} (h : boxB (lowL l s l.length) (highL l s l.length) l.length = false) : closS b t l s = none := by unfold closS; rw [h]; rfl
theorem closS_yes {b : MX} {t : List Int} {l : List Q2} {s : List Int} (h : boxB (lowL l s l.length) (highL l s l.length) l.length = true) : closS b t l s = some (clO b t l s) := by unfold closS; rw [h]; rfl
theorem prj_box {b : MX} {t : List Int} {l : List Q2} {s : List Int} {D : Int} (h : some l = prjO b t) (h2 : some s = boxO (oM (gmO b)) D) : s.length = l.length ∧ l.length ≤ 6 := by
  have hs6 := boxO_length h2.symm
  have h3 := h.symm
  unfold prjO at h3
  split at h3
  · rename_i hh
    simp only [Bool.and_eq_true] at hh
    obtain ⟨p, hp, h4⟩ := Option.bind_eq_some_iff.1 h3
    obtain ⟨q, hq, rfl⟩ := Option.map_eq_some_iff.1 h4
    have hok := mulO_ok hq
    obtain ⟨R, C, e1, e2, _, _, hl, _⟩ := isMat_ok hok
    obtain ⟨a, ha⟩ := Option.isSome_iff_exists.1 hh.1.2
    have ha2 : a.r = (oM (gmO b)).r := by
      unfold adjO at ha
      split at ha
      · cases ha; rfl
      · cases ha
    have hqr : q.r = a.r ∧ q.c = p.c := by
      rw [ha] at hq
      unfold mulO at hq
      split at hq
      · cases hq; exact ⟨rfl, rfl⟩
      · cases hq
    have hpc : p.c = 1 := by
      unfold mulO at hp
      split at hp
      · cases hp; rfl
      · cases hp
    have hsl : s.length = (oM (gmO b)).r.toNat := by
      have h5 := h2.symm
      unfold boxO at h5
      split at h5
      · exact bxP_length h5
      · cases h5
    rw [qsP_length]
    have e3 : C = 1 := by omega
    subst e3
    rw [Nat.mul_one] at hl
    have : (R : Int) = (oM (gmO b)).r := by rw [← e1, hqr.1, ha2]
    omega
  · cases h3
theorem floorQ_bd (q : Q2) : -400000000 ≤ floorQ q ∧ floorQ q ≤ 400000000 := by
  unfold floorQ
  split
  · rename_i h
    have hb := okQ_bd h
    constructor
    · exact (Int.le_ediv_iff_mul_le (by omega)).2 (by
        have : q.2 * 400000000 ≥ 1 * 400000000 := Int.mul_le_mul_of_nonneg_right hb.1 (by omega)
        rw [Int.neg_mul, Int.mul_comm]
        omega)
    · exact Int.lt_add_one_iff.1 (Int.ediv_lt_of_lt_mul (by omega) (by
        have : q.2 * 400000001 ≥ 1 * 400000001 := Int.mul_le_mul_of_nonneg_right hb.1 (by omega)
        rw [Int.mul_comm]
        omega))
  · omega
theorem lowL_nth {l : List Q2} {s : List Int} {n i : Nat} (h : i < n) : nth (lowL l s n) i = floorQ (nthQ l i) - nth s i := by
  show ((List.range n).map fun i => floorQ (nthQ l i) - nth s i).getD i 0 = _
  rw [List.getD_eq_getElem?_getD, List.getElem?_map, List.getElem?_range h]
  rfl
theorem highL_nth {l : List Q2} {s : List Int} {n i : Nat} (h : i < n) : nth (highL l s n) i = floorQ (nthQ l i) + 1 + nth s i := by
  show ((List.range n).map fun i => floorQ (nthQ l i) + 1 + nth s i).getD i 0 = _
  rw [List.getD_eq_getElem?_getD, List.getElem?_map, List.getElem?_range h]
  rfl
theorem clos_bd {l : List Q2} {s : List Int} (hs : ∀ i, i < s.length → 0 ≤ nth s i ∧ nth s i ≤ 20000) (hl : s.length = l.length) : ∀ i, i < l.length → nth (lowL l s l.length) i ≤ nth (highL l s l.length) i ∧ -1000000000 ≤ nth (lowL l s l.length) i ∧ nth (highL l s l.length) i ≤ 1000000000 := fun i hi => by
  rw [lowL_nth hi, highL_nth hi]
  have h1 := hs i (by omega)
  have h2 := floorQ_bd (nthQ l i)
  omega
/-! ### what the functions answer -/
def oC (o : Option (List (List Int) × Int)) : List (List Int) × Int := o.getD ([], 0)
def CloRet (o : Option (List (List Int) × Int)) (w : World) (e : Ending) (w' : World) : Prop := ∃ v vs, e = .returned (.tuple #[v, .int .i64 (oC o).2, .bool o.isSome]) ∧ RowsO w' w.heap.size v vs (oC o).1 ∧ Grows w w'
theorem cloRet_out {o : Option (List (List Int) × Int)} {w w' : World} {e : Ending} (h : CloRet o w e w') : ∃ v vs, e = .returned (.tuple #[v, .int .i64 (oC o).2, .bool o.isSome]) ∧ RowsO w' w.heap.size v vs (oC o).1 ∧ Grows w w' := h
def CloGet (o : Option (List (List Int) × Int)) (w : World) (e : Ending) (w' : World) : Prop := ∃ A c, e = .returned (.tuple #[.slice A (oC o).1.length c, .int .i64 (oC o).2, .bool o.isSome]) ∧ RdR RSI w' A (oC o).1 ∧ Grows w w'
theorem cloGet_out {o : Option (List (List Int) × Int)} {w w' : World} {e : Ending} (h : CloGet o w e w') : ∃ A c, e = .returned (.tuple #[.slice A (oC o).1.length c, .int .i64 (oC o).2, .bool o.isSome]) ∧ RdR RSI w' A (oC o).1 ∧ Grows w w' := h
theorem clO_len {b : MX} {t : List Int} {l : List Q2} {s : List Int} (h : boxB (lowL l s l.length) (highL l s l.length) l.length = true) : (clO b t l s).1.length ≤ 4000 := by
  unfold clO
  simp only
  rw [List.length_map]
  exact Nat.le_trans clJ_in.2.2 (boxB_len h)
theorem closO_at {b : MX} {t : List Int} {x : List (List Int) × Int} (h : closO b t = some x) : ∃ l s, l.length ≤ 6 ∧ boxB (lowL l s l.length) (highL l s l.length) l.length = true ∧ x = clO b t l s := by
  unfold closO at h
  obtain ⟨l, h1, h2⟩ := Option.bind_eq_some_iff.1 h
  unfold closL at h2
  split at h2
  · obtain ⟨s, h3, h4⟩ := Option.bind_eq_some_iff.1 h2
    unfold closS at h4
    split at h4
    · rename_i hb
      cases h4
      exact ⟨l, s, (prj_box h1.symm h3.symm).2, hb, rfl⟩
    · cases h4
  · cases h2
theorem closO_len {b : MX} {t : List Int} : (oC (closO b t)).1.length ≤ 4000 := by
  cases h : closO b t with
  | none => simp [oC]
  | some x =>
    obtain ⟨l, s, _, hb, rfl⟩ := closO_at h
    exact clO_len hb
theorem closO_row {b : MX} {t : List Int} : ∀ x ∈ (oC (closO b t)).1, x.length ≤ 1024 := by
  cases h : closO b t with
  | none => intro x hx; simp [oC] at hx
  | some x =>
    obtain ⟨l, s, h6, hb, rfl⟩ := closO_at h
    intro y hy
    change y ∈ (clO b t l s).1 at hy
    unfold clO at hy
    simp only at hy
    obtain ⟨j, hj, rfl⟩ := List.mem_map.1 hy
    have hlt := clJ_in.1 j hj
    have hm : (clR b t l s).getD j [] ∈ clR b t l s := by simp [List.getD, hlt]
    have := boxF_len (show (clR b t l s).getD j [] ∈ boxF (lowL l s l.length) (highL l s l.length) l.length from hm)
    omega
/-- picked rows -/
theorem RowsO.pick {w : World} {B B' H : Nat} {v o : Value} {vs : List Value} {L : List (List Int)} {js : List Nat} (h : RowsO w B v vs L) (ho : OwnV 22 w B' o (js.map fun j => vs.getD j (.slice none 0 0))) (hB : B ≤ B') (hj : ∀ j ∈ js, j < L.length) (hn : js.Nodup) (hfar : ∀ g, o.ownBlock = some g → H ≤ g)
    (hlow : ∀ (i : Nat) (u : Value), vs[i]? = some u → ∀ g, u.ownBlock = some g → g < H) : RowsO w B o (js.map fun j => vs.getD j (.slice none 0 0)) (js.map fun j => L.getD j []) := by
  have hl := h.len
  have key : ∀ (i : Nat) (u : Value), (js.map fun j => vs.getD j (.slice none 0 0))[i]? = some u → ∃ j, js[i]? = some j ∧ vs[j]? = some u ∧ j < L.length := fun i u hi => by
    rw [List.getElem?_map] at hi
    obtain ⟨j, h1, rfl⟩ := Option.map_eq_some_iff.1 hi
    have hlt := hj j (List.mem_iff_getElem?.2 ⟨i, h1⟩)
    exact ⟨j, h1, by simp [List.getD, show j < vs.length by omega], hlt⟩
  refine ⟨by simp, ho.less hB, fun i u x h1 h2 => ?_, fun i u h1 g hg e => ?_, fun i k a c ha hc hne g hg => ?_⟩
  · obtain ⟨j, h3, h4, h5⟩ := key i u h1
    rw [List.getElem?_map, h3] at h2
    cases h2
    exact h.row j u _ h4 (by simp [List.getD, h5])
  · obtain ⟨j, h3, h4, h5⟩ := key i u h1
    have h6 := hlow j u h4 g hg
    have h7 := hfar g e
    omega
  · obtain ⟨j, h3, h4, h5⟩ := key i a ha
    obtain ⟨m, h6, h7, h8⟩ := key k c hc
    refine h.nod j m a c h4 h7 (fun e => ?_) g hg
    subst e
    obtain ⟨hi, e1⟩ := List.getElem?_eq_some_iff.1 h3
    obtain ⟨hk, e2⟩ := List.getElem?_eq_some_iff.1 h6
    exact hne ((List.getElem_inj hn).1 (e1.trans e2.symm))
/-- out = append(out, x), whatever is told of the rows -/
theorem wpList_appX1 {ops : Array Oper} {rest : List Oper} {o : Oper} {a : Act} {Q : Exit → Act → World → Prop} (hgd : o.guard = none) (s x : Operand)
    (ho : o.op = .call { callee := .builtin .append, args := #[s, x], argTypes := #[46, 46] }) (w : World) (u : Value) (hu1 : u.oneCell' = true)
    (B : Nat) (v : Value) (vs : List Value) (hs : a.eval s = v) (hown : OwnV 22 w B v vs) (hx : a.eval x = .slice (some ⟨w.heap.size, 0, none⟩) 1 1)
    (hl : vs.length + 1 ≤ 1099511627776) (hB : B ≤ w.heap.size)
    (h : ∀ v' w', OwnV 22 w' B v' (vs ++ [u]) → w.grownBy w' v.ownBlock → (v'.ownBlock = v.ownBlock ∨ ∃ g, v'.ownBlock = some g ∧ w.heap.size ≤ g) → wpList Try.prog ops Q rest (a.put o.dst v') w') :
    wpList Try.prog ops Q (o :: rest) a (w.alloc (.cells #[u] 22)) := by
  obtain ⟨v', w', hrun, h2, h3, h4⟩ := run_appV1 22 46 und_ii info_is w o.type B v vs hown u hu1 hl hB
  refine wpList_plain hgd fun _ hK => ?_
  unfold Oper.wp execOp
  simp only [ho, resolve, invoke, builtin, Sem.run_bind, Sem.run_pure, Result.andThen_ok, List.map_toArray, List.map_cons, List.map_nil, hs, hx, hrun]
  exact hK _ _ (h v' w' h2 h3 h4)
theorem own_le {w : World} {B n cap : Nat} {A : Option Addr} {l : List Int} (h : Own w B (.slice A n cap) l) : n ≤ cap ∧ cap ≤ 9223372036854775807 := h.caps.2
theorem QBox.ownC {w w' : World} {b : Nat} {q : Q2} {r : Option Nat} (h : QBox w b q) (hg : w.grownBy w' r) (hne : r ≠ some b) : QBox w' b q := by
  have hk := hg.block b h.lt (fun e => hne e.symm)
  exact ⟨Nat.lt_of_lt_of_le h.lt hg.size, (World.cell?_of_block hk).trans h.c0, (World.cell?_of_block hk).trans h.c1, fun o => by
    have := h.fz o
    unfold World.frozen? at this ⊢
    simpa [hk] using this⟩
/-- out = append(out, q), at a step of a region that draws -/
theorem clo_keep {W w : World} {b bb o : Nat} {q : Q2} {y : Value} (h : QBox W b q) (hc : W.cell? ⟨bb, o, none⟩ = some y) (hb : bb < W.heap.size) (g : Grows W w) : w.cell? ⟨b, 0, none⟩ = some (.int .i64 q.1) ∧ w.cell? ⟨b, 1, none⟩ = some (.int .i64 q.2) ∧ w.cell? ⟨bb, o, none⟩ = some y :=
  ⟨(h.grows g).c0, (h.grows g).c1, (g.cell (p := ⟨bb, o, none⟩) hb).trans hc⟩
end Go.Proofs.Ytpgoefdeodoacaa
