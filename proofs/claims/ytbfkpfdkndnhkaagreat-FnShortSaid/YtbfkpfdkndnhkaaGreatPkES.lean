/- Contracts and lemmas, put together. -/
import Derived.Laws.CopyRow
import Derived.Laws.IdiomCopy
import Derived.Test.YtbfkpfdkndnhkaaGreatPkA
import Derived.Test.YtbfkpfdkndnhkaaGreatPkB
/- Contracts: rows of matrices as slices of them; copies into own rows. -/
namespace Go.Proofs.YtbfkpfdkndnhkaaGreat
set_option linter.unusedSimpArgs false
set_option linter.unusedVariables false
open Go.RowKit

/-- the cells of row i -/
def rowL (C : Nat) (l : List Int) (i : Nat) : List Int := (l.take ((i + 1) * C)).drop (i * C)
theorem rowL_length {C i : Nat} {l : List Int} (h : (i + 1) * C ≤ l.length) : (rowL C l i).length = C := by
  unfold rowL; rw [List.length_drop, List.length_take, Nat.min_eq_left h, Nat.add_mul, Nat.one_mul]; omega
theorem rowL_nth {C i j : Nat} {l : List Int} (hj : j < C) : nth (rowL C l i) j = nth l (i * C + j) := by
  unfold rowL nth
  simp only [List.getD_eq_getElem?_getD, List.getElem?_drop]
  rw [List.getElem?_take, if_pos (by rw [Nat.add_mul, Nat.one_mul]; omega)]

theorem Rd.take_ {w : World} {A : Option Addr} {l : List Int} (h : Rd w A l) (n : Nat) : Rd w A (l.take n) := fun i hi => by
  rw [List.length_take] at hi
  obtain ⟨b, off, e, hb, hc⟩ := h i (by omega)
  refine ⟨b, off, e, hb, ?_⟩
  rw [hc]
  unfold nth; simp only [List.getD_eq_getElem?_getD, List.getElem?_take, if_pos (show i < n by omega)]
/-- where row I lies -/
def rowA (cap C : Nat) (A : Option Addr) (I : Nat) : Option Addr := if cap = I * C then A else A.map fun x => x.add (I * C)
theorem rowA_rd {W : World} {cap C I : Nat} {A : Option Addr} {l : List Int} (hr : Rd W A l) (h1 : (I + 1) * C ≤ l.length) (hcap : l.length ≤ cap) : Rd W (rowA cap C A I) (rowL C l I) := by
  rw [Nat.add_mul, Nat.one_mul] at h1
  unfold rowA
  by_cases h : cap = I * C
  · rw [if_pos h]
    have : rowL C l I = [] := List.eq_nil_of_length_eq_zero (by rw [rowL_length (by rw [Nat.add_mul, Nat.one_mul]; exact h1)]; omega)
    rw [this]; exact Rd.nil _ _
  · rw [if_neg h]
    have := hr.slice (I * C) ((I + 1) * C) (by rw [Nat.add_mul]; omega) (by rw [Nat.add_mul, Nat.one_mul]; exact h1) cap hcap
    rw [if_neg h, Nat.mul_one] at this
    exact this
theorem rowA_at {cap C I b off : Nat} (h1 : I * C + C ≤ cap) (hC : 0 < C) : rowA cap C (some ⟨b, off, none⟩) I = some ⟨b, off + I * C, none⟩ := by
  unfold rowA
  rw [if_neg (by omega)]
  simp only [Option.map_some]; unfold Addr.add
  by_cases e : I * C = 0 <;> simp [e]

section
set_option maxHeartbeats 1000000
theorem row_c (r : Int) (C : Nat) (A : Option Addr) (l : List Int) (n cap : Nat) (i : Int) (I : Nat) (w : World) (hi : i = I) (hn : l.length = n) (hcap : n ≤ cap) (hcap2 : cap ≤ 9223372036854775807) (hI : (I + 1) * C ≤ n) (hC : C ≤ 1048576) (hI2 : I ≤ 1048576) :
    Calls Tryz.prog 91 #[.agg #[.int .i64 r, .int .i64 C, .slice A n cap], .int .i64 i] w fun e w' => e = .returned (.slice (rowA cap C A I) C (cap - I * C)) ∧ Grows w w' := by
  subst hi
  have h1 : I * C + C ≤ n := by have := hI; rw [Nat.add_mul, Nat.one_mul] at this; exact this
  have hIC : I * C ≤ 1099511627776 := Nat.mul_le_mul hI2 hC
  have k0 := castMul I C
  have k1 : (I : Int) * (C : Int) ≤ ((1099511627776 : Nat) : Int) := castMulLe hIC
  have k2 : ((I : Int) + 1) * (C : Int) = (I : Int) * (C : Int) + (C : Int) := by rw [Int.add_mul, Int.one_mul]
  have k4 : ((I : Int) + 1) * (C : Int) ≤ (n : Int) := by rw [k2, ← Int.natCast_mul]; omega
  have k5 : (I : Int) * (C : Int) ≤ ((I : Int) + 1) * (C : Int) := by rw [k2]; omega
  have k6 : ((I : Int) + 1) * (C : Int) ≤ (cap : Int) := by omega
  have K2 := Lib.hid k2
  clear k2
  go_enter Tryz.func91, Tryz.ntmps91
  go_wp2_with fail
  all_goals
    have e3 : (I + 1) * C - I * C = C := by rw [Nat.add_mul, Nat.one_mul]; omega
    go_ret
    rw [e3]
    refine ⟨?_, by exact bel0⟩
  · unfold rowA; first | (rw [if_pos rfl]; rfl) | (rw [if_pos h, show cap - I * C = 0 by omega]; rfl) | (rw [if_pos rfl, Nat.sub_self]; rfl)
  · unfold rowA; rw [if_neg h]; rfl

/-- copy into an own row: the elements from place off on. -/
def lay (l : List Int) (off : Nat) (m : List Int) : List Int := l.take off ++ (m ++ l.drop (off + m.length))
theorem lay_length {l m : List Int} {off : Nat} (h : off + m.length ≤ l.length) : (lay l off m).length = l.length := by simp [lay]; omega
theorem lay_nth_in {l m : List Int} {off j : Nat} (h : off + m.length ≤ l.length) (hj : j < m.length) : nth (lay l off m) (off + j) = nth m j := by
  unfold lay
  rw [nth_append_right _ _ _ (by simp; omega), List.length_take, Nat.min_eq_left (by omega), Nat.add_sub_cancel_left, nth_append_left _ _ _ hj]
theorem lay_nth_out {l m : List Int} {off i : Nat} (h : off + m.length ≤ l.length) (hi : i < off ∨ off + m.length ≤ i) : nth (lay l off m) i = nth l i := by
  unfold lay
  rcases hi with hi | hi
  · rw [nth_append_left _ _ _ (by simp; omega)]
    unfold nth; simp only [List.getD_eq_getElem?_getD, List.getElem?_take, if_pos hi]
  · rw [nth_append_right _ _ _ (by simp; omega), nth_append_right _ _ _ (by simp; omega)]
    unfold nth; simp only [List.getD_eq_getElem?_getD, List.getElem?_drop, List.length_take, Nat.min_eq_left (show off ≤ l.length by omega)]
    rw [show off + m.length + (i - off - m.length) = i by omega]

theorem run_copyI (w : World) (ty : TypeId) (B g n cap off dLen dCap : Nat) (l : List Int) (hown : Own w B (.slice (some ⟨g, 0, none⟩) n cap) l) (hn : l.length = n) (S : Option Addr) (m : List Int) (sLen sCap : Nat) (hr : Rd w S m) (hs : sLen = m.length) (hd : m.length ≤ dLen) (hfit : off + m.length ≤ n)
    (dp : Option Addr) (hdp : 0 < m.length → dp = some ⟨g, off, none⟩) :
    ∃ w', (Builtin.copy_ #[24, 24] ty #[.slice dp dLen dCap, .slice S sLen sCap]).run Tryz.prog w = .ok (goInt m.length) w' ∧ Own w' B (.slice (some ⟨g, 0, none⟩) n cap) (lay l off m) ∧ w.grownBy w' (some g) := by
  subst hn
  subst hs
  have hsz : (Tryz.prog.info? 3).map (·.size) = some 1 := by
    obtain ⟨i0, hi0, hz0, hz1, hz2⟩ := info_parts info_int
    rw [hi0]; simp [hz1]
  by_cases hm : m = []
  · subst hm
    refine ⟨w, ?_, by simpa [lay] using hown, World.grownBy.refl _ _⟩
    exact run_copy_none (P := Tryz.prog) w 24 24 ty 3 dp S dLen dCap 0 sCap Tryz.underlying24 hsz (by simp)
  · have hpos : 0 < m.length := List.length_pos_iff.2 hm
    obtain rfl := hdp hpos
    obtain ⟨b, o, rfl, _, _⟩ := hr 0 hpos
    rcases hown.2 with ⟨h', _⟩ | ⟨g', cap', cur, h', hBg, hg, hnc, hm1, hcs, htake⟩
    · simp at h'
    · simp only [Value.slice.injEq, Option.some.injEq, Addr.mk.injEq, and_true] at h'
      obtain ⟨rfl, _, rfl⟩ := h'
      have hcell : ∀ j u, (m.map (Value.int .i64))[j]? = some u → w.cell? ((⟨b, o, none⟩ : Addr).add j) = some u := by
        intro j u hu
        rw [List.getElem?_map] at hu
        obtain ⟨x, hx, rfl⟩ := Option.map_eq_some_iff.1 hu
        have hj : j < m.length := (List.getElem?_eq_some_iff.1 hx).1
        have hc := hr.cell j hj
        have hn : nth m j = x := by have := nth_eq m j hj; rw [hx] at this; exact (Option.some.inj this).symm
        rw [hn] at hc
        rw [← hc]
        unfold Addr.add
        by_cases e : j = 0 <;> simp [e]
      have hrun := run_copy_row (P := Tryz.prog) w 24 24 ty 3 g off dLen dCap ⟨b, o, none⟩ m.length sCap cur 3 (m.map (Value.int .i64)) Tryz.underlying24 hsz hg
        (by rw [List.length_map]; exact (Nat.min_eq_left hd).symm) hcell (by simp; omega) (ints_oneCell .i64 m)
      rw [List.length_map] at hrun
      refine ⟨_, hrun, ⟨by simp, .inr ⟨g, cap, _, by rw [lay_length hfit], hBg, setRow_heap w g _ _ _ _ hg, by rw [lay_length hfit]; exact hnc, hm1, ?_, ?_⟩⟩, ⟨rfl, rfl, rfl, by simp [World.setRow], fun k hk hne => setRow_other w g k _ (fun e => hne (by rw [e]))⟩⟩
      · simp; omega
      · rw [lay_length hfit]
        unfold lay
        rw [List.map_append, List.map_append, List.map_take, List.map_drop, ← htake]
        simp only [Nat.mul_one]
        rw [List.take_take, Nat.min_eq_left (by omega), List.append_assoc, List.take_append, List.take_append, List.length_take, List.length_map]
        have hcl : cur.toList.length = cap := by simpa using hcs
        rw [Nat.min_eq_left (by omega), List.take_take, Nat.min_eq_right (by omega), List.take_of_length_le (show (m.map (Value.int IntKind.i64)).length ≤ l.length - off by simp; omega), List.drop_take]
        rw [show l.length - off - m.length = l.length - (off + m.length) by omega]

theorem wpList_copyI {ops : Array Oper} {rest : List Oper} {o : Oper} {a : Act} {Q : Exit → Act → World → Prop} (hgd : o.guard = none) (s x : Operand)
    (ho : o.op = .call { callee := .builtin .copy, args := #[s, x], argTypes := #[24, 24] }) (w : World)
    (B g n cap off dLen dCap : Nat) (l : List Int) (hown : Own w B (.slice (some ⟨g, 0, none⟩) n cap) l) (hn : l.length = n) (dp : Option Addr) (hsv : a.eval s = .slice dp dLen dCap)
    (S : Option Addr) (m : List Int) (sLen sCap : Nat) (hx : a.eval x = .slice S sLen sCap) (hr : Rd w S m) (hs : sLen = m.length) (hd : m.length ≤ dLen) (hfit : off + m.length ≤ n)
    (hdp : 0 < m.length → dp = some ⟨g, off, none⟩)
    (h : ∀ w', Own w' B (.slice (some ⟨g, 0, none⟩) n cap) (lay l off m) → w.grownBy w' (some g) → wpList Tryz.prog ops Q rest (a.put o.dst (goInt m.length)) w') : wpList Tryz.prog ops Q (o :: rest) a w := by
  obtain ⟨w', hrun, h2, h3⟩ := run_copyI w o.type B g n cap off dLen dCap l hown hn S m sLen sCap hr hs hd hfit dp hdp
  refine wpList_plain hgd fun _ hK => ?_
  unfold Oper.wp execOp
  simp only [ho, resolve, invoke, builtin, Sem.run_bind, Sem.run_pure, Result.andThen_ok, List.map_toArray, List.map_cons, List.map_nil, hsv, hx, hrun]
  exact hK _ _ (h w' h2 h3)
end
end Go.Proofs.YtbfkpfdkndnhkaaGreat

/- Contracts: the first cell of a row that is not 0. -/
namespace Go.Proofs.YtbfkpfdkndnhkaaGreat
set_option linter.unusedSimpArgs false
set_option linter.unusedVariables false
open Go.RowKit

/-! ### plain -/
/-- the place of the first number that is not 0: its length if there is none -/
def fnz : List Int → Nat
  | [] => 0
  | x :: l => if x = 0 then fnz l + 1 else 0
theorem fnz_le (l : List Int) : fnz l ≤ l.length := by
  induction l with
  | nil => simp [fnz]
  | cons x l ih => rw [fnz]; split <;> simp <;> omega
theorem nth_cons_zero (x : Int) (l : List Int) : nth (x :: l) 0 = x := rfl
theorem nth_cons_succ (x : Int) (l : List Int) (i : Nat) : nth (x :: l) (i + 1) = nth l i := by simp [nth]
theorem fnz_zero {l : List Int} {i : Nat} (h : i < fnz l) : nth l i = 0 := by
  induction l generalizing i with
  | nil => simp [fnz] at h
  | cons x l ih =>
    rw [fnz] at h
    split at h
    · cases i with
      | zero => rw [nth_cons_zero]; assumption
      | succ i => rw [nth_cons_succ]; exact ih (by omega)
    · omega
theorem fnz_ne {l : List Int} (h : fnz l < l.length) : nth l (fnz l) ≠ 0 := by
  induction l with
  | nil => simp at h
  | cons x l ih =>
    rw [fnz] at h ⊢
    split at h
    · rename_i hx
      rw [if_pos hx, nth_cons_succ]
      exact ih (by simp at h; omega)
    · rename_i hx
      rw [if_neg hx, nth_cons_zero]; exact hx
theorem fnz_uniq {l : List Int} {k : Nat} (h1 : ∀ i, i < k → nth l i = 0) (h2 : k < l.length → nth l k ≠ 0) (h3 : k ≤ l.length) : k = fnz l := by
  have := fnz_le l
  rcases Nat.lt_trichotomy k (fnz l) with h | h | h
  · exact absurd (fnz_zero h) (h2 (by omega))
  · exact h
  · exact absurd (h1 _ h) (fnz_ne (by omega))
/-- .. -1 if there is none -/
def fcI (l : List Int) : Int := if fnz l = l.length then -1 else (fnz l : Int)
theorem fcI_none {l : List Int} (h : ∀ i, i < l.length → nth l i = 0) : fcI l = -1 := by
  unfold fcI; rw [if_pos (fnz_uniq h (fun h => by omega) (Nat.le_refl _)).symm]
theorem fcI_some {l : List Int} {k : Nat} (h1 : ∀ i, i < k → nth l i = 0) (h2 : nth l k ≠ 0) (h3 : k < l.length) : fcI l = k := by
  have := fnz_uniq h1 (fun _ => h2) (Nat.le_of_lt h3)
  unfold fcI; rw [← this, if_neg (by omega)]
def zeroB (l : List Int) : Bool := fnz l == l.length
theorem zeroB_iff (l : List Int) : zeroB l = true ↔ ∀ i, i < l.length → nth l i = 0 := by
  unfold zeroB
  rw [beq_iff_eq]
  constructor
  · intro h i hi; exact fnz_zero (by omega)
  · intro h; exact (fnz_uniq h (fun h => by omega) (Nat.le_refl _)).symm

section
set_option maxHeartbeats 1000000
theorem ne0_c (x : Int) (W : World) : Calls Tryz.prog 79 #[.int .i64 x] W fun e w' => e = .returned (.bool (x != 0)) ∧ W = w' := by
  cases h : (x != 0)
  all_goals
    go_enter Tryz.func79, Tryz.ntmps79
    go_wp2_with fail
    go_ret
    exact ⟨rfl, rfl⟩
theorem indexFunc_c (A : Option Addr) (l : List Int) (n c : Nat) (w : World) (hn : l.length = n) (ha : Rd w A l) (hl : n ≤ 1099511627776) :
    Calls Tryz.prog 78 #[.slice A n c, .func (.func 79) #[] #[]] w fun e w' => e = .returned (.int .i64 (fcI l)) ∧ w = w' := by
  subst hn
  have HF := Lib.hid fun (x : Int) (W : World) => ne0_c x W
  go_enter Tryz.func78, Tryz.ntmps78
  go_wp2_with fail
  go_loop [8] (fun i => ∃ I : Nat, i = .int .i64 I ∧ I ≤ l.length ∧ ∀ t, t < I → nth l t = 0) (fun i => l.length - (intOf i).toNat)
  case atStart => exact ⟨0, rfl, Nat.zero_le _, fun t h => by omega⟩
  case round =>
    obtain ⟨I, rfl, hI, hz⟩ := hrel
    have HZ := Lib.hid hz
    clear hz
    by_cases hlt : I < l.length
    · obtain ⟨b, o, rfl, hbs, hc⟩ := ha.at_ I hlt
      have i1 : (I : Int) < (l.length : Int) := by omega
      have H1 := fun W => HF.out (nth l I) W
      by_cases hx : nth l I = 0
      · have HX := Lib.hid hx
        rw [show (nth l I != 0) = false by simpa using hx] at H1
        have H1' := Lib.hid H1
        clear hx H1
        go_wp2_with fail
        refine (H1'.out _).mono ?_; rintro e w' ⟨rfl, rfl⟩
        go_wp2_with fail
        go_round
        case rel => exact ⟨I + 1, by go_num, by omega, fun t ht => by (by_cases e : t = I); (· subst e; exact HX.out); (· exact HZ.out t (by omega))⟩
        case measure => simp [intOf]; omega
      · have HX := Lib.hid (fcI_some HZ.out hx hlt)
        rw [show (nth l I != 0) = true by simpa using hx] at H1
        have H1' := Lib.hid H1
        clear hx H1
        go_wp2_with fail
        refine (H1'.out _).mono ?_; rintro e w' ⟨rfl, rfl⟩
        go_wp2_with fail
        go_ret
        exact ⟨ret_int (by rw [HX.out]), rfl⟩
    · obtain rfl : I = l.length := by omega
      have HX := Lib.hid (fcI_none HZ.out)
      go_wp2_with fail
      go_ret
      exact ⟨ret_int (by rw [HX.out]), rfl⟩
theorem firstCell_c (A : Option Addr) (l : List Int) (n c : Nat) (w : World) (hn : l.length = n) (ha : Rd w A l) (hl : n ≤ 1099511627776) :
    Calls Tryz.prog 42 #[.slice A n c] w fun e w' => e = .returned (.int .i64 (fcI l)) ∧ w = w' := by
  have H := Lib.hid fun W h => indexFunc_c A l n c W hn h hl
  clear hn
  go_enter Tryz.func42, Tryz.ntmps42
  go_wp2_with fail
  refine (H.out _ ha).mono ?_; rintro e w' ⟨rfl, rfl⟩
  go_wp2_with fail
  go_ret
  exact ⟨rfl, rfl⟩
end
end Go.Proofs.YtbfkpfdkndnhkaaGreat

/- Contracts: is a matrix in Hermite form? -/
namespace Go.Proofs.YtbfkpfdkndnhkaaGreat
set_option linter.unusedSimpArgs false
set_option linter.unusedVariables false
open Go.RowKit

/-! ### plain -/
/-- the column of the first cell of row i that is not 0: C if there is none -/
def pv (C : Nat) (l : List Int) (i : Nat) : Nat := fnz (rowL C l i)
theorem pv_le {R C i : Nat} {l : List Int} (hl : l.length = R * C) (hi : i < R) : pv C l i ≤ C := by
  have := fnz_le (rowL C l i)
  rw [rowL_length (by rw [hl]; exact Nat.mul_le_mul_right C hi)] at this
  exact this
theorem pv_zero {C i j : Nat} {l : List Int} (hj : j < C) (h : j < pv C l i) : nth l (i * C + j) = 0 := by
  rw [← rowL_nth hj]; exact fnz_zero h
theorem pv_ne {R C i : Nat} {l : List Int} (hl : l.length = R * C) (hi : i < R) (h : pv C l i < C) : nth l (i * C + pv C l i) ≠ 0 := by
  rw [← rowL_nth h]
  exact fnz_ne (by rw [rowL_length (by rw [hl]; exact Nat.mul_le_mul_right C hi)]; exact h)
theorem fcI_pv {R C i : Nat} {l : List Int} (hl : l.length = R * C) (hi : i < R) : fcI (rowL C l i) = if pv C l i = C then -1 else (pv C l i : Int) := by
  unfold fcI
  rw [rowL_length (by rw [hl]; exact Nat.mul_le_mul_right C hi)]
  rfl
/-- a cell above the pivot p of row i that is not reduced -/
def upB (C : Nat) (l : List Int) (i p k : Nat) : Bool := (List.range k).any fun t => decide (nth l (t * C + p) < 0) || decide (nth l (i * C + p) ≤ nth l (t * C + p))
theorem upB_succ (C : Nat) (l : List Int) (i p k : Nat) : upB C l i p (k + 1) = (upB C l i p k || (decide (nth l (k * C + p) < 0) || decide (nth l (i * C + p) ≤ nth l (k * C + p)))) := by
  unfold upB; rw [List.range_succ, List.any_append]; simp
theorem upB_at {C : Nat} {l : List Int} {i p k : Nat} (hk : k < i) (h : nth l (k * C + p) < 0 ∨ nth l (i * C + p) ≤ nth l (k * C + p)) : upB C l i p i = true := by
  unfold upB
  rw [List.any_eq_true]
  exact ⟨k, by simpa using hk, by simpa using h⟩
/-- the rows before i are in Hermite form: the last pivot, or the number of columns behind a row of zeros -/
def herF (C : Nat) (l : List Int) : Nat → Option Int
  | 0 => some (-1)
  | i + 1 => (herF C l i).bind fun last => if pv C l i = C then some (C : Int) else if decide ((pv C l i : Int) ≤ last) || (decide (nth l (i * C + pv C l i) < 0) || upB C l i (pv C l i) i) then none else some (pv C l i : Int)
def herB (R C : Nat) (l : List Int) : Bool := (herF C l R).isSome
theorem herF_none {C : Nat} {l : List Int} {j k : Nat} (h : herF C l j = none) (hk : j ≤ k) : herF C l k = none := by
  induction k with
  | zero => rw [show j = 0 by omega] at h; exact h
  | succ k ih =>
    by_cases e : j = k + 1
    · rw [← e]; exact h
    · rw [herF, ih (by omega)]; rfl
theorem herF_zero {C : Nat} {l : List Int} {i : Nat} {last : Int} (h : herF C l i = some last) (hp : pv C l i = C) : herF C l (i + 1) = some (C : Int) := by
  rw [herF, h]; simp [hp]
theorem herF_bad {C : Nat} {l : List Int} {i : Nat} {last : Int} (h : herF C l i = some last) (hp : pv C l i ≠ C) (hb : (pv C l i : Int) ≤ last ∨ nth l (i * C + pv C l i) < 0 ∨ upB C l i (pv C l i) i = true) : herF C l (i + 1) = none := by
  rw [herF, h]
  simp only [Option.bind_some]
  rw [if_neg hp, if_pos]
  rcases hb with hb | hb | hb <;> simp [hb]
theorem herF_good {C : Nat} {l : List Int} {i : Nat} {last : Int} (h : herF C l i = some last) (hp : pv C l i ≠ C) (h1 : ¬ (pv C l i : Int) ≤ last) (h2 : ¬ nth l (i * C + pv C l i) < 0) (h3 : upB C l i (pv C l i) i = false) : herF C l (i + 1) = some (pv C l i : Int) := by
  rw [herF, h]
  simp only [Option.bind_some]
  rw [if_neg hp, if_neg]
  simp [h1, h2, h3]
theorem herF_bd {C : Nat} {l : List Int} {i : Nat} {last : Int} (hp : ∀ j, j < i → pv C l j ≤ C) (h : herF C l i = some last) : -1 ≤ last ∧ last ≤ C := by
  cases i with
  | zero => cases h; omega
  | succ i =>
    rw [herF] at h
    obtain ⟨q, _, h2⟩ := Option.bind_eq_some_iff.1 h
    have := hp i (by omega)
    split at h2
    · cases h2; omega
    · split at h2
      · cases h2
      · cases h2; omega
/-- the pivots go up -/
theorem herF_up {C : Nat} {l : List Int} {i k : Nat} {last last' : Int} (h : herF C l i = some last) (h' : herF C l k = some last') (hik : i < k) (hlt : last < (C : Int)) : pv C l i = C ∨ last < (pv C l i : Int) := by
  have : ∃ x, herF C l (i + 1) = some x := by
    cases e : herF C l (i + 1) with
    | some x => exact ⟨x, rfl⟩
    | none => rw [herF_none e (by omega)] at h'; cases h'
  obtain ⟨x, hx⟩ := this
  rw [herF, h] at hx
  simp only [Option.bind_some] at hx
  split at hx
  · exact .inl ‹_›
  · split at hx
    · cases hx
    · rename_i hh
      simp only [Bool.or_eq_true, decide_eq_true_eq, not_or] at hh
      exact .inr (by omega)
/-- where all rows are in Hermite form, the cells below a pivot are 0 -/
theorem her_below {R C : Nat} {l : List Int} (hl : l.length = R * C) {k : Nat} {last' : Int} (h' : herF C l k = some last') (hk : k ≤ R) {i : Nat} (hi : i < k) (hp : pv C l i < C) :
    ∀ j, i < j → j < k → pv C l i < pv C l j ∨ pv C l j = C := by
  have hle : ∀ j, j < k → pv C l j ≤ C := fun j hj => pv_le hl (by omega)
  -- from row i on 'last' is at least the pivot of i
  have key : ∀ d, i + 1 + d ≤ k → ∃ x, herF C l (i + 1 + d) = some x ∧ (pv C l i : Int) ≤ x := by
    intro d
    induction d with
    | zero =>
      intro hd
      cases e : herF C l (i + 1) with
      | none => rw [herF_none e hd] at h'; cases h'
      | some x =>
        refine ⟨x, rfl, ?_⟩
        rw [herF] at e
        obtain ⟨q, _, h2⟩ := Option.bind_eq_some_iff.1 e
        split at h2
        · omega
        · split at h2
          · cases h2
          · cases h2; exact Int.le_refl _
    | succ d ih =>
      intro hd
      obtain ⟨y, hy, hyl⟩ := ih (by omega)
      cases e : herF C l (i + 1 + (d + 1)) with
      | none => rw [herF_none e hd] at h'; cases h'
      | some x =>
        refine ⟨x, rfl, ?_⟩
        rw [show i + 1 + (d + 1) = (i + 1 + d) + 1 by omega, herF, hy] at e
        simp only [Option.bind_some] at e
        split at e
        · cases e; have := hle i hi; omega
        · split at e
          · cases e
          · rename_i hh
            cases e
            simp only [Bool.or_eq_true, decide_eq_true_eq, not_or] at hh
            omega
  intro j hij hjk
  obtain ⟨y, hy, hyl⟩ := key (j - i - 1) (by omega)
  rw [show i + 1 + (j - i - 1) = j by omega] at hy
  cases e : herF C l (j + 1) with
  | none => rw [herF_none e (by omega)] at h'; cases h'
  | some x =>
    rw [herF, hy] at e
    simp only [Option.bind_some] at e
    split at e
    · exact .inr ‹_›
    · split at e
      · cases e
      · rename_i hh
        simp only [Bool.or_eq_true, decide_eq_true_eq, not_or] at hh
        left; omega
theorem her_cell {R C : Nat} {l : List Int} (hl : l.length = R * C) (h : herB R C l = true) {i j : Nat} (hi : i < R) (hp : pv C l i < C) (hij : i < j) (hj : j < R) : nth l (j * C + pv C l i) = 0 := by
  obtain ⟨x, hx⟩ := Option.isSome_iff_exists.1 h
  refine pv_zero hp ?_
  rcases her_below hl hx (Nat.le_refl R) hi hp j hij hj with e | e <;> omega

section
set_option maxHeartbeats 1000000
end
end Go.Proofs.YtbfkpfdkndnhkaaGreat

/- Contracts: the reference's IsHermite. -/
namespace Go.Proofs.YtbfkpfdkndnhkaaGreat
set_option linter.unusedSimpArgs false
set_option linter.unusedVariables false
open Go.RowKit

section
set_option maxHeartbeats 2000000
set_option maxRecDepth 2000
theorem not_in {x X : Int} (h : x < 0 ∨ X ≤ x) : inB x 0 (X - 1) = false := by rw [inB_no]; omega
theorem is_in {x X : Int} (h1 : ¬ x < 0) (h2 : ¬ X ≤ x) : inB x 0 (X - 1) = true := by rw [inB_iff]; omega
end
end Go.Proofs.YtbfkpfdkndnhkaaGreat

/- Contracts: the rows of zeros of a matrix; is it a lattice's basis? -/
namespace Go.Proofs.YtbfkpfdkndnhkaaGreat
set_option linter.unusedSimpArgs false
set_option linter.unusedVariables false
open Go.RowKit

theorem Own.other {w w' : World} {B : Nat} {v o : Value} {m : List Int} (h : Own w B o m) (hg : w.grownBy w' v.ownBlock) (hne : ∀ g, v.ownBlock = some g → o.ownBlock ≠ some g) : Own w' B o m := by
  refine World.ownsRow.kept h hg ?_
  cases e : o.ownBlock with
  | none => exact .inl rfl
  | some g =>
    right
    intro h2
    exact hne g h2.symm e
/-- two rows apart from each other stay so behind an append to one. -/
theorem apart_app {w : World} {B : Nat} {v v' o : Value} {m : List Int} (ho : Own w B o m) (hne : ∀ g, v.ownBlock = some g → o.ownBlock ≠ some g) (h : v'.ownBlock = v.ownBlock ∨ ∃ g, v'.ownBlock = some g ∧ w.heap.size ≤ g) : ∀ g, v'.ownBlock = some g → o.ownBlock ≠ some g := by
  intro g hg hog
  rcases h with h | ⟨g', h1, h2⟩
  · exact hne g (by rw [← h]; exact hg) hog
  · rw [hg] at h1
    cases h1
    have := (World.ownsRow.lt ho g hog).2
    omega

/-! ### plain -/
/-- the rows before i that are not zeros, and those that are -/
def fullR (C : Nat) (l : List Int) : Nat → List Int
  | 0 => []
  | i + 1 => if pv C l i = C then fullR C l i else fullR C l i ++ [(i : Int)]
def zeroR (C : Nat) (l : List Int) : Nat → List Int
  | 0 => []
  | i + 1 => if pv C l i = C then zeroR C l i ++ [(i : Int)] else zeroR C l i
theorem fullR_length (C : Nat) (l : List Int) (i : Nat) : (fullR C l i).length ≤ i := by
  induction i with
  | zero => simp [fullR]
  | succ i ih => rw [fullR]; split <;> (try simp) <;> omega
theorem zeroR_length (C : Nat) (l : List Int) (i : Nat) : (zeroR C l i).length ≤ i := by
  induction i with
  | zero => simp [zeroR]
  | succ i ih => rw [zeroR]; split <;> (try simp) <;> omega
theorem zb_pv {R C i : Nat} {l : List Int} (hl : l.length = R * C) (hi : i < R) : zeroB (rowL C l i) = decide (pv C l i = C) := by
  unfold zeroB
  rw [rowL_length (by rw [hl]; exact Nat.mul_le_mul_right C hi)]
  by_cases h : pv C l i = C
  · rw [show (fnz (rowL C l i) == C) = true by rw [beq_iff_eq]; exact h]; simp [h]
  · rw [show (fnz (rowL C l i) == C) = false by rw [beq_eq_false_iff_ne]; exact h]; simp [h]
theorem zeroR_nil {C : Nat} {l : List Int} {n : Nat} : zeroR C l n = [] ↔ ∀ i, i < n → pv C l i ≠ C := by
  induction n with
  | zero => simp [zeroR]
  | succ n ih =>
    rw [zeroR]
    split
    · rename_i h
      simp only [List.append_eq_nil_iff, List.cons_ne_self, and_false, false_iff]
      intro h2; exact h2 n (by omega) h
    · rename_i h
      rw [ih]
      constructor
      · intro h2 i hi
        by_cases e : i = n
        · subst e; exact h
        · exact h2 i (by omega)
      · intro h2 i hi; exact h2 i (by omega)
/-- 1 + the last row before i that is not zeros -/
def nzN (C : Nat) (l : List Int) : Nat → Nat
  | 0 => 0
  | i + 1 => if pv C l i = C then nzN C l i else i + 1
theorem nzN_le (C : Nat) (l : List Int) (i : Nat) : nzN C l i ≤ i := by
  induction i with
  | zero => simp [nzN]
  | succ i ih => rw [nzN]; split <;> omega
/-- behind a row of zeros there are rows of zeros only -/
theorem her_zero {R C : Nat} {l : List Int} (hl : l.length = R * C) {k : Nat} {last' : Int} (h' : herF C l k = some last') (hk : k ≤ R) {i j : Nat} (hi : pv C l i = C) (hij : i < j) (hjk : j < k) : pv C l j = C := by
  have step : ∀ m, m < k → herF C l m = some (C : Int) → pv C l m = C ∧ herF C l (m + 1) = some (C : Int) := by
    intro m hm hf
    have hp : pv C l m = C := by
      cases e : herF C l (m + 1) with
      | none => rw [herF_none e (by omega)] at h'; cases h'
      | some x =>
        rw [herF, hf] at e
        simp only [Option.bind_some] at e
        split at e
        · assumption
        · split at e
          · cases e
          · rename_i hh
            have := pv_le (i := m) hl (by omega)
            simp only [Bool.or_eq_true, decide_eq_true_eq, not_or] at hh
            omega
    exact ⟨hp, herF_zero hf hp⟩
  have base : herF C l (i + 1) = some (C : Int) := by
    cases e : herF C l i with
    | none => rw [herF_none e (by omega)] at h'; cases h'
    | some x => exact herF_zero e hi
  have all : ∀ d, i + 1 + d ≤ k → herF C l (i + 1 + d) = some (C : Int) := by
    intro d
    induction d with
    | zero => intro _; exact base
    | succ d ih => intro hd; exact (step (i + 1 + d) (by omega) (ih (by omega))).2
  have := all (j - i - 1) (by omega)
  rw [show i + 1 + (j - i - 1) = j by omega] at this
  exact (step j hjk this).1
theorem nzN_zeroR {R C : Nat} {l : List Int} (hl : l.length = R * C) (h : herB R C l = true) : decide (nzN C l R = R) = decide ((zeroR C l R).length = 0) := by
  rw [decide_eq_decide, List.length_eq_zero_iff, zeroR_nil]
  obtain ⟨x, hx⟩ := Option.isSome_iff_exists.1 h
  constructor
  · intro hn i hi hp
    cases R with
    | zero => omega
    | succ R =>
      rw [nzN] at hn
      split at hn
      · have := nzN_le C l R; omega
      · rename_i hne
        by_cases e : i = R
        · exact hne (e ▸ hp)
        · exact hne (her_zero hl hx (Nat.le_refl _) hp (by omega) (by omega))
  · intro hall
    cases R with
    | zero => rfl
    | succ R => rw [nzN, if_neg (hall R (by omega))]
def latB (r c : Int) (l : List Int) : Bool := (isMat r c l && herB r.toNat c.toNat l) && decide ((zeroR c.toNat l r.toNat).length = 0)

section
set_option maxHeartbeats 1000000
theorem latB_parts {r c : Int} {l : List Int} (h : latB r c l = true) : isMat r c l = true ∧ herB r.toNat c.toNat l = true ∧ ∀ i, i < r.toNat → pv c.toNat l i ≠ c.toNat := by
  unfold latB at h
  simp only [Bool.and_eq_true, decide_eq_true_eq] at h
  exact ⟨h.1.1, h.1.2, zeroR_nil.1 (List.length_eq_zero_iff.1 h.2)⟩
end
end Go.Proofs.YtbfkpfdkndnhkaaGreat
