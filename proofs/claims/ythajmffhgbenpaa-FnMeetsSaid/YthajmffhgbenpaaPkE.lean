/- Contracts and lemmas, put together. -/
import Derived.Laws.CopyRow
import Derived.Laws.IdiomCopy
import Derived.Test.YthajmffhgbenpaaPkA
import Derived.Test.YthajmffhgbenpaaPkB
/- Contracts: rows of matrices as slices of them; copies into own rows. -/
namespace Go.Proofs.Ythajmffhgbenpaa
set_option linter.unusedSimpArgs false
set_option linter.unusedVariables false
open Go.RowKit

/-- the cells of row i -/
def rowL (C : Nat) (l : List Int) (i : Nat) : List Int := (l.take ((i + 1) * C)).drop (i * C)
theorem rowL_length {C i : Nat} {l : List Int} (h : (i + 1) * C ≤ l.length) : (rowL C l i).length = C := by
  unfold rowL; rw [List.length_drop, List.length_take, Nat.min_eq_left h, Nat.add_mul, Nat.one_mul]; omega
theorem rowL_nth {C i j : Nat} {l : List Int} (hj : j < C) : nth (rowL C l i) j = nth l (i * C + j) := by
  unfold rowL nth
  simp only [List.getD_eq_getElem?_getD, List.getElem?_drop]
  rw [List.getElem?_take, if_pos (by rw [Nat.add_mul, Nat.one_mul]; omega)]

theorem Rd.take_ {w : World} {A : Option Addr} {l : List Int} (h : Rd w A l) (n : Nat) : Rd w A (l.take n) := fun i hi => by
  rw [List.length_take] at hi
  obtain ⟨b, off, e, hb, hc⟩ := h i (by omega)
  refine ⟨b, off, e, hb, ?_⟩
  rw [hc]
  unfold nth; simp only [List.getD_eq_getElem?_getD, List.getElem?_take, if_pos (show i < n by omega)]
/-- where row I lies -/
def rowA (cap C : Nat) (A : Option Addr) (I : Nat) : Option Addr := if cap = I * C then A else A.map fun x => x.add (I * C)
theorem rowA_rd {W : World} {cap C I : Nat} {A : Option Addr} {l : List Int} (hr : Rd W A l) (h1 : (I + 1) * C ≤ l.length) (hcap : l.length ≤ cap) : Rd W (rowA cap C A I) (rowL C l I) := by
  rw [Nat.add_mul, Nat.one_mul] at h1
  unfold rowA
  by_cases h : cap = I * C
  · rw [if_pos h]
    have : rowL C l I = [] := List.eq_nil_of_length_eq_zero (by rw [rowL_length (by rw [Nat.add_mul, Nat.one_mul]; exact h1)]; omega)
    rw [this]; exact Rd.nil _ _
  · rw [if_neg h]
    have := hr.slice (I * C) ((I + 1) * C) (by rw [Nat.add_mul]; omega) (by rw [Nat.add_mul, Nat.one_mul]; exact h1) cap hcap
    rw [if_neg h, Nat.mul_one] at this
    exact this
theorem rowA_at {cap C I b off : Nat} (h1 : I * C + C ≤ cap) (hC : 0 < C) : rowA cap C (some ⟨b, off, none⟩) I = some ⟨b, off + I * C, none⟩ := by
  unfold rowA
  rw [if_neg (by omega)]
  simp only [Option.map_some]; unfold Addr.add
  by_cases e : I * C = 0 <;> simp [e]

section
set_option maxHeartbeats 1000000
theorem row_c (r : Int) (C : Nat) (A : Option Addr) (l : List Int) (n cap : Nat) (i : Int) (I : Nat) (w : World) (hi : i = I) (hn : l.length = n) (hcap : n ≤ cap) (hcap2 : cap ≤ 9223372036854775807) (hI : (I + 1) * C ≤ n) (hC : C ≤ 1048576) (hI2 : I ≤ 1048576) :
    Calls Try.prog 28 #[.agg #[.int .i64 r, .int .i64 C, .slice A n cap], .int .i64 i] w fun e w' => e = .returned (.slice (rowA cap C A I) C (cap - I * C)) ∧ Grows w w' := by
  subst hi
  have h1 : I * C + C ≤ n := by have := hI; rw [Nat.add_mul, Nat.one_mul] at this; exact this
  have hIC : I * C ≤ 1099511627776 := Nat.mul_le_mul hI2 hC
  have k0 := castMul I C
  have k1 : (I : Int) * (C : Int) ≤ ((1099511627776 : Nat) : Int) := castMulLe hIC
  have k2 : ((I : Int) + 1) * (C : Int) = (I : Int) * (C : Int) + (C : Int) := by rw [Int.add_mul, Int.one_mul]
  have k4 : ((I : Int) + 1) * (C : Int) ≤ (n : Int) := by rw [k2, ← Int.natCast_mul]; omega
  have k5 : (I : Int) * (C : Int) ≤ ((I : Int) + 1) * (C : Int) := by rw [k2]; omega
  have k6 : ((I : Int) + 1) * (C : Int) ≤ (cap : Int) := by omega
  have K2 := Lib.hid k2
  clear k2
  go_enter Try.func28, Try.ntmps28
  go_wp2_with fail
  all_goals
    have e3 : (I + 1) * C - I * C = C := by rw [Nat.add_mul, Nat.one_mul]; omega
    go_ret
    rw [e3]
    refine ⟨?_, by exact bel0⟩
  · unfold rowA; first | (rw [if_pos rfl]; rfl) | (rw [if_pos h, show cap - I * C = 0 by omega]; rfl) | (rw [if_pos rfl, Nat.sub_self]; rfl)
  · unfold rowA; rw [if_neg h]; rfl

/-- copy into an own row: the elements from place off on. -/
def lay (l : List Int) (off : Nat) (m : List Int) : List Int := l.take off ++ (m ++ l.drop (off + m.length))
theorem lay_length {l m : List Int} {off : Nat} (h : off + m.length ≤ l.length) : (lay l off m).length = l.length := by simp [lay]; omega
theorem lay_nth_in {l m : List Int} {off j : Nat} (h : off + m.length ≤ l.length) (hj : j < m.length) : nth (lay l off m) (off + j) = nth m j := by
  unfold lay
  rw [nth_append_right _ _ _ (by simp; omega), List.length_take, Nat.min_eq_left (by omega), Nat.add_sub_cancel_left, nth_append_left _ _ _ hj]
theorem lay_nth_out {l m : List Int} {off i : Nat} (h : off + m.length ≤ l.length) (hi : i < off ∨ off + m.length ≤ i) : nth (lay l off m) i = nth l i := by
  unfold lay
  rcases hi with hi | hi
  · rw [nth_append_left _ _ _ (by simp; omega)]
    unfold nth; simp only [List.getD_eq_getElem?_getD, List.getElem?_take, if_pos hi]
  · rw [nth_append_right _ _ _ (by simp; omega), nth_append_right _ _ _ (by simp; omega)]
    unfold nth; simp only [List.getD_eq_getElem?_getD, List.getElem?_drop, List.length_take, Nat.min_eq_left (show off ≤ l.length by omega)]
    rw [show off + m.length + (i - off - m.length) = i by omega]

theorem run_copyI (w : World) (ty : TypeId) (B g n cap off dLen dCap : Nat) (l : List Int) (hown : Own w B (.slice (some ⟨g, 0, none⟩) n cap) l) (hn : l.length = n) (S : Option Addr) (m : List Int) (sLen sCap : Nat) (hr : Rd w S m) (hs : sLen = m.length) (hd : m.length ≤ dLen) (hfit : off + m.length ≤ n)
    (dp : Option Addr) (hdp : 0 < m.length → dp = some ⟨g, off, none⟩) :
    ∃ w', (Builtin.copy_ #[24, 24] ty #[.slice dp dLen dCap, .slice S sLen sCap]).run Try.prog w = .ok (goInt m.length) w' ∧ Own w' B (.slice (some ⟨g, 0, none⟩) n cap) (lay l off m) ∧ w.grownBy w' (some g) := by
  subst hn
  subst hs
  have hsz : (Try.prog.info? 3).map (·.size) = some 1 := by
    obtain ⟨i0, hi0, hz0, hz1, hz2⟩ := info_parts info_int
    rw [hi0]; simp [hz1]
  by_cases hm : m = []
  · subst hm
    refine ⟨w, ?_, by simpa [lay] using hown, World.grownBy.refl _ _⟩
    exact run_copy_none (P := Try.prog) w 24 24 ty 3 dp S dLen dCap 0 sCap Try.underlying24 hsz (by simp)
  · have hpos : 0 < m.length := List.length_pos_iff.2 hm
    obtain rfl := hdp hpos
    obtain ⟨b, o, rfl, _, _⟩ := hr 0 hpos
    rcases hown.2 with ⟨h', _⟩ | ⟨g', cap', cur, h', hBg, hg, hnc, hm1, hcs, htake⟩
    · simp at h'
    · simp only [Value.slice.injEq, Option.some.injEq, Addr.mk.injEq, and_true] at h'
      obtain ⟨rfl, _, rfl⟩ := h'
      have hcell : ∀ j u, (m.map (Value.int .i64))[j]? = some u → w.cell? ((⟨b, o, none⟩ : Addr).add j) = some u := by
        intro j u hu
        rw [List.getElem?_map] at hu
        obtain ⟨x, hx, rfl⟩ := Option.map_eq_some_iff.1 hu
        have hj : j < m.length := (List.getElem?_eq_some_iff.1 hx).1
        have hc := hr.cell j hj
        have hn : nth m j = x := by have := nth_eq m j hj; rw [hx] at this; exact (Option.some.inj this).symm
        rw [hn] at hc
        rw [← hc]
        unfold Addr.add
        by_cases e : j = 0 <;> simp [e]
      have hrun := run_copy_row (P := Try.prog) w 24 24 ty 3 g off dLen dCap ⟨b, o, none⟩ m.length sCap cur 3 (m.map (Value.int .i64)) Try.underlying24 hsz hg
        (by rw [List.length_map]; exact (Nat.min_eq_left hd).symm) hcell (by simp; omega) (ints_oneCell .i64 m)
      rw [List.length_map] at hrun
      refine ⟨_, hrun, ⟨by simp, .inr ⟨g, cap, _, by rw [lay_length hfit], hBg, setRow_heap w g _ _ _ _ hg, by rw [lay_length hfit]; exact hnc, hm1, ?_, ?_⟩⟩, ⟨rfl, rfl, rfl, by simp [World.setRow], fun k hk hne => setRow_other w g k _ (fun e => hne (by rw [e]))⟩⟩
      · simp; omega
      · rw [lay_length hfit]
        unfold lay
        rw [List.map_append, List.map_append, List.map_take, List.map_drop, ← htake]
        simp only [Nat.mul_one]
        rw [List.take_take, Nat.min_eq_left (by omega), List.append_assoc, List.take_append, List.take_append, List.length_take, List.length_map]
        have hcl : cur.toList.length = cap := by simpa using hcs
        rw [Nat.min_eq_left (by omega), List.take_take, Nat.min_eq_right (by omega), List.take_of_length_le (show (m.map (Value.int IntKind.i64)).length ≤ l.length - off by simp; omega), List.drop_take]
        rw [show l.length - off - m.length = l.length - (off + m.length) by omega]

theorem wpList_copyI {ops : Array Oper} {rest : List Oper} {o : Oper} {a : Act} {Q : Exit → Act → World → Prop} (hgd : o.guard = none) (s x : Operand)
    (ho : o.op = .call { callee := .builtin .copy, args := #[s, x], argTypes := #[24, 24] }) (w : World)
    (B g n cap off dLen dCap : Nat) (l : List Int) (hown : Own w B (.slice (some ⟨g, 0, none⟩) n cap) l) (hn : l.length = n) (dp : Option Addr) (hsv : a.eval s = .slice dp dLen dCap)
    (S : Option Addr) (m : List Int) (sLen sCap : Nat) (hx : a.eval x = .slice S sLen sCap) (hr : Rd w S m) (hs : sLen = m.length) (hd : m.length ≤ dLen) (hfit : off + m.length ≤ n)
    (hdp : 0 < m.length → dp = some ⟨g, off, none⟩)
    (h : ∀ w', Own w' B (.slice (some ⟨g, 0, none⟩) n cap) (lay l off m) → w.grownBy w' (some g) → wpList Try.prog ops Q rest (a.put o.dst (goInt m.length)) w') : wpList Try.prog ops Q (o :: rest) a w := by
  obtain ⟨w', hrun, h2, h3⟩ := run_copyI w o.type B g n cap off dLen dCap l hown hn S m sLen sCap hr hs hd hfit dp hdp
  refine wpList_plain hgd fun _ hK => ?_
  unfold Oper.wp execOp
  simp only [ho, resolve, invoke, builtin, Sem.run_bind, Sem.run_pure, Result.andThen_ok, List.map_toArray, List.map_cons, List.map_nil, hsv, hx, hrun]
  exact hK _ _ (h w' h2 h3)
end
end Go.Proofs.Ythajmffhgbenpaa

/- Contracts: the first cell of a row that is not 0. -/
namespace Go.Proofs.Ythajmffhgbenpaa
set_option linter.unusedSimpArgs false
set_option linter.unusedVariables false
open Go.RowKit

/-! ### plain -/
/-- the place of the first number that is not 0: its length if there is none -/
def fnz : List Int → Nat
  | [] => 0
  | x :: l => if x = 0 then fnz l + 1 else 0
theorem fnz_le (l : List Int) : fnz l ≤ l.length := by
  induction l with
  | nil => simp [fnz]
  | cons x l ih => rw [fnz]; split <;> simp <;> omega
theorem nth_cons_zero (x : Int) (l : List Int) : nth (x :: l) 0 = x := rfl
theorem nth_cons_succ (x : Int) (l : List Int) (i : Nat) : nth (x :: l) (i + 1) = nth l i := by simp [nth]
theorem fnz_zero {l : List Int} {i : Nat} (h : i < fnz l) : nth l i = 0 := by
  induction l generalizing i with
  | nil => simp [fnz] at h
  | cons x l ih =>
    rw [fnz] at h
    split at h
    · cases i with
      | zero => rw [nth_cons_zero]; assumption
      | succ i => rw [nth_cons_succ]; exact ih (by omega)
    · omega
theorem fnz_ne {l : List Int} (h : fnz l < l.length) : nth l (fnz l) ≠ 0 := by
  induction l with
  | nil => simp at h
  | cons x l ih =>
    rw [fnz] at h ⊢
    split at h
    · rename_i hx
      rw [if_pos hx, nth_cons_succ]
      exact ih (by simp at h; omega)
    · rename_i hx
      rw [if_neg hx, nth_cons_zero]; exact hx
theorem fnz_uniq {l : List Int} {k : Nat} (h1 : ∀ i, i < k → nth l i = 0) (h2 : k < l.length → nth l k ≠ 0) (h3 : k ≤ l.length) : k = fnz l := by
  have := fnz_le l
  rcases Nat.lt_trichotomy k (fnz l) with h | h | h
  · exact absurd (fnz_zero h) (h2 (by omega))
  · exact h
  · exact absurd (h1 _ h) (fnz_ne (by omega))
/-- .. -1 if there is none -/
def fcI (l : List Int) : Int := if fnz l = l.length then -1 else (fnz l : Int)
theorem fcI_none {l : List Int} (h : ∀ i, i < l.length → nth l i = 0) : fcI l = -1 := by
  unfold fcI; rw [if_pos (fnz_uniq h (fun h => by omega) (Nat.le_refl _)).symm]
theorem fcI_some {l : List Int} {k : Nat} (h1 : ∀ i, i < k → nth l i = 0) (h2 : nth l k ≠ 0) (h3 : k < l.length) : fcI l = k := by
  have := fnz_uniq h1 (fun _ => h2) (Nat.le_of_lt h3)
  unfold fcI; rw [← this, if_neg (by omega)]
def zeroB (l : List Int) : Bool := fnz l == l.length
theorem zeroB_iff (l : List Int) : zeroB l = true ↔ ∀ i, i < l.length → nth l i = 0 := by
  unfold zeroB
  rw [beq_iff_eq]
  constructor
  · intro h i hi; exact fnz_zero (by omega)
  · intro h; exact (fnz_uniq h (fun h => by omega) (Nat.le_refl _)).symm

section
set_option maxHeartbeats 1000000
theorem ne0_c (x : Int) (W : World) : Calls Try.prog 113 #[.int .i64 x] W fun e w' => e = .returned (.bool (x != 0)) ∧ W = w' := by
  cases h : (x != 0)
  all_goals
    go_enter Try.func113, Try.ntmps113
    go_wp2_with fail
    go_ret
    exact ⟨rfl, rfl⟩
theorem indexFunc_c (A : Option Addr) (l : List Int) (n c : Nat) (w : World) (hn : l.length = n) (ha : Rd w A l) (hl : n ≤ 1099511627776) :
    Calls Try.prog 112 #[.slice A n c, .func (.func 113) #[] #[]] w fun e w' => e = .returned (.int .i64 (fcI l)) ∧ w = w' := by
  subst hn
  have HF := Lib.hid fun (x : Int) (W : World) => ne0_c x W
  go_enter Try.func112, Try.ntmps112
  go_wp2_with fail
  go_loop [8] (fun i => ∃ I : Nat, i = .int .i64 I ∧ I ≤ l.length ∧ ∀ t, t < I → nth l t = 0) (fun i => l.length - (intOf i).toNat)
  case atStart => exact ⟨0, rfl, Nat.zero_le _, fun t h => by omega⟩
  case round =>
    obtain ⟨I, rfl, hI, hz⟩ := hrel
    have HZ := Lib.hid hz
    clear hz
    by_cases hlt : I < l.length
    · obtain ⟨b, o, rfl, hbs, hc⟩ := ha.at_ I hlt
      have i1 : (I : Int) < (l.length : Int) := by omega
      have H1 := fun W => HF.out (nth l I) W
      by_cases hx : nth l I = 0
      · have HX := Lib.hid hx
        rw [show (nth l I != 0) = false by simpa using hx] at H1
        have H1' := Lib.hid H1
        clear hx H1
        go_wp2_with fail
        refine (H1'.out _).mono ?_; rintro e w' ⟨rfl, rfl⟩
        go_wp2_with fail
        go_round
        case rel => exact ⟨I + 1, by go_num, by omega, fun t ht => by (by_cases e : t = I); (· subst e; exact HX.out); (· exact HZ.out t (by omega))⟩
        case measure => simp [intOf]; omega
      · have HX := Lib.hid (fcI_some HZ.out hx hlt)
        rw [show (nth l I != 0) = true by simpa using hx] at H1
        have H1' := Lib.hid H1
        clear hx H1
        go_wp2_with fail
        refine (H1'.out _).mono ?_; rintro e w' ⟨rfl, rfl⟩
        go_wp2_with fail
        go_ret
        exact ⟨ret_int (by rw [HX.out]), rfl⟩
    · obtain rfl : I = l.length := by omega
      have HX := Lib.hid (fcI_none HZ.out)
      go_wp2_with fail
      go_ret
      exact ⟨ret_int (by rw [HX.out]), rfl⟩
theorem firstCell_c (A : Option Addr) (l : List Int) (n c : Nat) (w : World) (hn : l.length = n) (ha : Rd w A l) (hl : n ≤ 1099511627776) :
    Calls Try.prog 65 #[.slice A n c] w fun e w' => e = .returned (.int .i64 (fcI l)) ∧ w = w' := by
  have H := Lib.hid fun W h => indexFunc_c A l n c W hn h hl
  clear hn
  go_enter Try.func65, Try.ntmps65
  go_wp2_with fail
  refine (H.out _ ha).mono ?_; rintro e w' ⟨rfl, rfl⟩
  go_wp2_with fail
  go_ret
  exact ⟨rfl, rfl⟩
theorem ne0_c' (x : Int) (W : World) : Calls Try.prog 115 #[.int .i64 x] W fun e w' => e = .returned (.bool (x != 0)) ∧ W = w' := by
  cases h : (x != 0)
  all_goals
    go_enter Try.func115, Try.ntmps115
    go_wp2_with fail
    go_ret
    exact ⟨rfl, rfl⟩
theorem indexFunc_c' (A : Option Addr) (l : List Int) (n c : Nat) (w : World) (hn : l.length = n) (ha : Rd w A l) (hl : n ≤ 1099511627776) :
    Calls Try.prog 112 #[.slice A n c, .func (.func 115) #[] #[]] w fun e w' => e = .returned (.int .i64 (fcI l)) ∧ w = w' := by
  subst hn
  have HF := Lib.hid fun (x : Int) (W : World) => ne0_c' x W
  go_enter Try.func112, Try.ntmps112
  go_wp2_with fail
  go_loop [8] (fun i => ∃ I : Nat, i = .int .i64 I ∧ I ≤ l.length ∧ ∀ t, t < I → nth l t = 0) (fun i => l.length - (intOf i).toNat)
  case atStart => exact ⟨0, rfl, Nat.zero_le _, fun t h => by omega⟩
  case round =>
    obtain ⟨I, rfl, hI, hz⟩ := hrel
    have HZ := Lib.hid hz
    clear hz
    by_cases hlt : I < l.length
    · obtain ⟨b, o, rfl, hbs, hc⟩ := ha.at_ I hlt
      have i1 : (I : Int) < (l.length : Int) := by omega
      have H1 := fun W => HF.out (nth l I) W
      by_cases hx : nth l I = 0
      · have HX := Lib.hid hx
        rw [show (nth l I != 0) = false by simpa using hx] at H1
        have H1' := Lib.hid H1
        clear hx H1
        go_wp2_with fail
        refine (H1'.out _).mono ?_; rintro e w' ⟨rfl, rfl⟩
        go_wp2_with fail
        go_round
        case rel => exact ⟨I + 1, by go_num, by omega, fun t ht => by (by_cases e : t = I); (· subst e; exact HX.out); (· exact HZ.out t (by omega))⟩
        case measure => simp [intOf]; omega
      · have HX := Lib.hid (fcI_some HZ.out hx hlt)
        rw [show (nth l I != 0) = true by simpa using hx] at H1
        have H1' := Lib.hid H1
        clear hx H1
        go_wp2_with fail
        refine (H1'.out _).mono ?_; rintro e w' ⟨rfl, rfl⟩
        go_wp2_with fail
        go_ret
        exact ⟨ret_int (by rw [HX.out]), rfl⟩
    · obtain rfl : I = l.length := by omega
      have HX := Lib.hid (fcI_none HZ.out)
      go_wp2_with fail
      go_ret
      exact ⟨ret_int (by rw [HX.out]), rfl⟩
theorem containsFunc_c (A : Option Addr) (l : List Int) (n c : Nat) (w : World) (hn : l.length = n) (ha : Rd w A l) (hl : n ≤ 1099511627776) :
    Calls Try.prog 114 #[.slice A n c, .func (.func 115) #[] #[]] w fun e w' => e = .returned (.bool (!zeroB l)) ∧ w = w' := by
  have H := fun W h => indexFunc_c' A l n c W hn h hl
  clear hn
  cases hz : zeroB l
  · have e : fcI l = (fnz l : Int) := by unfold zeroB at hz; rw [beq_eq_false_iff_ne] at hz; unfold fcI; rw [if_neg hz]
    rw [e] at H
    have H' := Lib.hid H
    clear H e hz
    go_enter Try.func114, Try.ntmps114
    go_wp2_with fail
    refine (H'.out _ ha).mono ?_; rintro e w' ⟨rfl, rfl⟩
    go_wp2_with fail
    go_ret
    exact ⟨by simp, rfl⟩
  · have e : fcI l = -1 := by unfold zeroB at hz; rw [beq_iff_eq] at hz; unfold fcI; rw [if_pos hz]
    rw [e] at H
    have H' := Lib.hid H
    clear H e hz
    go_enter Try.func114, Try.ntmps114
    go_wp2_with fail
    refine (H'.out _ ha).mono ?_; rintro e w' ⟨rfl, rfl⟩
    go_wp2_with fail
    go_ret
    exact ⟨by simp, rfl⟩
theorem isZeroRow_c (A : Option Addr) (l : List Int) (n c : Nat) (w : World) (hn : l.length = n) (ha : Rd w A l) (hl : n ≤ 1099511627776) :
    Calls Try.prog 66 #[.slice A n c] w fun e w' => e = .returned (.bool (zeroB l)) ∧ w = w' := by
  have H := Lib.hid fun W h => containsFunc_c A l n c W hn h hl
  clear hn
  generalize zeroB l = z at *
  go_enter Try.func66, Try.ntmps66
  go_wp2_with fail
  refine (H.out _ ha).mono ?_; rintro e w' ⟨rfl, rfl⟩
  go_wp2_with fail
  go_ret
  exact ⟨by simp, rfl⟩
end
end Go.Proofs.Ythajmffhgbenpaa

/- Contracts: is a matrix in Hermite form? -/
namespace Go.Proofs.Ythajmffhgbenpaa
set_option linter.unusedSimpArgs false
set_option linter.unusedVariables false
open Go.RowKit

/-! ### plain -/
/-- the column of the first cell of row i that is not 0: C if there is none -/
def pv (C : Nat) (l : List Int) (i : Nat) : Nat := fnz (rowL C l i)
theorem pv_le {R C i : Nat} {l : List Int} (hl : l.length = R * C) (hi : i < R) : pv C l i ≤ C := by
  have := fnz_le (rowL C l i)
  rw [rowL_length (by rw [hl]; exact Nat.mul_le_mul_right C hi)] at this
  exact this
theorem pv_zero {C i j : Nat} {l : List Int} (hj : j < C) (h : j < pv C l i) : nth l (i * C + j) = 0 := by
  rw [← rowL_nth hj]; exact fnz_zero h
theorem pv_ne {R C i : Nat} {l : List Int} (hl : l.length = R * C) (hi : i < R) (h : pv C l i < C) : nth l (i * C + pv C l i) ≠ 0 := by
  rw [← rowL_nth h]
  exact fnz_ne (by rw [rowL_length (by rw [hl]; exact Nat.mul_le_mul_right C hi)]; exact h)
theorem fcI_pv {R C i : Nat} {l : List Int} (hl : l.length = R * C) (hi : i < R) : fcI (rowL C l i) = if pv C l i = C then -1 else (pv C l i : Int) := by
  unfold fcI
  rw [rowL_length (by rw [hl]; exact Nat.mul_le_mul_right C hi)]
  rfl
/-- a cell above the pivot p of row i that is not reduced -/
def upB (C : Nat) (l : List Int) (i p k : Nat) : Bool := (List.range k).any fun t => decide (nth l (t * C + p) < 0) || decide (nth l (i * C + p) ≤ nth l (t * C + p))
theorem upB_succ (C : Nat) (l : List Int) (i p k : Nat) : upB C l i p (k + 1) = (upB C l i p k || (decide (nth l (k * C + p) < 0) || decide (nth l (i * C + p) ≤ nth l (k * C + p)))) := by
  unfold upB; rw [List.range_succ, List.any_append]; simp
theorem upB_at {C : Nat} {l : List Int} {i p k : Nat} (hk : k < i) (h : nth l (k * C + p) < 0 ∨ nth l (i * C + p) ≤ nth l (k * C + p)) : upB C l i p i = true := by
  unfold upB
  rw [List.any_eq_true]
  exact ⟨k, by simpa using hk, by simpa using h⟩
/-- the rows before i are in Hermite form: the last pivot, or the number of columns behind a row of zeros -/
def herF (C : Nat) (l : List Int) : Nat → Option Int
  | 0 => some (-1)
  | i + 1 => (herF C l i).bind fun last => if pv C l i = C then some (C : Int) else if decide ((pv C l i : Int) ≤ last) || (decide (nth l (i * C + pv C l i) < 0) || upB C l i (pv C l i) i) then none else some (pv C l i : Int)
def herB (R C : Nat) (l : List Int) : Bool := (herF C l R).isSome
theorem herF_none {C : Nat} {l : List Int} {j k : Nat} (h : herF C l j = none) (hk : j ≤ k) : herF C l k = none := by
  induction k with
  | zero => rw [show j = 0 by omega] at h; exact h
  | succ k ih =>
    by_cases e : j = k + 1
    · rw [← e]; exact h
    · rw [herF, ih (by omega)]; rfl
theorem herF_zero {C : Nat} {l : List Int} {i : Nat} {last : Int} (h : herF C l i = some last) (hp : pv C l i = C) : herF C l (i + 1) = some (C : Int) := by
  rw [herF, h]; simp [hp]
theorem herF_bad {C : Nat} {l : List Int} {i : Nat} {last : Int} (h : herF C l i = some last) (hp : pv C l i ≠ C) (hb : (pv C l i : Int) ≤ last ∨ nth l (i * C + pv C l i) < 0 ∨ upB C l i (pv C l i) i = true) : herF C l (i + 1) = none := by
  rw [herF, h]
  simp only [Option.bind_some]
  rw [if_neg hp, if_pos]
  rcases hb with hb | hb | hb <;> simp [hb]
theorem herF_good {C : Nat} {l : List Int} {i : Nat} {last : Int} (h : herF C l i = some last) (hp : pv C l i ≠ C) (h1 : ¬ (pv C l i : Int) ≤ last) (h2 : ¬ nth l (i * C + pv C l i) < 0) (h3 : upB C l i (pv C l i) i = false) : herF C l (i + 1) = some (pv C l i : Int) := by
  rw [herF, h]
  simp only [Option.bind_some]
  rw [if_neg hp, if_neg]
  simp [h1, h2, h3]
theorem herF_bd {C : Nat} {l : List Int} {i : Nat} {last : Int} (hp : ∀ j, j < i → pv C l j ≤ C) (h : herF C l i = some last) : -1 ≤ last ∧ last ≤ C := by
  cases i with
  | zero => cases h; omega
  | succ i =>
    rw [herF] at h
    obtain ⟨q, _, h2⟩ := Option.bind_eq_some_iff.1 h
    have := hp i (by omega)
    split at h2
    · cases h2; omega
    · split at h2
      · cases h2
      · cases h2; omega
/-- the pivots go up -/
theorem herF_up {C : Nat} {l : List Int} {i k : Nat} {last last' : Int} (h : herF C l i = some last) (h' : herF C l k = some last') (hik : i < k) (hlt : last < (C : Int)) : pv C l i = C ∨ last < (pv C l i : Int) := by
  have : ∃ x, herF C l (i + 1) = some x := by
    cases e : herF C l (i + 1) with
    | some x => exact ⟨x, rfl⟩
    | none => rw [herF_none e (by omega)] at h'; cases h'
  obtain ⟨x, hx⟩ := this
  rw [herF, h] at hx
  simp only [Option.bind_some] at hx
  split at hx
  · exact .inl ‹_›
  · split at hx
    · cases hx
    · rename_i hh
      simp only [Bool.or_eq_true, decide_eq_true_eq, not_or] at hh
      exact .inr (by omega)
/-- where all rows are in Hermite form, the cells below a pivot are 0 -/
theorem her_below {R C : Nat} {l : List Int} (hl : l.length = R * C) {k : Nat} {last' : Int} (h' : herF C l k = some last') (hk : k ≤ R) {i : Nat} (hi : i < k) (hp : pv C l i < C) :
    ∀ j, i < j → j < k → pv C l i < pv C l j ∨ pv C l j = C := by
  have hle : ∀ j, j < k → pv C l j ≤ C := fun j hj => pv_le hl (by omega)
  -- from row i on 'last' is at least the pivot of i
  have key : ∀ d, i + 1 + d ≤ k → ∃ x, herF C l (i + 1 + d) = some x ∧ (pv C l i : Int) ≤ x := by
    intro d
    induction d with
    | zero =>
      intro hd
      cases e : herF C l (i + 1) with
      | none => rw [herF_none e hd] at h'; cases h'
      | some x =>
        refine ⟨x, rfl, ?_⟩
        rw [herF] at e
        obtain ⟨q, _, h2⟩ := Option.bind_eq_some_iff.1 e
        split at h2
        · omega
        · split at h2
          · cases h2
          · cases h2; exact Int.le_refl _
    | succ d ih =>
      intro hd
      obtain ⟨y, hy, hyl⟩ := ih (by omega)
      cases e : herF C l (i + 1 + (d + 1)) with
      | none => rw [herF_none e hd] at h'; cases h'
      | some x =>
        refine ⟨x, rfl, ?_⟩
        rw [show i + 1 + (d + 1) = (i + 1 + d) + 1 by omega, herF, hy] at e
        simp only [Option.bind_some] at e
        split at e
        · cases e; have := hle i hi; omega
        · split at e
          · cases e
          · rename_i hh
            cases e
            simp only [Bool.or_eq_true, decide_eq_true_eq, not_or] at hh
            omega
  intro j hij hjk
  obtain ⟨y, hy, hyl⟩ := key (j - i - 1) (by omega)
  rw [show i + 1 + (j - i - 1) = j by omega] at hy
  cases e : herF C l (j + 1) with
  | none => rw [herF_none e (by omega)] at h'; cases h'
  | some x =>
    rw [herF, hy] at e
    simp only [Option.bind_some] at e
    split at e
    · exact .inr ‹_›
    · split at e
      · cases e
      · rename_i hh
        simp only [Bool.or_eq_true, decide_eq_true_eq, not_or] at hh
        left; omega
theorem her_cell {R C : Nat} {l : List Int} (hl : l.length = R * C) (h : herB R C l = true) {i j : Nat} (hi : i < R) (hp : pv C l i < C) (hij : i < j) (hj : j < R) : nth l (j * C + pv C l i) = 0 := by
  obtain ⟨x, hx⟩ := Option.isSome_iff_exists.1 h
  refine pv_zero hp ?_
  rcases her_below hl hx (Nat.le_refl R) hi hp j hij hj with e | e <;> omega

section
set_option maxHeartbeats 1000000
theorem iHer_c (r c : Int) (A : Option Addr) (l : List Int) (n cap : Nat) (w : World) (hn : l.length = n) (hcap : n ≤ cap) (hcap2 : cap ≤ 9223372036854775807) (ha : Rd w A l) (hl : n ≤ 1099511627776) :
    Calls Try.prog 54 #[.agg #[.int .i64 r, .int .i64 c, .slice A n cap]] w fun e w' => e = .returned (.bool (isMat r c l && herB r.toNat c.toNat l)) ∧ Grows w w' := by
  have HS := fun w h => iIsMatrix_c r c A l n cap w hn h hl
  obtain ⟨w1, hw1⟩ : ∃ w1, w1 = w.alloc (.cells #[.int .i64 r, .int .i64 c, .slice A n cap] 26) := ⟨_, rfl⟩
  have mb1 : MBox w1 w.heap.size r c (.slice A n cap) := by rw [hw1]; exact MBox.mk_ _ _ _ _ _
  have g01 : Grows w w1 := by rw [hw1]; exact bel0
  have HW1 := Lib.hid hw1
  clear hw1
  cases hq : isMat r c l
  · rw [hq] at HS
    have HS' := Lib.hid HS
    clear HS hq hn
    go_enter Try.func54, Try.ntmps54
    go_wp2_with fail
    refine (HS'.out _ (by exact (Rd.grows ha (by exact bel0)))).mono ?_; rintro e w2 ⟨rfl, g2⟩
    go_wp2_with fail
    go_ret
    exact ⟨by simp, by exact bel1 g2⟩
  · obtain ⟨R, C, rfl, rfl, hR, hC, hlen, hnum⟩ := isMat_nat hq
    rw [hq] at HS
    have HS' := Lib.hid HS
    simp only [Int.toNat_natCast]
    rw [show (true && herB R C l) = (herF C l R).isSome from rfl]
    have HN := Lib.hid hn
    have HLN := Lib.hid hlen
    have ha1 : Rd w1 A l := ha.grows g01
    have HPV := Lib.hid fun i hi => pv_le (i := i) hlen hi
    have HRC : R * C ≤ 576 := Nat.mul_le_mul hR hC
    clear HS hq hn hlen hnum
    go_enter Try.func54, Try.ntmps54
    go_wp2_with fail
    refine (HS'.out _ (by exact (Rd.grows ha (by exact bel0)))).mono ?_; rintro e w2 ⟨rfl, g2⟩
    rw [← HW1.out] at g2
    go_wp2_with fail
    go_loopw [3, 4] (fun q i wr => ∃ (I : Nat) (last : Int), i = .int .i64 I ∧ I ≤ R ∧ q = .int .i64 last ∧ herF C l I = some last ∧ Grows w1 wr) (fun _ i _ => R - (intOf i).toNat)
    case atStart => exact ⟨0, -1, rfl, Nat.zero_le _, rfl, rfl, by exact bel1 g2⟩
    case round =>
      clear g2
      obtain ⟨I, last, rfl, hI, rfl, hH, hg⟩ := hrel
      have HH := Lib.hid hH
      have hlb := herF_bd (fun j hj => HPV.out j (by omega)) hH
      clear hH
      obtain ⟨b0, b1, b2⟩ := (mb1.grows hg).cells
      by_cases hlt : I < R
      · have hIR : (I + 1) * C ≤ R * C := Nat.mul_le_mul_right C hlt
        have hIC : I * C + C ≤ R * C := by have := hIR; rw [Nat.add_mul, Nat.one_mul] at this; exact this
        have CR := Lib.hid fun W => row_c R C A l n cap I I W rfl HN.out hcap hcap2 (by have := HLN.out; have := HN.out; omega) (by omega) (by omega)
        have hra := (ha1.grows hg)
        have rr := rowA_rd (cap := cap) (C := C) (I := I) hra (by rw [HLN.out]; exact hIR) (by rw [HN.out]; exact hcap)
        have rl : (rowL C l I).length = C := rowL_length (by rw [HLN.out]; exact hIR)
        have CF := fun W h => firstCell_c (rowA cap C A I) (rowL C l I) C (cap - I * C) W rl h (by omega)
        rw [fcI_pv HLN.out hlt] at CF
        have hpv := HPV.out I hlt
        have RR := Lib.hid rr
        have HLI := Lib.hid hIC
        clear rl hIR hIC rr
        generalize rowA cap C A I = dS at *
        by_cases hz : pv C l I = C
        · rw [if_pos hz] at CF
          have CF' := Lib.hid CF
          have F := Lib.hid (herF_zero HH.out hz)
          clear CF hz
          go_wp2_with fail
          refine (CR.out _).mono ?_; rintro e w3 ⟨rfl, g3⟩
          have hrs := RR.out
          go_wp2_with fail
          refine (CF'.out _ (by exact (Rd.grows hrs (by exact bel1 g3)))).mono ?_; rintro e w' ⟨rfl, rfl⟩
          clear b0 b1 b2 hrs
          obtain ⟨b0, b1, b2⟩ := (mb1.grows (w' := w3) (by exact bel2 g3 hg)).cells
          go_wp2_with fail
          go_round
          case rel => exact ⟨I + 1, _, by go_num, by omega, rfl, F.out, by exact bel2 g3 hg⟩
          case measure => simp [intOf]; omega
        · rw [if_neg hz] at CF
          have CF' := Lib.hid CF
          have hix : I * C + pv C l I < l.length := by rw [HLN.out]; exact idx_lt hlt (by omega)
          have q1 := castMul I C
          have q2 : (I : Int) * (C : Int) ≤ ((576 : Nat) : Int) := castMulLe (by have := HLI.out; omega)
          have q3 := castPos I C (pv C l I)
          have q4 : (I : Int) * (C : Int) + (pv C l I : Int) < (l.length : Int) := castLt hix
          have CA := fun W h => at_c R C A l n cap I (pv C l I) W HN.out h (by omega) (by omega) (by omega) (by omega) (by rw [HLN.out]; omega)
          rw [castIdx] at CA
          have FB := Lib.hid fun hb => herF_bad HH.out hz hb
          have FG := Lib.hid fun h1 h2 h3 => herF_good HH.out hz h1 h2 h3
          have HAT := Lib.hid fun k (hk : k < I) h => upB_at (C := C) (l := l) (i := I) (p := pv C l I) hk h
          have HUS := Lib.hid fun k => upB_succ C l I (pv C l I) k
          have CK := Lib.hid fun (k : Nat) (hk : k < I) W h => at_c R C A l n cap k (pv C l I) W HN.out h (castMul k C) (by have := castMulLe (i := k) (c := C) (n := 576) (by have := Nat.mul_le_mul_right C (Nat.le_of_lt hk); have := HLI.out; omega); omega) (castPos k C (pv C l I)) (castLt (by rw [HLN.out]; exact idx_lt (by omega) (by omega))) (by rw [HLN.out]; omega)
          have hpz : ¬ ((pv C l I : Int) < 0) := by omega
          have HPC := Lib.hid (show pv C l I < C by omega)
          clear CF hz q1 q2 q3 q4 hix
          generalize hP : pv C l I = P at *
          generalize hX : nth l (I * C + P) = X at *
          have HP := Lib.hid hP
          have HX := Lib.hid hX
          have CA' := Lib.hid CA
          clear CA hP hX
          by_cases h1 : (P : Int) ≤ last
          · have FD := Lib.hid (herF_none (k := R) (FB.out (.inl h1)) (by omega))
            go_wp2_with fail
            refine (CR.out _).mono ?_; rintro e w3 ⟨rfl, g3⟩
            have hrs := RR.out
            go_wp2_with fail
            refine (CF'.out _ (by exact (Rd.grows hrs (by exact bel1 g3)))).mono ?_; rintro e w' ⟨rfl, rfl⟩
            go_wp2_with fail
            go_ret
            exact ⟨ret_bool (by rw [FD.out]; rfl), by exact bel3 g3 hg g01⟩
          · by_cases h2 : X < 0
            · have FD := Lib.hid (herF_none (k := R) (FB.out (.inr (.inl h2))) (by omega))
              have hg1 : Grows w1 wr := hg
              go_wp2_with fail
              refine (CR.out _).mono ?_; rintro e w3 ⟨rfl, g3⟩
              have hrs := RR.out
              go_wp2_with fail
              refine (CF'.out _ (by exact (Rd.grows hrs (by exact bel1 g3)))).mono ?_; rintro e w' ⟨rfl, rfl⟩
              clear b0 b1 b2 hrs
              obtain ⟨b0, b1, b2⟩ := (mb1.grows (w' := w3) (by exact bel2 g3 hg)).cells
              go_wp2_with fail
              refine (CA'.out _ (by exact (Rd.grows hra (by exact bel1 g3)))).mono ?_; rintro e w4 ⟨rfl, g4⟩
              go_wp2_with fail
              go_ret
              exact ⟨ret_bool (by rw [FD.out]; rfl), by exact bel4 g4 g3 hg g01⟩
            · have H12 := Lib.hid (show ¬ (P : Int) ≤ last ∧ ¬ X < 0 from ⟨h1, h2⟩)
              go_wp2_with fail
              refine (CR.out _).mono ?_; rintro e w3 ⟨rfl, g3⟩
              have hrs := RR.out
              go_wp2_with fail
              refine (CF'.out _ (by exact (Rd.grows hrs (by exact bel1 g3)))).mono ?_; rintro e w' ⟨rfl, rfl⟩
              clear b0 b1 b2 hrs
              obtain ⟨b0, b1, b2⟩ := (mb1.grows (w' := w3) (by exact bel2 g3 hg)).cells
              go_wp2_with fail
              refine (CA'.out _ (by exact (Rd.grows hra (by exact bel1 g3)))).mono ?_; rintro e w4 ⟨rfl, g4⟩
              have g14 : Grows w1 w4 := by exact bel3 g4 g3 hg
              clear b0 b1 b2 g3 g4 hg hra
              go_wp2_with fail
              obtain ⟨wo, rfl⟩ : ∃ wo : World, wo = wr := ⟨_, rfl⟩
              go_loopw [6] (fun k wr => ∃ (K : Nat), k = .int .i64 K ∧ K ≤ I ∧ upB C l I P K = false ∧ Grows w1 wr) (fun k _ => I - (intOf k).toNat)
              case atStart => exact ⟨0, rfl, Nat.zero_le _, rfl, g14⟩
              case round =>
                clear g14
                obtain ⟨K, rfl, hK, hup, hg⟩ := hrel
                have HUP := Lib.hid hup
                clear hup
                by_cases hlt2 : K < I
                · have hd := ha1.grows hg
                  obtain ⟨x0, x1, x2⟩ := (mb1.grows hg).ext
                  have CKK := fun W h => CK.out K hlt2 W h
                  rw [castIdx] at CKK
                  have HAK := Lib.hid (HAT.out K hlt2)
                  have HSK := Lib.hid (HUS.out K)
                  generalize nth l (K * C + P) = y at *
                  have CKK' := Lib.hid CKK
                  clear CKK
                  by_cases hy : y < 0
                  · have FD := Lib.hid (herF_none (k := R) (FB.out (.inr (.inr (HAK.out (.inl hy))))) (by omega))
                    have hy' : decide (y < 0) = true := by simpa using hy
                    go_wp2_with fail
                    ((refine wp_region_ext (by kernel_rfl) (by kernel_rfl) ?_); (repeat (go_big_quiet_step ((go_at_call 62; with_reducible exact extC (CKK'.out _ (Rd.ext hd _)))))); refine wpQuiet_nil ?_; rintro w5 ⟨w50, hw50⟩; have g5 := grows_of_ext hw50; clear hw50 w50)
                    go_wp2_with fail
                    go_ret
                    exact ⟨ret_bool (by rw [FD.out]; rfl), by exact bel3 g5 hg g01⟩
                  · by_cases hy2 : X ≤ y
                    · have FD := Lib.hid (herF_none (k := R) (FB.out (.inr (.inr (HAK.out (.inr hy2))))) (by omega))
                      have hy' : decide (y < 0) = false := by simpa using hy
                      have hy2' : decide (X ≤ y) = true := by simpa using hy2
                      go_wp2_with fail
                      ((refine wp_region_ext (by kernel_rfl) (by kernel_rfl) ?_); (repeat (go_big_quiet_step ((first | (go_at_call 62; with_reducible exact extC (CKK'.out _ (Rd.ext hd _))) | (go_at_call 62; with_reducible exact extC (CA'.out _ (Rd.ext hd _))))))); refine wpQuiet_nil ?_; rintro w5 ⟨w50, hw50⟩; have g5 := grows_of_ext hw50; clear hw50 w50)
                      go_wp2_with fail
                      go_ret
                      exact ⟨ret_bool (by rw [FD.out]; rfl), by exact bel3 g5 hg g01⟩
                    · have HNX := Lib.hid (show upB C l I P (K + 1) = false by rw [HSK.out, HUP.out]; simp; omega)
                      have hy' : decide (y < 0) = false := by simpa using hy
                      have hy2' : decide (X ≤ y) = false := by simpa using hy2
                      go_wp2_with fail
                      ((refine wp_region_ext (by kernel_rfl) (by kernel_rfl) ?_); (repeat (go_big_quiet_step ((first | (go_at_call 62; with_reducible exact extC (CKK'.out _ (Rd.ext hd _))) | (go_at_call 62; with_reducible exact extC (CA'.out _ (Rd.ext hd _))))))); refine wpQuiet_nil ?_; rintro w5 ⟨w50, hw50⟩; have g5 := grows_of_ext hw50; clear hw50 w50)
                      go_wp2_with fail
                      go_round
                      case rel => exact ⟨K + 1, by go_num, by omega, HNX.out, by exact bel2 g5 hg⟩
                      case measure => simp [intOf]; omega
                · obtain rfl : K = I := by omega
                  have FD := Lib.hid (FG.out H12.out.1 H12.out.2 HUP.out)
                  go_wp2_with fail
                  go_round
                  case rel => exact ⟨K + 1, _, by go_num, by omega, rfl, FD.out, hg⟩
                  case measure => simp [intOf]; omega
      · obtain rfl : I = R := by omega
        go_wp2_with fail
        go_ret
        exact ⟨ret_bool (by rw [HH.out]; rfl), by exact bel2 hg g01⟩
end
end Go.Proofs.Ythajmffhgbenpaa

/- Contracts: the reference's IsHermite. -/
namespace Go.Proofs.Ythajmffhgbenpaa
set_option linter.unusedSimpArgs false
set_option linter.unusedVariables false
open Go.RowKit

section
set_option maxHeartbeats 2000000
set_option maxRecDepth 2000
theorem not_in {x X : Int} (h : x < 0 ∨ X ≤ x) : inB x 0 (X - 1) = false := by rw [inB_no]; omega
theorem is_in {x X : Int} (h1 : ¬ x < 0) (h2 : ¬ X ≤ x) : inB x 0 (X - 1) = true := by rw [inB_iff]; omega
theorem sHer_c (r c : Int) (A : Option Addr) (l : List Int) (n cap : Nat) (w : World) (hn : l.length = n) (ha : Rd w A l) (hl : n ≤ 1099511627776) :
    Calls Try.prog 58 #[.agg #[.int .i64 r, .int .i64 c, .slice A n cap]] w fun e w' => e = .returned (.bool (isMat r c l && herB r.toNat c.toNat l)) ∧ Grows w w' := by
  have HS := fun w h => sIsMatrix_c r c A l n cap w hn h hl
  obtain ⟨w1, hw1⟩ : ∃ w1, w1 = w.alloc (.cells #[.int .i64 r, .int .i64 c, .slice A n cap] 26) := ⟨_, rfl⟩
  have mb1 : MBox w1 w.heap.size r c (.slice A n cap) := by rw [hw1]; exact MBox.mk_ _ _ _ _ _
  have g01 : Grows w w1 := by rw [hw1]; exact bel0
  have HW1 := Lib.hid hw1
  have ha1 : Rd w1 A l := ha.grows g01
  clear hw1
  cases hq : isMat r c l
  · rw [hq] at HS
    have HS' := Lib.hid HS
    clear HS hq hn
    go_enter Try.func58, Try.ntmps58
    go_wp2_with fail
    go_loopw [3, 4] (fun q i wr => ∃ (I : Nat), i = .int .i64 I ∧ I = 0 ∧ q = .int .i64 (-1) ∧ Grows w1 wr) (fun _ _ _ => 0)
    case atStart => exact ⟨0, rfl, rfl, rfl, by rw [← HW1.out]; exact bel0⟩
    case round =>
      obtain ⟨I, rfl, rfl, rfl, hg⟩ := hrel
      have hd := ha1.grows hg
      obtain ⟨b0, b1, b2⟩ := (mb1.grows hg).cells
      by_cases hr : 0 < r
      · go_wp2_with fail
        refine (HS'.out _ (by exact (Rd.grows hd (by exact bel0)))).mono ?_; rintro e w2 ⟨rfl, g2⟩
        have hd2 := hd.grows g2
        clear b0 b1 b2
        obtain ⟨b0, b1, b2⟩ := (mb1.grows (w' := w2) (by exact bel2 g2 hg)).cells
        go_wp2_with fail
        refine (HS'.out _ (by exact (Rd.grows hd2 (by exact bel0)))).mono ?_; rintro e w3 ⟨rfl, g3⟩
        go_wp2_with fail
        go_ret
        exact ⟨by simp, by exact bel4 g3 g2 hg g01⟩
      · go_wp2_with fail
        refine (HS'.out _ (by exact (Rd.grows hd (by exact bel0)))).mono ?_; rintro e w3 ⟨rfl, g3⟩
        go_wp2_with fail
        go_ret
        exact ⟨by simp, by exact bel3 g3 hg g01⟩
  · obtain ⟨R, C, rfl, rfl, hR, hC, hlen, hnum⟩ := isMat_nat hq
    rw [hq] at HS
    have HS' := Lib.hid HS
    have HCE := Lib.hid fun (i : Nat) (hi : i < R) (hp : pv C l i < C) (j : Nat) (hij : i < j) (hj : j < R) (h : herB R C l = true) => her_cell hlen h hi hp hij hj
    simp only [Int.toNat_natCast]
    have HHB := Lib.hid (show (true && herB R C l) = (herF C l R).isSome from rfl)
    rw [show (true && herB R C l) = (herF C l R).isSome from rfl]
    have HN := Lib.hid hn
    have HLN := Lib.hid hlen
    have HPV := Lib.hid fun i hi => pv_le (i := i) hlen hi
    have HRC : R * C ≤ 576 := Nat.mul_le_mul hR hC
    have HB : ∀ i, i < R → i * C ≤ 576 := fun i hi => by have := Nat.mul_le_mul_right C (Nat.le_of_lt hi); omega
    have CC := Lib.hid fun (i : Nat) (hi : i < R) (j : Nat) (hj : j < C) W h => l12Cell_c R C A l n cap i j W hn h (castMul i C) (by have := castMulLe (HB i hi); omega) (castPos i C j) (castLt (by rw [hlen]; exact idx_lt hi hj)) (by rw [hlen]; omega)
    have HNE := Lib.hid fun i hi h => pv_ne (i := i) hlen hi h
    have HZE := Lib.hid fun i j (hj : j < C) h => pv_zero (l := l) (i := i) hj h
    have HXB := Lib.hid fun (i : Nat) (hi : i < R) (j : Nat) (hj : j < C) => (isNum_iff _).1 (hnum (i * C + j) (by rw [hlen]; exact idx_lt hi hj))
    clear HS hq hn hlen hnum HB
    go_enter Try.func58, Try.ntmps58
    go_wp2_with fail
    go_loopw [3, 4] (fun q i wr => ∃ (I : Nat) (last : Int), i = .int .i64 I ∧ I ≤ R ∧ q = .int .i64 last ∧ herF C l I = some last ∧ Grows w1 wr) (fun _ i _ => R - (intOf i).toNat)
    case atStart => exact ⟨0, -1, rfl, Nat.zero_le _, rfl, rfl, by rw [← HW1.out]; exact bel0⟩
    case round =>
      obtain ⟨I, last, rfl, hI, rfl, hH, hg⟩ := hrel
      have HH := Lib.hid hH
      have hlb := herF_bd (fun j hj => HPV.out j (by omega)) hH
      clear hH
      obtain ⟨b0, b1, b2⟩ := (mb1.grows hg).cells
      have hd := ha1.grows hg
      by_cases hlt : I < R
      · have hpv := HPV.out I hlt
        go_wp2_with fail
        refine (HS'.out _ (by exact (Rd.grows hd (by exact bel0)))).mono ?_; rintro e w2 ⟨rfl, g2⟩
        have g12 : Grows w1 w2 := by exact bel2 g2 hg
        clear b0 b1 b2 hd
        go_wp2_with fail
        obtain ⟨wo, rfl⟩ : ∃ wo : World, wo = wr := ⟨_, rfl⟩
        go_loopw [5] (fun p wr => ∃ (P : Nat), p = .int .i64 P ∧ P ≤ pv C l I ∧ Grows w1 wr) (fun p _ => pv C l I - (intOf p).toNat)
        case atStart => exact ⟨0, rfl, Nat.zero_le _, g12⟩
        case round =>
          clear g12 g2 hg
          obtain ⟨P, rfl, hP, hg⟩ := hrel
          obtain ⟨b0, b1, b2⟩ := (mb1.grows hg).cells
          have hd := ha1.grows hg
          by_cases hlt2 : P < pv C l I
          · have hz := HZE.out I P (by omega) hlt2
            have C1 := fun W h => CC.out I hlt P (by omega) W h
            rw [castIdx, hz] at C1
            have C1' := Lib.hid C1
            clear C1 hz
            have hPC : (P : Int) < (C : Int) := by omega
            go_wp2_with fail
            refine (C1'.out _ (by exact (Rd.grows hd (by exact bel0)))).mono ?_; rintro e w3 ⟨rfl, g3⟩
            go_wp2_with fail
            go_round
            case rel => exact ⟨P + 1, by go_num, by omega, by exact bel2 g3 hg⟩
            case measure => simp [intOf]; omega
          · have hPP : P = pv C l I := by omega
            have HPP := Lib.hid hPP
            by_cases hz : P = C
            · have hPC : ¬ ((P : Int) < (C : Int)) := by omega
              have F := Lib.hid (herF_zero HH.out (by omega : pv C l I = C))
              have hR0 : (0 : Int) < (R : Int) := by omega
              clear hPP
              go_wp2_with fail
              obtain ⟨wo2, rfl⟩ : ∃ wo : World, wo = wr := ⟨_, rfl⟩
              have HZ := Lib.hid hz
              clear hz
              go_loopw [6] (fun k wr => ∃ K : Nat, k = .int .i64 K ∧ K < R ∧ Grows w1 wr) (fun _ _ => 0)
              case atStart => exact ⟨0, rfl, by omega, hg⟩
              case round =>
                clear hg b0 b1 b2
                obtain ⟨K, rfl, hKR, hg⟩ := hrel
                obtain ⟨b0, b1, b2⟩ := (mb1.grows hg).cells
                go_wp2_with fail
                go_round
                case rel => exact ⟨I + 1, _, by go_num, by omega, rfl, (by have := HZ.out; first | exact F.out | (rw [this]; exact F.out)), hg⟩
                case measure => simp [intOf]; omega
            · have hPC : (P : Int) < (C : Int) := by omega
              have hne := HNE.out I hlt (by omega)
              have FB := fun hb => herF_bad HH.out (by omega : pv C l I ≠ C) hb
              have FG := fun h1 h2 h3 => herF_good HH.out (by omega : pv C l I ≠ C) h1 h2 h3
              have HCI := fun j hij hj (h : herB R C l = true) => HCE.out I hlt (by omega) j hij hj h
              rw [← hPP] at FB FG hne HCI
              have HAT := Lib.hid fun k (hk : k < I) h => upB_at (C := C) (l := l) (i := I) (p := P) hk h
              have HUS := Lib.hid fun k => upB_succ C l I P k
              have FB' := Lib.hid FB
              have FG' := Lib.hid FG
              have HCI' := Lib.hid HCI
              have C1 := fun W h => CC.out I hlt P (by omega) W h
              have CKQ := Lib.hid fun (k : Nat) (hk : k < R) => CC.out k hk P (by omega)
              rw [castIdx] at C1
              have HPL : P < C := by omega
              have hxb := HXB.out I hlt P HPL
              clear FB FG HCI hPP
              generalize hX : nth l (I * C + P) = X at *
              have HX := Lib.hid hX
              clear hX
              have C1' := Lib.hid C1
              clear C1
              by_cases h1 : (P : Int) ≤ last
              · have FD := Lib.hid (herF_none (k := R) (FB'.out (.inl h1)) (by omega))
                by_cases hlC : last = (C : Int)
                · subst hlC
                  go_wp2_with fail
                  refine (C1'.out _ (by exact (Rd.grows hd (by exact bel0)))).mono ?_; rintro e w3 ⟨rfl, g3⟩
                  clear b0 b1 b2
                  obtain ⟨b0, b1, b2⟩ := (mb1.grows (w' := w3) (by exact bel2 g3 hg)).cells
                  go_wp2_with fail
                  go_ret
                  exact ⟨ret_bool (by rw [FD.out]; rfl), by exact bel3 g3 hg g01⟩
                · go_wp2_with fail
                  refine (C1'.out _ (by exact (Rd.grows hd (by exact bel0)))).mono ?_; rintro e w3 ⟨rfl, g3⟩
                  clear b0 b1 b2
                  obtain ⟨b0, b1, b2⟩ := (mb1.grows (w' := w3) (by exact bel2 g3 hg)).cells
                  go_wp2_with fail
                  go_ret
                  exact ⟨ret_bool (by rw [FD.out]; rfl), by exact bel3 g3 hg g01⟩
              · have hlC : ¬ last = (C : Int) := by omega
                have hl1 : (last == (C : Int)) = false := by simpa using hlC
                have hl2 : decide ((P : Int) ≤ last) = false := by simpa using h1
                have hl3 : (last == (C : Int) || decide ((P : Int) ≤ last)) = false := by rw [hl1, hl2]; rfl
                have hd' := hd
                by_cases h2 : X < 0
                · have FD := Lib.hid (herF_none (k := R) (FB'.out (.inr (.inl h2))) (by omega))
                  go_wp2_with fail
                  refine (C1'.out _ (by exact (Rd.grows hd (by exact bel0)))).mono ?_; rintro e w3 ⟨rfl, g3⟩
                  clear b0 b1 b2
                  obtain ⟨b0, b1, b2⟩ := (mb1.grows (w' := w3) (by exact bel2 g3 hg)).cells
                  go_wp2_with fail
                  refine (C1'.out _ (by exact (Rd.grows hd' (by exact bel1 g3)))).mono ?_; rintro e w4 ⟨rfl, g4⟩
                  go_wp2_with fail
                  go_ret
                  exact ⟨ret_bool (by rw [FD.out]; rfl), by exact bel4 g4 g3 hg g01⟩
                · have hXP : 0 < X := by omega
                  go_wp2_with fail
                  refine (C1'.out _ (by exact (Rd.grows hd (by exact bel0)))).mono ?_; rintro e w3 ⟨rfl, g3⟩
                  clear b0 b1 b2
                  obtain ⟨b0, b1, b2⟩ := (mb1.grows (w' := w3) (by exact bel2 g3 hg)).cells
                  go_wp2_with fail
                  refine (C1'.out _ (by exact (Rd.grows hd' (by exact bel1 g3)))).mono ?_; rintro e w4 ⟨rfl, g4⟩
                  have g14 : Grows w1 w4 := by exact bel3 g4 g3 hg
                  clear b0 b1 b2 g3 g4 hg hd hd'
                  go_wp2_with fail
                  obtain ⟨wo2, rfl⟩ : ∃ wo : World, wo = wr := ⟨_, rfl⟩
                  go_loopw [6] (fun k wr => ∃ (K : Nat), k = .int .i64 K ∧ K ≤ R ∧ upB C l I P (min K I) = false ∧ Grows w1 wr) (fun k _ => R - (intOf k).toNat)
                  case atStart => exact ⟨0, rfl, Nat.zero_le _, by simp [upB], g14⟩
                  case round =>
                    clear g14
                    obtain ⟨K, rfl, hK, hup, hg⟩ := hrel
                    have HUP := Lib.hid hup
                    clear hup
                    obtain ⟨b0, b1, b2⟩ := (mb1.grows hg).cells
                    have hd := ha1.grows hg
                    by_cases hlt3 : K < R
                    · have CKK := fun W h => CKQ.out K hlt3 W h
                      rw [castIdx] at CKK
                      have HAK := Lib.hid (HAT.out K)
                      have HSK := Lib.hid (HUS.out K)
                      have HCK := Lib.hid (HCI'.out K)
                      have hKI : K = I → nth l (K * C + P) = X := fun e => by rw [e]; exact HX.out
                      have HKI := Lib.hid hKI
                      clear hKI
                      generalize nth l (K * C + P) = y at *
                      have CKK' := Lib.hid CKK
                      clear CKK
                      rcases Nat.lt_trichotomy K I with hki | hki | hki
                      · have hki' : (K : Int) < (I : Int) := by omega
                        by_cases hy : y < 0 ∨ X ≤ y
                        · have FD := Lib.hid (herF_none (k := R) (FB'.out (.inr (.inr (HAK.out hki hy)))) (by omega))
                          have hin := not_in hy
                          have L1 := fun W => l1In_c y 0 (X - 1) W
                          rw [hin] at L1
                          have L1' := Lib.hid L1
                          clear L1 hy
                          go_wp2_with fail
                          refine (CKK'.out _ (by exact (Rd.grows hd (by exact bel0)))).mono ?_; rintro e w5 ⟨rfl, g5⟩
                          clear b0 b1 b2
                          obtain ⟨b0, b1, b2⟩ := (mb1.grows (w' := w5) (by exact bel2 g5 hg)).cells
                          go_wp2_with fail
                          refine (C1'.out _ (by exact (Rd.grows hd (by exact bel1 g5)))).mono ?_; rintro e w6 ⟨rfl, g6⟩
                          go_wp2_with fail
                          refine (L1'.out _).mono ?_; rintro e w' ⟨rfl, rfl⟩
                          go_wp2_with fail
                          go_ret
                          exact ⟨ret_bool (by rw [FD.out]; rfl), by exact bel4 g6 g5 hg g01⟩
                        · simp only [not_or] at hy
                          have HNX := Lib.hid (show upB C l I P (min (K + 1) I) = false by
                            have := HUP.out
                            rw [Nat.min_eq_left (by omega)] at this ⊢
                            rw [HSK.out, this]; simp; omega)
                          have hin := is_in hy.1 hy.2
                          have L1 := fun W => l1In_c y 0 (X - 1) W
                          rw [hin] at L1
                          have L1' := Lib.hid L1
                          clear L1 hy
                          have hki2 : ¬ (I : Int) < (K : Int) := by omega
                          go_wp2_with fail
                          refine (CKK'.out _ (by exact (Rd.grows hd (by exact bel0)))).mono ?_; rintro e w5 ⟨rfl, g5⟩
                          clear b0 b1 b2
                          obtain ⟨b0, b1, b2⟩ := (mb1.grows (w' := w5) (by exact bel2 g5 hg)).cells
                          go_wp2_with fail
                          refine (C1'.out _ (by exact (Rd.grows hd (by exact bel1 g5)))).mono ?_; rintro e w6 ⟨rfl, g6⟩
                          go_wp2_with fail
                          refine (L1'.out _).mono ?_; rintro e w' ⟨rfl, rfl⟩
                          go_wp2_with fail
                          go_round
                          case rel => exact ⟨K + 1, by go_num, by omega, HNX.out, by exact bel3 g6 g5 hg⟩
                          case measure => simp [intOf]; omega
                      · subst hki
                        have HNX := Lib.hid (show upB C l K P (min (K + 1) K) = false by
                          have := HUP.out
                          rw [Nat.min_eq_right (by omega)] at this ⊢
                          exact this)
                        go_wp2_with fail
                        refine (CKK'.out _ (by exact (Rd.grows hd (by exact bel0)))).mono ?_; rintro e w5 ⟨rfl, g5⟩
                        go_wp2_with fail
                        go_round
                        case rel => exact ⟨K + 1, by go_num, by omega, HNX.out, by exact bel2 g5 hg⟩
                        case measure => simp [intOf]; omega
                      · have hki1 : ¬ (K : Int) < (I : Int) := by omega
                        have hki2 : (I : Int) < (K : Int) := by omega
                        by_cases hy : y = 0
                        · have HNX := Lib.hid (show upB C l I P (min (K + 1) I) = false by
                            have := HUP.out
                            rw [Nat.min_eq_right (by omega)] at this ⊢
                            exact this)
                          subst hy
                          go_wp2_with fail
                          refine (CKK'.out _ (by exact (Rd.grows hd (by exact bel0)))).mono ?_; rintro e w5 ⟨rfl, g5⟩
                          go_wp2_with fail
                          go_round
                          case rel => exact ⟨K + 1, by go_num, by omega, HNX.out, by exact bel2 g5 hg⟩
                          case measure => simp [intOf]; omega
                        · have FD := Lib.hid (show herF C l R = none by
                            cases e : herF C l R with
                            | none => rfl
                            | some x => exact absurd (HCK.out hki hlt3 (by unfold herB; rw [e]; rfl)) hy)
                          go_wp2_with fail
                          refine (CKK'.out _ (by exact (Rd.grows hd (by exact bel0)))).mono ?_; rintro e w5 ⟨rfl, g5⟩
                          go_wp2_with fail
                          go_ret
                          exact ⟨ret_bool (by rw [FD.out]; rfl), by exact bel3 g5 hg g01⟩
                    · obtain rfl : K = R := by omega
                      have hup2 : upB C l I P I = false := by have := HUP.out; rw [Nat.min_eq_right (by omega)] at this; exact this
                      have FD := Lib.hid (FG'.out h1 h2 hup2)
                      have HPQ := Lib.hid HPP.out
                      go_wp2_with fail
                      go_round
                      case rel => exact ⟨I + 1, (P : Int), by go_num, by omega, rfl, FD.out, hg⟩
                      case measure => simp [intOf]; omega
      · obtain rfl : I = R := by omega
        go_wp2_with fail
        refine (HS'.out _ (by exact (Rd.grows hd (by exact bel0)))).mono ?_; rintro e w2 ⟨rfl, g2⟩
        go_wp2_with fail
        go_ret
        exact ⟨ret_bool (by rw [HH.out]; rfl), by exact bel3 g2 hg g01⟩
end
end Go.Proofs.Ythajmffhgbenpaa

/- Contracts: the rows of zeros of a matrix; is it a lattice's basis? -/
namespace Go.Proofs.Ythajmffhgbenpaa
set_option linter.unusedSimpArgs false
set_option linter.unusedVariables false
open Go.RowKit

theorem Own.other {w w' : World} {B : Nat} {v o : Value} {m : List Int} (h : Own w B o m) (hg : w.grownBy w' v.ownBlock) (hne : ∀ g, v.ownBlock = some g → o.ownBlock ≠ some g) : Own w' B o m := by
  refine World.ownsRow.kept h hg ?_
  cases e : o.ownBlock with
  | none => exact .inl rfl
  | some g =>
    right
    intro h2
    exact hne g h2.symm e
/-- two rows apart from each other stay so behind an append to one. -/
theorem apart_app {w : World} {B : Nat} {v v' o : Value} {m : List Int} (ho : Own w B o m) (hne : ∀ g, v.ownBlock = some g → o.ownBlock ≠ some g) (h : v'.ownBlock = v.ownBlock ∨ ∃ g, v'.ownBlock = some g ∧ w.heap.size ≤ g) : ∀ g, v'.ownBlock = some g → o.ownBlock ≠ some g := by
  intro g hg hog
  rcases h with h | ⟨g', h1, h2⟩
  · exact hne g (by rw [← h]; exact hg) hog
  · rw [hg] at h1
    cases h1
    have := (World.ownsRow.lt ho g hog).2
    omega

/-! ### plain -/
/-- the rows before i that are not zeros, and those that are -/
def fullR (C : Nat) (l : List Int) : Nat → List Int
  | 0 => []
  | i + 1 => if pv C l i = C then fullR C l i else fullR C l i ++ [(i : Int)]
def zeroR (C : Nat) (l : List Int) : Nat → List Int
  | 0 => []
  | i + 1 => if pv C l i = C then zeroR C l i ++ [(i : Int)] else zeroR C l i
theorem fullR_length (C : Nat) (l : List Int) (i : Nat) : (fullR C l i).length ≤ i := by
  induction i with
  | zero => simp [fullR]
  | succ i ih => rw [fullR]; split <;> (try simp) <;> omega
theorem zeroR_length (C : Nat) (l : List Int) (i : Nat) : (zeroR C l i).length ≤ i := by
  induction i with
  | zero => simp [zeroR]
  | succ i ih => rw [zeroR]; split <;> (try simp) <;> omega
theorem zb_pv {R C i : Nat} {l : List Int} (hl : l.length = R * C) (hi : i < R) : zeroB (rowL C l i) = decide (pv C l i = C) := by
  unfold zeroB
  rw [rowL_length (by rw [hl]; exact Nat.mul_le_mul_right C hi)]
  by_cases h : pv C l i = C
  · rw [show (fnz (rowL C l i) == C) = true by rw [beq_iff_eq]; exact h]; simp [h]
  · rw [show (fnz (rowL C l i) == C) = false by rw [beq_eq_false_iff_ne]; exact h]; simp [h]
theorem zeroR_nil {C : Nat} {l : List Int} {n : Nat} : zeroR C l n = [] ↔ ∀ i, i < n → pv C l i ≠ C := by
  induction n with
  | zero => simp [zeroR]
  | succ n ih =>
    rw [zeroR]
    split
    · rename_i h
      simp only [List.append_eq_nil_iff, List.cons_ne_self, and_false, false_iff]
      intro h2; exact h2 n (by omega) h
    · rename_i h
      rw [ih]
      constructor
      · intro h2 i hi
        by_cases e : i = n
        · subst e; exact h
        · exact h2 i (by omega)
      · intro h2 i hi; exact h2 i (by omega)
/-- 1 + the last row before i that is not zeros -/
def nzN (C : Nat) (l : List Int) : Nat → Nat
  | 0 => 0
  | i + 1 => if pv C l i = C then nzN C l i else i + 1
theorem nzN_le (C : Nat) (l : List Int) (i : Nat) : nzN C l i ≤ i := by
  induction i with
  | zero => simp [nzN]
  | succ i ih => rw [nzN]; split <;> omega
/-- behind a row of zeros there are rows of zeros only -/
theorem her_zero {R C : Nat} {l : List Int} (hl : l.length = R * C) {k : Nat} {last' : Int} (h' : herF C l k = some last') (hk : k ≤ R) {i j : Nat} (hi : pv C l i = C) (hij : i < j) (hjk : j < k) : pv C l j = C := by
  have step : ∀ m, m < k → herF C l m = some (C : Int) → pv C l m = C ∧ herF C l (m + 1) = some (C : Int) := by
    intro m hm hf
    have hp : pv C l m = C := by
      cases e : herF C l (m + 1) with
      | none => rw [herF_none e (by omega)] at h'; cases h'
      | some x =>
        rw [herF, hf] at e
        simp only [Option.bind_some] at e
        split at e
        · assumption
        · split at e
          · cases e
          · rename_i hh
            have := pv_le (i := m) hl (by omega)
            simp only [Bool.or_eq_true, decide_eq_true_eq, not_or] at hh
            omega
    exact ⟨hp, herF_zero hf hp⟩
  have base : herF C l (i + 1) = some (C : Int) := by
    cases e : herF C l i with
    | none => rw [herF_none e (by omega)] at h'; cases h'
    | some x => exact herF_zero e hi
  have all : ∀ d, i + 1 + d ≤ k → herF C l (i + 1 + d) = some (C : Int) := by
    intro d
    induction d with
    | zero => intro _; exact base
    | succ d ih => intro hd; exact (step (i + 1 + d) (by omega) (ih (by omega))).2
  have := all (j - i - 1) (by omega)
  rw [show i + 1 + (j - i - 1) = j by omega] at this
  exact (step j hjk this).1
theorem nzN_zeroR {R C : Nat} {l : List Int} (hl : l.length = R * C) (h : herB R C l = true) : decide (nzN C l R = R) = decide ((zeroR C l R).length = 0) := by
  rw [decide_eq_decide, List.length_eq_zero_iff, zeroR_nil]
  obtain ⟨x, hx⟩ := Option.isSome_iff_exists.1 h
  constructor
  · intro hn i hi hp
    cases R with
    | zero => omega
    | succ R =>
      rw [nzN] at hn
      split at hn
      · have := nzN_le C l R; omega
      · rename_i hne
        by_cases e : i = R
        · exact hne (e ▸ hp)
        · exact hne (her_zero hl hx (Nat.le_refl _) hp (by omega) (by omega))
  · intro hall
    cases R with
    | zero => rfl
    | succ R => rw [nzN, if_neg (hall R (by omega))]
def latB (r c : Int) (l : List Int) : Bool := (isMat r c l && herB r.toNat c.toNat l) && decide ((zeroR c.toNat l r.toNat).length = 0)

section
set_option maxHeartbeats 1000000
theorem split_c (R C : Nat) (A : Option Addr) (l : List Int) (n cap : Nat) (w : World) (hn : l.length = n) (hlen : n = R * C) (hR : R ≤ 24) (hC : C ≤ 24) (hcap : n ≤ cap) (hcap2 : cap ≤ 9223372036854775807) (ha : Rd w A l) :
    Calls Try.prog 55 #[.agg #[.int .i64 R, .int .i64 C, .slice A n cap]] w fun e w' => ∃ v1 v2, e = .returned (.tuple #[v1, v2]) ∧ Own w' w.heap.size v1 (fullR C l R) ∧ Own w' w.heap.size v2 (zeroR C l R) ∧ Grows w w' := by
  obtain ⟨w1, hw1⟩ : ∃ w1, w1 = w.alloc (.cells #[.int .i64 R, .int .i64 C, .slice A n cap] 26) := ⟨_, rfl⟩
  have mb1 : MBox w1 w.heap.size R C (.slice A n cap) := by rw [hw1]; exact MBox.mk_ _ _ _ _ _
  have g01 : Grows w w1 := by rw [hw1]; exact bel0
  have hs1 : w1.heap.size = w.heap.size + 1 := by rw [hw1]; simp
  have HW1 := Lib.hid hw1
  have ha1 : Rd w1 A l := ha.grows g01
  clear hw1
  have hRC : R * C ≤ 576 := Nat.mul_le_mul hR hC
  have HN := Lib.hid hn
  have HL := Lib.hid hlen
  have HZB := Lib.hid fun i (hi : i < R) => zb_pv (i := i) (hn.trans hlen) hi
  clear hn hlen
  go_enter Try.func55, Try.ntmps55
  go_wp2_with fail
  rw [← HW1.out]
  go_loopw [4, 5, 6] (fun f z i wr => ∃ (I : Nat), i = .int .i64 I ∧ I ≤ R ∧ Own wr w1.heap.size f (fullR C l I) ∧ Own wr w1.heap.size z (zeroR C l I) ∧ (∀ g, f.ownBlock = some g → z.ownBlock ≠ some g) ∧ Grows w1 wr) (fun _ _ i _ => R - (intOf i).toNat)
  case atStart => exact ⟨0, rfl, Nat.zero_le _, Own.alloc (Own.new_ _ (by simp [hs1]) (by simp [hs1])) _, Own.new_ _ (by simp [hs1]) (by simp [hs1]), by simp [Value.ownBlock], by exact bel0⟩
  case round =>
    obtain ⟨I, rfl, hI, hof, hoz, hne, hg⟩ := hrel
    have HNE := Lib.hid hne
    clear hne
    obtain ⟨b0, b1, b2⟩ := (mb1.grows hg).cells
    have hd := ha1.grows hg
    obtain ⟨A1, c1, rfl, _, _⟩ := hof.val
    obtain ⟨A2, c2, rfl, _, _⟩ := hoz.val
    have hfl := fullR_length C l I
    have hzl := zeroR_length C l I
    by_cases hlt : I < R
    · have hIR : (I + 1) * C ≤ R * C := Nat.mul_le_mul_right C hlt
      have hIC : I * C + C ≤ R * C := by have := hIR; rw [Nat.add_mul, Nat.one_mul] at this; exact this
      have CR := Lib.hid fun W => row_c R C A l n cap I I W rfl HN.out hcap hcap2 (by have := HL.out; omega) (by omega) (by omega)
      have rr := rowA_rd (cap := cap) (C := C) (I := I) hd (by rw [HN.out, HL.out]; exact hIR) (by rw [HN.out]; exact hcap)
      have rl : (rowL C l I).length = C := rowL_length (by rw [HN.out, HL.out]; exact hIR)
      have CF := fun W h => isZeroRow_c (rowA cap C A I) (rowL C l I) C (cap - I * C) W rl h (by omega)
      rw [HZB.out I hlt] at CF
      have RR := Lib.hid rr
      clear rl hIR hIC rr
      generalize rowA cap C A I = dS at *
      by_cases hz : pv C l I = C
      · rw [decide_eq_true hz] at CF
        have CF' := Lib.hid CF
        have F1 := Lib.hid (show fullR C l (I + 1) = fullR C l I by rw [fullR, if_pos hz])
        have F2 := Lib.hid (show zeroR C l (I + 1) = zeroR C l I ++ [(I : Int)] by rw [zeroR, if_pos hz])
        clear CF hz
        go_wp2_with fail
        refine (CR.out _).mono ?_; rintro e w3 ⟨rfl, g3⟩
        have hrs := RR.out
        go_wp2_with fail
        refine (CF'.out _ (by exact (Rd.grows hrs (by exact bel1 g3)))).mono ?_; rintro e w' ⟨rfl, rfl⟩
        clear b0 b1 b2 hrs
        have hof3 := hof.grows (w' := w3) (by exact bel1 g3)
        have hoz3 := hoz.grows (w' := w3) (by exact bel1 g3)
        have h13 : w1.heap.size ≤ w3.heap.size := Below.size (show Grows w1 w3 by exact bel2 g3 hg)
        generalize fullR C l I = fl at *
        generalize zeroR C l I = zl at *
        go_wp2_with (at_builtin; refine wpList_app1 rfl (.tmp 19) (.tmp 21) rfl _ (I : Int) w1.heap.size _ zl (by rfl) hoz3 (by rfl) (by omega) (by omega) ?_; intro v7 w7 ho7 hg7 hv7)
        have hb7 := below_app hoz3 h13 hg7
        have hof7 := Own.other hof3 hg7 (fun g h h2 => HNE.out g h2 h)
        have hap := apart_app hof3 (fun g h h2 => HNE.out g h2 h) hv7
        clear hg7
        go_wp2_with fail
        go_round
        case rel => exact ⟨I + 1, by go_num, by omega, by rw [F1.out]; exact hof7, by rw [F2.out]; exact ho7, fun g h h2 => hap g h2 h, Below.trans (show Grows w1 w3 by exact bel2 g3 hg) hb7⟩
        case measure => simp [intOf]; omega
      · rw [decide_eq_false hz] at CF
        have CF' := Lib.hid CF
        have F1 := Lib.hid (show fullR C l (I + 1) = fullR C l I ++ [(I : Int)] by rw [fullR, if_neg hz])
        have F2 := Lib.hid (show zeroR C l (I + 1) = zeroR C l I by rw [zeroR, if_neg hz])
        clear CF hz
        go_wp2_with fail
        refine (CR.out _).mono ?_; rintro e w3 ⟨rfl, g3⟩
        have hrs := RR.out
        go_wp2_with fail
        refine (CF'.out _ (by exact (Rd.grows hrs (by exact bel1 g3)))).mono ?_; rintro e w' ⟨rfl, rfl⟩
        clear b0 b1 b2 hrs
        have hof3 := hof.grows (w' := w3) (by exact bel1 g3)
        have hoz3 := hoz.grows (w' := w3) (by exact bel1 g3)
        have h13 : w1.heap.size ≤ w3.heap.size := Below.size (show Grows w1 w3 by exact bel2 g3 hg)
        generalize fullR C l I = fl at *
        generalize zeroR C l I = zl at *
        go_wp2_with (at_builtin; refine wpList_app1 rfl (.tmp 23) (.tmp 25) rfl _ (I : Int) w1.heap.size _ fl (by rfl) hof3 (by rfl) (by omega) (by omega) ?_; intro v7 w7 ho7 hg7 hv7)
        have hb7 := below_app hof3 h13 hg7
        have hoz7 := Own.other hoz3 hg7 HNE.out
        have hap := apart_app hoz3 HNE.out hv7
        clear hg7
        go_wp2_with fail
        go_round
        case rel => exact ⟨I + 1, by go_num, by omega, by rw [F1.out]; exact ho7, by rw [F2.out]; exact hoz7, hap, Below.trans (show Grows w1 w3 by exact bel2 g3 hg) hb7⟩
        case measure => simp [intOf]; omega
    · obtain rfl : I = R := by omega
      go_wp2_with fail
      go_ret2
      exact ⟨_, _, rfl, hof.less (Below.size g01), hoz.less (Below.size g01), by exact bel2 hg g01⟩
theorem l12Rows_c (R C : Nat) (A : Option Addr) (l : List Int) (n cap : Nat) (w : World) (hn : l.length = n) (hlen : n = R * C) (hR : R ≤ 24) (hC : C ≤ 24) (ha : Rd w A l) :
    Calls Try.prog 59 #[.agg #[.int .i64 R, .int .i64 C, .slice A n cap]] w fun e w' => e = .returned (.int .i64 (nzN C l R)) ∧ Grows w w' := by
  obtain ⟨w1, hw1⟩ : ∃ w1, w1 = w.alloc (.cells #[.int .i64 R, .int .i64 C, .slice A n cap] 26) := ⟨_, rfl⟩
  have mb1 : MBox w1 w.heap.size R C (.slice A n cap) := by rw [hw1]; exact MBox.mk_ _ _ _ _ _
  have g01 : Grows w w1 := by rw [hw1]; exact bel0
  have HW1 := Lib.hid hw1
  have ha1 : Rd w1 A l := ha.grows g01
  clear hw1
  have hRC : R * C ≤ 576 := Nat.mul_le_mul hR hC
  have HB : ∀ i, i < R → i * C ≤ 576 := fun i hi => by have := Nat.mul_le_mul_right C (Nat.le_of_lt hi); omega
  have CC := Lib.hid fun (i : Nat) (hi : i < R) (j : Nat) (hj : j < C) W h => l12Cell_c R C A l n cap i j W hn h (castMul i C) (by have := castMulLe (HB i hi); omega) (castPos i C j) (castLt (by rw [hn, hlen]; exact idx_lt hi hj)) (by rw [hn, hlen]; omega)
  have HPV := Lib.hid fun i hi => pv_le (R := R) (i := i) (hn.trans hlen) hi
  have HNE := Lib.hid fun i hi h => pv_ne (R := R) (i := i) (hn.trans hlen) hi h
  have HZE := Lib.hid fun i j (hj : j < C) h => pv_zero (l := l) (i := i) hj h
  clear hn hlen HB
  go_enter Try.func59, Try.ntmps59
  go_wp2_with fail
  rw [← HW1.out]
  go_loopw [3, 4] (fun q i wr => ∃ (I : Nat), i = .int .i64 I ∧ I ≤ R ∧ q = .int .i64 (nzN C l I : Nat) ∧ Grows w1 wr) (fun _ i _ => R - (intOf i).toNat)
  case atStart => exact ⟨0, rfl, Nat.zero_le _, rfl, by exact bel0⟩
  case round =>
    obtain ⟨I, rfl, hI, rfl, hg⟩ := hrel
    obtain ⟨b0, b1, b2⟩ := (mb1.grows hg).cells
    by_cases hlt : I < R
    · have hNX := Lib.hid (show nzN C l (I + 1) = if pv C l I = C then nzN C l I else I + 1 from rfl)
      generalize hq : nzN C l I = q at *
      go_wp2_with fail
      obtain ⟨wo, rfl⟩ : ∃ wo : World, wo = wr := ⟨_, rfl⟩
      go_loopw [3, 5] (fun x j wr => ∃ (J : Nat), j = .int .i64 J ∧ J ≤ C ∧ x = .int .i64 ((if pv C l I < J then I + 1 else q : Nat)) ∧ Grows w1 wr) (fun _ j _ => C - (intOf j).toNat)
      case atStart => exact ⟨0, rfl, Nat.zero_le _, rfl, hg⟩
      case round =>
        clear hg b0 b1 b2
        obtain ⟨J, rfl, hJ, rfl, hg⟩ := hrel
        obtain ⟨b0, b1, b2⟩ := (mb1.grows hg).cells
        have hd := ha1.grows hg
        have hIi : (I : Int) < (R : Int) := by omega
        by_cases hlt2 : J < C
        · have C1 := fun W h => CC.out I hlt J hlt2 W h
          rw [castIdx] at C1
          have hz0 := fun h => HZE.out I J hlt2 h
          have hz1 := fun (h : J = pv C l I) => HNE.out I hlt (by omega)
          have hz1' : J = pv C l I → nth l (I * C + J) ≠ 0 := fun h => by rw [h]; exact hz1 h
          clear hz1
          generalize nth l (I * C + J) = x at *
          have C1' := Lib.hid C1
          clear C1
          have HX : (if pv C l I < J + 1 then I + 1 else q) = if x = 0 then (if pv C l I < J then I + 1 else q) else I + 1 := by
            rcases Nat.lt_trichotomy J (pv C l I) with h | h | h
            · rw [if_neg (by omega), if_pos (hz0 h), if_neg (by omega)]
            · rw [if_pos (by omega), if_neg (hz1' h)]
            · rw [if_pos (by omega), if_pos h]; split <;> rfl
          have HX' := Lib.hid HX
          clear HX hz0 hz1'
          generalize (if pv C l I < J then I + 1 else q) = y at *
          by_cases hx : x = 0
          · have HX2 := Lib.hid (HX'.out.trans (if_pos hx))
            subst hx
            go_wp2_with fail
            refine (C1'.out _ (by exact (Rd.grows hd (by exact bel0)))).mono ?_; rintro e w3 ⟨rfl, g3⟩
            go_wp2_with fail
            go_round
            case rel => exact ⟨J + 1, by go_num, by omega, by rw [HX2.out], by exact bel2 g3 hg⟩
            case measure => simp [intOf]; omega
          · have HX2 := Lib.hid (HX'.out.trans (if_neg hx))
            go_wp2_with fail
            refine (C1'.out _ (by exact (Rd.grows hd (by exact bel0)))).mono ?_; rintro e w3 ⟨rfl, g3⟩
            go_wp2_with fail
            go_round
            case rel => exact ⟨J + 1, by go_num, by omega, by rw [HX2.out]; go_num, by exact bel2 g3 hg⟩
            case measure => simp [intOf]; omega
        · obtain rfl : J = C := by omega
          have HX := Lib.hid (show nzN J l (I + 1) = if pv J l I < J then I + 1 else q by
            rw [hNX.out]
            have := HPV.out I hlt
            by_cases h : pv J l I = J
            · rw [if_pos h, if_neg (by omega)]
            · rw [if_neg h, if_pos (by omega)])
          generalize (if pv J l I < J then I + 1 else q) = y at *
          go_wp2_with fail
          go_round
          case rel => exact ⟨I + 1, by go_num, by omega, by rw [HX.out], hg⟩
          case measure => simp [intOf]; omega
    · obtain rfl : I = R := by omega
      go_wp2_with fail
      go_ret
      exact ⟨rfl, by exact bel2 hg g01⟩
theorem latB_parts {r c : Int} {l : List Int} (h : latB r c l = true) : isMat r c l = true ∧ herB r.toNat c.toNat l = true ∧ ∀ i, i < r.toNat → pv c.toNat l i ≠ c.toNat := by
  unfold latB at h
  simp only [Bool.and_eq_true, decide_eq_true_eq] at h
  exact ⟨h.1.1, h.1.2, zeroR_nil.1 (List.length_eq_zero_iff.1 h.2)⟩
theorem iIsLat_c (r c : Int) (A : Option Addr) (l : List Int) (n cap : Nat) (w : World) (hn : l.length = n) (hcap : n ≤ cap) (hcap2 : cap ≤ 9223372036854775807) (ha : Rd w A l) (hl : n ≤ 1099511627776) :
    Calls Try.prog 19 #[.agg #[.int .i64 r, .int .i64 c, .slice A n cap]] w fun e w' => e = .returned (.bool (latB r c l)) ∧ Grows w w' := by
  have HS := fun w h => iHer_c r c A l n cap w hn hcap hcap2 h hl
  obtain ⟨w1, hw1⟩ : ∃ w1, w1 = w.alloc (.cells #[.int .i64 r, .int .i64 c, .slice A n cap] 26) := ⟨_, rfl⟩
  have mb1 : MBox w1 w.heap.size r c (.slice A n cap) := by rw [hw1]; exact MBox.mk_ _ _ _ _ _
  have g01 : Grows w w1 := by rw [hw1]; exact bel0
  have ha1 : Rd w1 A l := ha.grows g01
  have HW1 := Lib.hid hw1
  clear hw1
  unfold latB
  cases hq : isMat r c l && herB r.toNat c.toNat l
  · rw [hq] at HS
    have HS' := Lib.hid HS
    clear HS hq hn
    go_enter Try.func19, Try.ntmps19
    go_wp2_with fail
    refine (HS'.out _ (by exact (Rd.grows ha (by exact bel0)))).mono ?_; rintro e w2 ⟨rfl, g2⟩
    go_wp2_with fail
    go_ret
    exact ⟨by simp, by exact bel1 g2⟩
  · rw [hq] at HS
    have HS' := Lib.hid HS
    rw [Bool.and_eq_true] at hq
    obtain ⟨R, C, rfl, rfl, hR, hC, hlen, hnum⟩ := isMat_nat hq.1
    have HSP := Lib.hid fun W h => split_c R C A l n cap W hn (hn.symm.trans hlen) hR hC hcap hcap2 h
    simp only [Int.toNat_natCast, Bool.true_and]
    have HZL := Lib.hid (zeroR_length C l R)
    clear HS hq hn hlen hnum
    have hzl := HZL.out
    obtain ⟨Z, hZ⟩ : ∃ Z, Z = decide ((zeroR C l R).length = 0) := ⟨_, rfl⟩
    rw [← hZ]
    have HZ := Lib.hid hZ
    clear hZ
    go_enter Try.func19, Try.ntmps19
    go_wp2_with fail
    refine (HS'.out _ (by exact (Rd.grows ha (by exact bel0)))).mono ?_; rintro e w2 ⟨rfl, g2⟩
    rw [← HW1.out] at g2
    obtain ⟨b0, b1, b2⟩ := (mb1.grows g2).cells
    go_wp2_with fail
    refine (HSP.out _ (by exact (Rd.grows ha1 (by exact bel1 g2)))).mono ?_; rintro e w3 ⟨v1, v2, rfl, o1, o2, g3⟩
    obtain ⟨A1, c1, rfl, _, _⟩ := o1.val
    obtain ⟨A2, c2, rfl, _, _⟩ := o2.val
    go_wp2_with fail
    go_ret
    refine ⟨ret_bool ?_, by exact bel3 g3 g2 g01⟩
    rw [HZ.out]
    by_cases h : (zeroR C l R).length = 0
    · simp [h]
    · simp [h]
theorem sIsLat_c (r c : Int) (A : Option Addr) (l : List Int) (n cap : Nat) (w : World) (hn : l.length = n) (ha : Rd w A l) (hl : n ≤ 1099511627776) :
    Calls Try.prog 22 #[.agg #[.int .i64 r, .int .i64 c, .slice A n cap]] w fun e w' => e = .returned (.bool (latB r c l)) ∧ Grows w w' := by
  have HS := fun w h => sHer_c r c A l n cap w hn h hl
  obtain ⟨w1, hw1⟩ : ∃ w1, w1 = w.alloc (.cells #[.int .i64 r, .int .i64 c, .slice A n cap] 26) := ⟨_, rfl⟩
  have mb1 : MBox w1 w.heap.size r c (.slice A n cap) := by rw [hw1]; exact MBox.mk_ _ _ _ _ _
  have g01 : Grows w w1 := by rw [hw1]; exact bel0
  have ha1 : Rd w1 A l := ha.grows g01
  have HW1 := Lib.hid hw1
  clear hw1
  unfold latB
  cases hq : isMat r c l && herB r.toNat c.toNat l
  · rw [hq] at HS
    have HS' := Lib.hid fun W h => HS W h
    clear HS hq hn
    go_enter Try.func22, Try.ntmps22
    go_wp2_with fail
    rw [← HW1.out]
    obtain ⟨x0, x1, x2⟩ := mb1.ext
    ((refine wp_region_ext (by kernel_rfl) (by kernel_rfl) ?_); (repeat (go_big_quiet_step ((go_at_call 58; with_reducible exact extC (HS'.out _ (Rd.ext ha1 _)))))); refine wpQuiet_nil ?_; rintro w5 ⟨w50, hw50⟩; have g5 := grows_of_ext hw50; clear hw50 w50)
    go_wp2_with fail
    go_ret
    exact ⟨by simp, by exact bel2 g5 g01⟩
  · rw [hq] at HS
    have HS' := Lib.hid fun W h => HS W h
    rw [Bool.and_eq_true] at hq
    have HNZ := Lib.hid hq.2
    obtain ⟨R, C, rfl, rfl, hR, hC, hlen, hnum⟩ := isMat_nat hq.1
    have HSP := Lib.hid fun W h => l12Rows_c R C A l n cap W hn (hn.symm.trans hlen) hR hC h
    have HZ := Lib.hid (nzN_zeroR hlen hq.2)
    simp only [Int.toNat_natCast, Bool.true_and]
    clear HS hq hn hlen hnum
    rw [← HZ.out]
    have HZ2 := nzN_le C l R
    generalize nzN C l R = q at *
    go_enter Try.func22, Try.ntmps22
    go_wp2_with fail
    rw [← HW1.out]
    obtain ⟨x0, x1, x2⟩ := mb1.ext
    ((refine wp_region_ext (by kernel_rfl) (by kernel_rfl) ?_); (repeat (go_big_quiet_step ((first | (go_at_call 58; with_reducible exact extC (HS'.out _ (Rd.ext ha1 _))) | (go_at_call 59; with_reducible exact extC (HSP.out _ (Rd.ext ha1 _))))))); refine wpQuiet_nil ?_; rintro w5 ⟨w50, hw50⟩; have g5 := grows_of_ext hw50; clear hw50 w50)
    go_wp2_with fail
    go_ret
    refine ⟨ret_bool ?_, by exact bel2 g5 g01⟩
    by_cases h : q = R
    · simp [h]
    · simp [h]; omega
end
end Go.Proofs.Ythajmffhgbenpaa

/- Contracts: a copy of a matrix; a matrix times a number. -/
namespace Go.Proofs.Ythajmffhgbenpaa
set_option linter.unusedSimpArgs false
set_option linter.unusedVariables false
open Go.RowKit

def scL (k : Int) (l : List Int) : List Int := l.map (· * k)
def scO (a : MX) (k : Int) : Option MX := if a.ok && isNum k && allNum (scL k a.l) then some ⟨a.r, a.c, scL k a.l⟩ else none
theorem scO_no {a : MX} {k : Int} (h : a.ok = false ∨ isNum k = false) : scO a k = none := by
  unfold scO; rw [if_neg]; rcases h with h | h <;> simp [h]
theorem scL_nth (k : Int) (l : List Int) (i : Nat) (h : i < l.length) : nth (scL k l) i = nth l i * k := by
  rw [nth_get _ _ (by simp [scL]; exact h), nth_get _ _ h]; simp [scL]
/-- the first i cells are done -/
def ScD (k : Int) (l : List Int) (i : Nat) (m : List Int) : Prop := m.length = l.length ∧ ∀ j, j < i → nth m j = nth l j * k
theorem ScD.set {k : Int} {l m : List Int} {i : Nat} (h : ScD k l i m) (hi : i < l.length) : ScD k l (i + 1) (m.set i (nth l i * k)) := by
  refine ⟨by rw [List.length_set]; exact h.1, fun j hj => ?_⟩
  rw [nth_set _ _ _ _ (by rw [h.1]; exact hi)]
  split
  · rename_i e; rw [e]
  · exact h.2 j (by omega)
theorem ScD.all {k : Int} {l m : List Int} (h : ScD k l l.length m) : m = scL k l :=
  nth_ext (by rw [h.1]; simp [scL]) fun i hi => by rw [h.2 i (by rw [← h.1]; exact hi), scL_nth _ _ _ (by rw [← h.1]; exact hi)]
theorem scO_yes {R C : Nat} {k : Int} {l : List Int} (h : isMat R C l = true) (hk : isNum k = true) : isMat R C (scL k l) = allNum (scL k l) ∧ scO ⟨R, C, l⟩ k = if allNum (scL k l) then some ⟨R, C, scL k l⟩ else none := by
  obtain ⟨R', C', e1, e2, hR, hC, hl, hn⟩ := isMat_nat h
  obtain rfl : R = R' := by omega
  obtain rfl : C = C' := by omega
  refine ⟨isMat_made hR hC (by simp [scL, hl]), ?_⟩
  unfold scO MX.ok
  simp only [h, hk, Bool.true_and]
theorem scO_ok {a m : MX} {k : Int} (h : scO a k = some m) : m.ok = true := by
  unfold scO at h
  split at h
  · rename_i hh
    cases h
    simp only [Bool.and_eq_true] at hh
    obtain ⟨R, C, e1, e2, hR, hC, hl, hn⟩ := isMat_ok hh.1.1
    have := hh.1.1
    unfold MX.ok at this ⊢
    simp only [e1, e2] at this ⊢
    rw [(scO_yes this hh.1.2).1]; exact hh.2
  · cases h

section
set_option maxHeartbeats 1000000
theorem copyM_c (r c : Int) (A : Option Addr) (l : List Int) (n cap : Nat) (w : World) (hn : l.length = n) (ha : Rd w A l) (hl : n ≤ 1099511627776) :
    Calls Try.prog 117 #[.agg #[.int .i64 r, .int .i64 c, .slice A n cap]] w (Mat1 ⟨r, c, l⟩ w) := by
  obtain ⟨w1, hw1, mg, mr, hs1, g01⟩ := one_mat w r c (.slice A n cap)
  have HW1 := Lib.hid hw1
  have HS1 := Lib.hid hs1
  have ha1 : Rd w1 A l := ha.grows g01
  have HN := Lib.hid hn
  clear hw1 hs1 hn
  go_enter Try.func117, Try.ntmps117
  go_wp2_with (
      at_builtin
      rw [← HW1.out]
      refine wpList_app rfl (.tmp 3) (.tmp 5) rfl _ w1.heap.size _ [] (by rfl) (Own.new_ _ (by have := HS1.out; omega) (by have := HS1.out; omega)) A l n cap (by rfl) HN.out (by exact (Rd.grows ha1 (by exact bel0))) (by simp; have := HN.out; omega) (by simp) ?_
      intro v7 w7 ho7 hg7 hv7
      have hne : ∀ b, b < w1.heap.size → ∀ g, (Value.slice (some ⟨w.heap.size + 1 + 1, 0, none⟩) 0 0).ownBlock = some g → g ≠ b := by
        intro b hb g hg
        have := HS1.out
        simp [Value.ownBlock] at hg
        omega
      have mg7 := (mg.alloc (.cells #[] 3)).own hg7 (hne _ mg.lt)
      have mr7 := (mr.alloc (.cells #[] 3)).own hg7 (hne _ mr.lt)
      have hb7 : Below w1.heap.size (w1.alloc (.cells #[] 3)) w7 := below_app (Own.new_ _ (by have := HS1.out; omega) (by have := HS1.out; omega)) (by simp) hg7
      have g17 : Grows w1 w7 := Below.trans (show Grows w1 (w1.alloc (.cells #[] 3)) by exact bel0) hb7
      rw [List.nil_append] at ho7
      obtain ⟨A7, c7, rfl, _, _⟩ := ho7.val
      have mg8 := mg7.put2 (.slice A7 l.length c7)
      have mr8 := mr7.far (p := ⟨w.heap.size, 2, none⟩) (by simp) (.slice A7 l.length c7)
      have ho8 := ho7.low (p := ⟨w.heap.size, 2, none⟩) mg.lt (.slice A7 l.length c7)
      have hs1 := HS1.out
      have ho9 := ho8.less (B' := w.heap.size) (by omega)
      obtain ⟨a0, a1, a2⟩ := mg7.cells
      have af := mg7.fz
      have al := mg7.lt
      obtain ⟨b0, b1, b2⟩ := mg8.cells
      obtain ⟨r0, r1, r2⟩ := mr8.cells
      have rf := mr8.fz
      have rl := mr8.lt
      clear hs1)
  refine bodyPost_ret (v := .agg #[.int .i64 r, .int .i64 c, .slice A7 l.length c7]) ?_ rfl ?_
  · simp [results, Try.results117, go_sem, r0, r1, r2, rf, rl]
  · have hs2 := Below.size g17
    have hs1 := HS1.out
    refine ⟨_, rfl, ?_, ?_⟩
    · have hf : ∀ g, (Value.slice A7 l.length c7).ownBlock = some g → g ≠ w.heap.size + 1 := fun g hg => by have := (World.ownsRow.lt ho7 g hg).1; omega
      exact ((ho9.far (p := ⟨w.heap.size + 1, 0, none⟩) hf _).far (p := ⟨w.heap.size + 1, 1, none⟩) hf _).far (p := ⟨w.heap.size + 1, 2, none⟩) hf _
    · exact bel2 g17 g01
/-- a lattice times n -/
def slO (a : MX) (k : Int) : Option MX := if latB a.r a.c a.l && decide (1 ≤ k) then scO a k else none
theorem slO_ok {a m : MX} {k : Int} (h : slO a k = some m) : m.ok = true := by
  unfold slO at h
  split at h
  · exact scO_ok h
  · cases h
end
end Go.Proofs.Ythajmffhgbenpaa
