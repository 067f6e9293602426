/- Contracts: rows of matrices as slices of them; copies into own rows. -/
import Derived.Test.YtpfijhcjempfjaaDet
import Derived.Laws.CopyRow
import Derived.Laws.IdiomCopy
namespace Go.Proofs.Ytpfijhcjempfjaa
open Go.RowKit

/-- the cells of row i -/
def rowL (C : Nat) (l : List Int) (i : Nat) : List Int := (l.take ((i + 1) * C)).drop (i * C)
theorem rowL_length {C i : Nat} {l : List Int} (h : (i + 1) * C ≤ l.length) : (rowL C l i).length = C := by
  unfold rowL; rw [List.length_drop, List.length_take, Nat.min_eq_left h, Nat.add_mul, Nat.one_mul]; omega
theorem rowL_nth {C i j : Nat} {l : List Int} (hj : j < C) : nth (rowL C l i) j = nth l (i * C + j) := by
  unfold rowL nth
  simp only [List.getD_eq_getElem?_getD, List.getElem?_drop]
  rw [List.getElem?_take, if_pos (by rw [Nat.add_mul, Nat.one_mul]; omega)]

theorem Rd.take_ {w : World} {A : Option Addr} {l : List Int} (h : Rd w A l) (n : Nat) : Rd w A (l.take n) := fun i hi => by
  rw [List.length_take] at hi
  obtain ⟨b, off, e, hb, hc⟩ := h i (by omega)
  refine ⟨b, off, e, hb, ?_⟩
  rw [hc]
  unfold nth; simp only [List.getD_eq_getElem?_getD, List.getElem?_take, if_pos (show i < n by omega)]
/-- where row I lies -/
def rowA (cap C : Nat) (A : Option Addr) (I : Nat) : Option Addr := if cap = I * C then A else A.map fun x => x.add (I * C)
theorem rowA_rd {W : World} {cap C I : Nat} {A : Option Addr} {l : List Int} (hr : Rd W A l) (h1 : (I + 1) * C ≤ l.length) (hcap : l.length ≤ cap) : Rd W (rowA cap C A I) (rowL C l I) := by
  rw [Nat.add_mul, Nat.one_mul] at h1
  unfold rowA
  by_cases h : cap = I * C
  · rw [if_pos h]
    have : rowL C l I = [] := List.eq_nil_of_length_eq_zero (by rw [rowL_length (by rw [Nat.add_mul, Nat.one_mul]; exact h1)]; omega)
    rw [this]; exact Rd.nil _ _
  · rw [if_neg h]
    have := hr.slice (I * C) ((I + 1) * C) (by rw [Nat.add_mul]; omega) (by rw [Nat.add_mul, Nat.one_mul]; exact h1) cap hcap
    rw [if_neg h, Nat.mul_one] at this
    exact this
theorem rowA_at {cap C I b off : Nat} (h1 : I * C + C ≤ cap) (hC : 0 < C) : rowA cap C (some ⟨b, off, none⟩) I = some ⟨b, off + I * C, none⟩ := by
  unfold rowA
  rw [if_neg (by omega)]
  simp only [Option.map_some]; unfold Addr.add
  by_cases e : I * C = 0 <;> simp [e]

section
set_option maxHeartbeats 1000000
theorem row_c (r : Int) (C : Nat) (A : Option Addr) (l : List Int) (n cap : Nat) (i : Int) (I : Nat) (w : World) (hi : i = I) (hn : l.length = n) (hcap : n ≤ cap) (hcap2 : cap ≤ 9223372036854775807) (hI : (I + 1) * C ≤ n) (hC : C ≤ 1048576) (hI2 : I ≤ 1048576) :
    Calls Try.prog 67 #[.agg #[.int .i64 r, .int .i64 C, .slice A n cap], .int .i64 i] w fun e w' => e = .returned (.slice (rowA cap C A I) C (cap - I * C)) ∧ Grows w w' := by
  subst hi
  have h1 : I * C + C ≤ n := by have := hI; rw [Nat.add_mul, Nat.one_mul] at this; exact this
  have hIC : I * C ≤ 1099511627776 := Nat.mul_le_mul hI2 hC
  have k0 := castMul I C
  have k1 : (I : Int) * (C : Int) ≤ ((1099511627776 : Nat) : Int) := castMulLe hIC
  have k2 : ((I : Int) + 1) * (C : Int) = (I : Int) * (C : Int) + (C : Int) := by rw [Int.add_mul, Int.one_mul]
  have k4 : ((I : Int) + 1) * (C : Int) ≤ (n : Int) := by rw [k2, ← Int.natCast_mul]; omega
  have k5 : (I : Int) * (C : Int) ≤ ((I : Int) + 1) * (C : Int) := by rw [k2]; omega
  have k6 : ((I : Int) + 1) * (C : Int) ≤ (cap : Int) := by omega
  have K2 := Lib.hid k2
  clear k2
  go_enter Try.func67, Try.ntmps67
  go_wp2_with fail
  all_goals
    have e3 : (I + 1) * C - I * C = C := by rw [Nat.add_mul, Nat.one_mul]; omega
    go_ret
    rw [e3]
    refine ⟨?_, by ((repeat' (first | with_reducible exact Below.refl _ _ | with_reducible assumption | (with_reducible refine Below.setCell ?_ ?_ _) | (with_reducible refine Below.alloc ?_ ?_ _) | (with_reducible refine Below.drew ?_) | (with_reducible refine below_drewN ?_ _))); all_goals (first | omega | (simp; done) | (simp; omega) | (simp [*]; done) | (simp at *; omega)))⟩
  · unfold rowA; first | (rw [if_pos rfl]; rfl) | (rw [if_pos h, show cap - I * C = 0 by omega]; rfl) | (rw [if_pos rfl, Nat.sub_self]; rfl)
  · unfold rowA; rw [if_neg h]; rfl

/-- copy into an own row: the elements from place off on. -/
def lay (l : List Int) (off : Nat) (m : List Int) : List Int := l.take off ++ (m ++ l.drop (off + m.length))
theorem lay_length {l m : List Int} {off : Nat} (h : off + m.length ≤ l.length) : (lay l off m).length = l.length := by simp [lay]; omega
theorem lay_nth_in {l m : List Int} {off j : Nat} (h : off + m.length ≤ l.length) (hj : j < m.length) : nth (lay l off m) (off + j) = nth m j := by
  unfold lay
  rw [nth_append_right _ _ _ (by simp; omega), List.length_take, Nat.min_eq_left (by omega), Nat.add_sub_cancel_left, nth_append_left _ _ _ hj]
theorem lay_nth_out {l m : List Int} {off i : Nat} (h : off + m.length ≤ l.length) (hi : i < off ∨ off + m.length ≤ i) : nth (lay l off m) i = nth l i := by
  unfold lay
  rcases hi with hi | hi
  · rw [nth_append_left _ _ _ (by simp; omega)]
    unfold nth; simp only [List.getD_eq_getElem?_getD, List.getElem?_take, if_pos hi]
  · rw [nth_append_right _ _ _ (by simp; omega), nth_append_right _ _ _ (by simp; omega)]
    unfold nth; simp only [List.getD_eq_getElem?_getD, List.getElem?_drop, List.length_take, Nat.min_eq_left (show off ≤ l.length by omega)]
    rw [show off + m.length + (i - off - m.length) = i by omega]

theorem run_copyI (w : World) (ty : TypeId) (B g n cap off dLen dCap : Nat) (l : List Int) (hown : Own w B (.slice (some ⟨g, 0, none⟩) n cap) l) (hn : l.length = n) (S : Option Addr) (m : List Int) (sLen sCap : Nat) (hr : Rd w S m) (hs : sLen = m.length) (hd : m.length ≤ dLen) (hfit : off + m.length ≤ n)
    (dp : Option Addr) (hdp : 0 < m.length → dp = some ⟨g, off, none⟩) :
    ∃ w', (Builtin.copy_ #[22, 22] ty #[.slice dp dLen dCap, .slice S sLen sCap]).run Try.prog w = .ok (goInt m.length) w' ∧ Own w' B (.slice (some ⟨g, 0, none⟩) n cap) (lay l off m) ∧ w.grownBy w' (some g) := by
  subst hn
  subst hs
  have hsz : (Try.prog.info? 3).map (·.size) = some 1 := by
    obtain ⟨i0, hi0, hz0, hz1, hz2⟩ := info_parts info_int
    rw [hi0]; simp [hz1]
  by_cases hm : m = []
  · subst hm
    refine ⟨w, ?_, by simpa [lay] using hown, World.grownBy.refl _ _⟩
    exact run_copy_none (P := Try.prog) w 22 22 ty 3 dp S dLen dCap 0 sCap Try.underlying22 hsz (by simp)
  · have hpos : 0 < m.length := List.length_pos_iff.2 hm
    obtain rfl := hdp hpos
    obtain ⟨b, o, rfl, _, _⟩ := hr 0 hpos
    rcases hown.2 with ⟨h', _⟩ | ⟨g', cap', cur, h', hBg, hg, hnc, hm1, hcs, htake⟩
    · simp at h'
    · simp only [Value.slice.injEq, Option.some.injEq, Addr.mk.injEq, and_true] at h'
      obtain ⟨rfl, _, rfl⟩ := h'
      have hcell : ∀ j u, (m.map (Value.int .i64))[j]? = some u → w.cell? ((⟨b, o, none⟩ : Addr).add j) = some u := by
        intro j u hu
        rw [List.getElem?_map] at hu
        obtain ⟨x, hx, rfl⟩ := Option.map_eq_some_iff.1 hu
        have hj : j < m.length := (List.getElem?_eq_some_iff.1 hx).1
        have hc := hr.cell j hj
        have hn : nth m j = x := by have := nth_eq m j hj; rw [hx] at this; exact (Option.some.inj this).symm
        rw [hn] at hc
        rw [← hc]
        unfold Addr.add
        by_cases e : j = 0 <;> simp [e]
      have hrun := run_copy_row (P := Try.prog) w 22 22 ty 3 g off dLen dCap ⟨b, o, none⟩ m.length sCap cur 3 (m.map (Value.int .i64)) Try.underlying22 hsz hg
        (by rw [List.length_map]; exact (Nat.min_eq_left hd).symm) hcell (by simp; omega) (ints_oneCell .i64 m)
      rw [List.length_map] at hrun
      refine ⟨_, hrun, ⟨by simp, .inr ⟨g, cap, _, by rw [lay_length hfit], hBg, setRow_heap w g _ _ _ _ hg, by rw [lay_length hfit]; exact hnc, hm1, ?_, ?_⟩⟩, ⟨rfl, rfl, rfl, by simp [World.setRow], fun k hk hne => setRow_other w g k _ (fun e => hne (by rw [e]))⟩⟩
      · simp; omega
      · rw [lay_length hfit]
        unfold lay
        rw [List.map_append, List.map_append, List.map_take, List.map_drop, ← htake]
        simp only [Nat.mul_one]
        rw [List.take_take, Nat.min_eq_left (by omega), List.append_assoc, List.take_append, List.take_append, List.length_take, List.length_map]
        have hcl : cur.toList.length = cap := by simpa using hcs
        rw [Nat.min_eq_left (by omega), List.take_take, Nat.min_eq_right (by omega), List.take_of_length_le (show (m.map (Value.int IntKind.i64)).length ≤ l.length - off by simp; omega), List.drop_take]
        rw [show l.length - off - m.length = l.length - (off + m.length) by omega]

theorem wpList_copyI {ops : Array Oper} {rest : List Oper} {o : Oper} {a : Act} {Q : Exit → Act → World → Prop} (hgd : o.guard = none) (s x : Operand)
    (ho : o.op = .call { callee := .builtin .copy, args := #[s, x], argTypes := #[22, 22] }) (w : World)
    (B g n cap off dLen dCap : Nat) (l : List Int) (hown : Own w B (.slice (some ⟨g, 0, none⟩) n cap) l) (hn : l.length = n) (dp : Option Addr) (hsv : a.eval s = .slice dp dLen dCap)
    (S : Option Addr) (m : List Int) (sLen sCap : Nat) (hx : a.eval x = .slice S sLen sCap) (hr : Rd w S m) (hs : sLen = m.length) (hd : m.length ≤ dLen) (hfit : off + m.length ≤ n)
    (hdp : 0 < m.length → dp = some ⟨g, off, none⟩)
    (h : ∀ w', Own w' B (.slice (some ⟨g, 0, none⟩) n cap) (lay l off m) → w.grownBy w' (some g) → wpList Try.prog ops Q rest (a.put o.dst (goInt m.length)) w') : wpList Try.prog ops Q (o :: rest) a w := by
  obtain ⟨w', hrun, h2, h3⟩ := run_copyI w o.type B g n cap off dLen dCap l hown hn S m sLen sCap hr hs hd hfit dp hdp
  refine wpList_plain hgd fun _ hK => ?_
  unfold Oper.wp execOp
  simp only [ho, resolve, invoke, builtin, Sem.run_bind, Sem.run_pure, Result.andThen_ok, List.map_toArray, List.map_cons, List.map_nil, hsv, hx, hrun]
  exact hK _ _ (h w' h2 h3)
end
end Go.Proofs.Ytpfijhcjempfjaa
