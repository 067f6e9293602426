/- Contracts and lemmas, put together. -/
import Derived.Test.YticmopedbgoflaaPkDr
import Derived.Test.YticmopedbgoflaaPkG
/- Contracts: an operation on the rows of a matrix that is the unit matrix or comes from it. -/
namespace Go.Proofs.Yticmopedbgoflaa
set_option linter.unusedSimpArgs false
set_option linter.unusedVariables false
open Go.RowKit

/-- what comes from the unit matrix by adding multiples of rows to others -/
inductive ElemM (n : Nat) : List Int → Prop
  | one : ElemM n (idL n)
  | add {l : List Int} {i j : Nat} {t : Int} : ElemM n l → i < n → j < n → i ≠ j → isNum t = true → allNum (addT n n i j t l) = true → ElemM n (addT n n i j t l)
theorem ElemM.num {n : Nat} {l : List Int} (h : ElemM n l) : allNum l = true := by
  cases h with
  | one => exact idL_num n
  | add _ _ _ _ _ h => exact h
theorem ElemM.len {n : Nat} {l : List Int} (h : ElemM n l) : l.length = n * n := by
  cases h with
  | one => exact tab_length _ _ _
  | add => exact addT_length _ _ _ _ _ _
/-- such a matrix, or none -/
def MixR (n : Nat) (m : MX) : Prop := m = MX.nil ∨ ∃ l, m = ⟨n, n, l⟩ ∧ ElemM n l
theorem MixR.len {n : Nat} {m : MX} (hn : n ≤ 24) (h : MixR n m) : m.l.length ≤ 576 := by
  rcases h with rfl | ⟨l, rfl, h⟩
  · show ([] : List Int).length ≤ 576; simp
  · show l.length ≤ 576; rw [h.len]; exact Nat.mul_le_mul hn hn
/-- a matrix that is one of these, in memory of its own, and a truth -/
def MixRet (n : Nat) (w : World) (e : Ending) (w' : World) : Prop := ∃ (m : MX) (V : Option Addr) (c : Nat) (ok : Bool), e = .returned (.tuple #[.agg #[.int .i64 m.r, .int .i64 m.c, .slice V m.l.length c], .bool ok]) ∧ MixR n m ∧ Own w' w.heap.size (.slice V m.l.length c) m.l ∧ Grows w w'
section
set_option maxHeartbeats 4000000
set_option maxRecDepth 100000
theorem inIs_c (b : Bool) (x lo hi : Int) (W : World) (h : inB x lo hi = b) : Calls Try.prog 152 #[.int .i64 x, .int .i64 lo, .int .i64 hi] W fun e w' => e = .returned (.bool b) ∧ W = w' := by
  subst h; exact l1In_c x lo hi W
theorem sIsAdd_c (R i j : Nat) (t : Int) (w : World) (hR : R ≤ 24) (hi : i < R) (hj : j < R) (hij : i ≠ j) (ht : isNum t = true) :
    Calls Try.prog 148 #[.agg #[.int .i64 2, .int .i64 i, .int .i64 j, .int .i64 t], .int .i64 R] w fun e w' => e = .returned (.bool true) ∧ Grows w w' := by
  have CN := fun W => sIsNumber_c t W
  rw [ht] at CN
  have CN' := Lib.hid CN
  have C1 := Lib.hid fun W => inIs_c true 2 0 2 W ((inB_iff _ _ _).2 (by omega))
  have C2 := Lib.hid fun W => inIs_c true R 0 24 W ((inB_iff _ _ _).2 (by omega))
  have C3 := Lib.hid fun W => inIs_c true i 0 ((R : Int) - 1) W ((inB_iff _ _ _).2 (by omega))
  have C4 := Lib.hid fun W => inIs_c true j 0 ((R : Int) - 1) W ((inB_iff _ _ _).2 (by omega))
  have e1 : ((j : Int) != (i : Int)) = true := by rw [bne_iff_ne]; omega
  clear CN ht hij
  go_enter Try.func148, Try.ntmps148
  go_wp2_with fail
  refine (C1.out _).mono ?_; rintro e w' ⟨rfl, rfl⟩
  go_wp2_with fail
  refine (C2.out _).mono ?_; rintro e w' ⟨rfl, rfl⟩
  go_wp2_with fail
  refine (C3.out _).mono ?_; rintro e w' ⟨rfl, rfl⟩
  go_wp2_with fail
  refine (C4.out _).mono ?_; rintro e w' ⟨rfl, rfl⟩
  go_wp2_with fail
  refine (CN'.out _).mono ?_; rintro e w' ⟨rfl, rfl⟩
  go_wp2_with fail
  go_ret
  exact ⟨rfl, by exact bel0⟩
theorem sIsNone_c (i j : Nat) (t : Int) (w : World) :
    Calls Try.prog 148 #[.agg #[.int .i64 2, .int .i64 i, .int .i64 j, .int .i64 t], .int .i64 0] w fun e w' => e = .returned (.bool false) ∧ Grows w w' := by
  have C1 := Lib.hid fun W => inIs_c true 2 0 2 W ((inB_iff _ _ _).2 (by omega))
  have C2 := Lib.hid fun W => inIs_c true 0 0 24 W ((inB_iff _ _ _).2 (by omega))
  have C3 := Lib.hid fun W => inIs_c false i 0 (-1) W (by
    cases h : inB (i : Int) 0 (-1)
    · rfl
    · have := (inB_iff _ _ _).1 h; omega)
  go_enter Try.func148, Try.ntmps148
  go_wp2_with fail
  refine (C1.out _).mono ?_; rintro e w' ⟨rfl, rfl⟩
  go_wp2_with fail
  refine (C2.out _).mono ?_; rintro e w' ⟨rfl, rfl⟩
  go_wp2_with fail
  refine (C3.out _).mono ?_; rintro e w' ⟨rfl, rfl⟩
  go_wp2_with fail
  go_ret
  exact ⟨rfl, by exact bel0⟩
theorem mat_op3 (w : World) (r c : Int) (u : Value) (k i j t : Int) :
    ∃ w1, w1 = ((w.alloc (.cells #[.int .i64 r, .int .i64 c, u] 26)).alloc (.cells #[.int .i64 k, .int .i64 i, .int .i64 j, .int .i64 t] 70)).alloc (.cells #[.int .i64 0, .int .i64 0, .slice none 0 0] 26) ∧
      MBox w1 w.heap.size r c u ∧ OBox w1 (w.heap.size + 1) k i j t ∧ MBox w1 (w.heap.size + 1 + 1) 0 0 (.slice none 0 0) ∧ w1.heap.size = w.heap.size + 3 ∧ Grows w w1 :=
  ⟨_, rfl, ((MBox.mk_ _ _ _ _ _).alloc _).alloc _, (OBox.new_ _ _ _ _ _ _ (by simp)).grows ((Below.refl _ _).alloc (Nat.le_refl _) _), MBox.new_ _ _ _ _ _ (by simp), by simp, by exact bel0⟩
theorem doMix_c (N : Nat) (m : MX) (A : Option Addr) (cap : Nat) (i j : Nat) (t : Int) (w : World) (hN : N ≤ 24) (hm : MixR N m) (hi : i < N) (hj : j < N) (hij : i ≠ j) (ht : isNum t = true) (ha : Rd w A m.l) :
    Calls Try.prog 76 #[.agg #[.int .i64 m.r, .int .i64 m.c, .slice A m.l.length cap], .agg #[.int .i64 2, .int .i64 i, .int .i64 j, .int .i64 t]] w (MixRet N w) := by
  obtain ⟨w1, hw1, mg, ob, mr, hs1, g01⟩ := mat_op3 w m.r m.c (.slice A m.l.length cap) 2 i j t
  have HW1 := Lib.hid hw1
  have ha1 : Rd w1 A m.l := ha.grows g01
  have hl5 := hm.len hN
  have CM := fun W h => sIsMatrix_c m.r m.c A m.l m.l.length cap W rfl h (by omega)
  rcases hm with hm0 | ⟨l, hm0, hel⟩
  · subst hm0
    have CM' : ∀ W, Rd W A [] → Calls Try.prog 84 #[.agg #[.int .i64 0, .int .i64 0, .slice A 0 cap]] W (fun e w' => e = .returned (.bool true) ∧ Grows W w') := CM
    have CM2 := Lib.hid CM'
    have CI := Lib.hid fun W => sIsNone_c i j t W
    have mg : MBox w1 w.heap.size 0 0 (.slice A 0 cap) := mg
    obtain ⟨b0, b1, b2⟩ := mg.cells
    obtain ⟨o0, o1, o2, o3⟩ := ob.cells
    show Calls Try.prog 76 #[.agg #[.int .i64 0, .int .i64 0, .slice A 0 cap], .agg #[.int .i64 2, .int .i64 i, .int .i64 j, .int .i64 t]] w (MixRet N w)
    replace hw1 : w1 = ((w.alloc (.cells #[.int .i64 0, .int .i64 0, .slice A 0 cap] 26)).alloc (.cells #[.int .i64 2, .int .i64 i, .int .i64 j, .int .i64 t] 70)).alloc (.cells #[.int .i64 0, .int .i64 0, .slice none 0 0] 26) := hw1
    replace HW1 := Lib.hid hw1
    replace ha1 : Rd w1 A [] := ha1
    clear hw1 CM CM' hij ht
    go_enter Try.func76, Try.ntmps76
    go_wp2_with fail
    rw [← HW1.out]
    refine (CM2.out _ ha1).mono ?_; rintro e w2 ⟨rfl, g2⟩
    have mg2 := mg.grows g2
    have ob2 := ob.grows g2
    have mr2 := mr.grows g2
    clear b0 b1 b2 o0 o1 o2 o3
    obtain ⟨b0, b1, b2⟩ := mg2.cells
    obtain ⟨o0, o1, o2, o3⟩ := ob2.cells
    go_wp2_with fail
    refine (CI.out _).mono ?_; rintro e w3 ⟨rfl, g3⟩
    have mr3 := mr2.grows g3
    obtain ⟨r0, r1, r2⟩ := mr3.cells
    have rf := mr3.fz
    have rl := mr3.lt
    go_wp2_with fail
    refine bodyPost_ret (v := .tuple #[.agg #[.int .i64 0, .int .i64 0, .slice none 0 0], .bool false]) ?_ rfl ?_
    · simp [results, Try.results76, go_sem, r0, r1, r2, rf, rl]
    · exact ⟨MX.nil, none, 0, false, rfl, .inl rfl, Own.nil _ _, by exact bel3 g3 g2 g01⟩
  · subst hm0
    have hln := hel.len
    have hNN : N * N ≤ 576 := Nat.mul_le_mul hN hN
    rw [show isMat N N l = true by rw [isMat_made hN hN hln]; exact hel.num] at CM
    have CM2 := Lib.hid CM
    have CI := Lib.hid fun W => sIsAdd_c N i j t W hN hi hj hij ht
    have CC := Lib.hid fun W h => copyS_c N N A l l.length cap W rfl h (by omega)
    have hln2 : (addT N N i j t l).length = l.length := by rw [addT_length, hln]
    have CD := Lib.hid fun A c B W ho => l5Add_c N N A l l.length c i j B t W rfl hln hN hN ho (mkd_of hel.num) hi hj ht
    obtain ⟨ok, hok⟩ : ∃ ok, allNum (addT N N i j t l) = ok := ⟨_, rfl⟩
    have CK := Lib.hid fun A c W h => l3Done_c ok N N A (addT N N i j t l) l.length c W hln2 h (by omega) (by rw [isMat_made hN hN (addT_length _ _ _ _ _ _)]; exact hok)
    have HX : RowKit.Hid (∀ (V : Option Addr) (c' : Nat), ∃ (m : MX), m.r = ifI ok N ∧ m.c = ifI ok N ∧ m.l = ifL ok (addT N N i j t l) ∧ MixR N m) := Lib.hid fun V c' => by
      cases ok
      · exact ⟨MX.nil, rfl, rfl, rfl, .inl rfl⟩
      · exact ⟨⟨N, N, addT N N i j t l⟩, rfl, rfl, rfl, .inr ⟨_, rfl, hel.add hi hj hij ht hok⟩⟩
    have mg : MBox w1 w.heap.size N N (.slice A l.length cap) := mg
    obtain ⟨b0, b1, b2⟩ := mg.cells
    obtain ⟨o0, o1, o2, o3⟩ := ob.cells
    show Calls Try.prog 76 #[.agg #[.int .i64 N, .int .i64 N, .slice A l.length cap], .agg #[.int .i64 2, .int .i64 i, .int .i64 j, .int .i64 t]] w (MixRet N w)
    replace hw1 : w1 = ((w.alloc (.cells #[.int .i64 N, .int .i64 N, .slice A l.length cap] 26)).alloc (.cells #[.int .i64 2, .int .i64 i, .int .i64 j, .int .i64 t] 70)).alloc (.cells #[.int .i64 0, .int .i64 0, .slice none 0 0] 26) := hw1
    replace HW1 := Lib.hid hw1
    replace ha1 : Rd w1 A l := ha1
    clear hw1 CM hij ht hel hok hln
    go_enter Try.func76, Try.ntmps76
    go_wp2_with fail
    rw [← HW1.out]
    refine (CM2.out _ ha1).mono ?_; rintro e w2 ⟨rfl, g2⟩
    have mg2 := mg.grows g2
    have ob2 := ob.grows g2
    clear b0 b1 b2 o0 o1 o2 o3
    obtain ⟨b0, b1, b2⟩ := mg2.cells
    obtain ⟨o0, o1, o2, o3⟩ := ob2.cells
    go_wp2_with fail
    refine (CI.out _).mono ?_; rintro e w3 ⟨rfl, g3⟩
    have mg3 := mg2.grows g3
    have ob3 := ob2.grows g3
    have ha3 := (ha1.grows g2).grows g3
    clear b0 b1 b2 o0 o1 o2 o3
    obtain ⟨b0, b1, b2⟩ := mg3.cells
    go_wp2_with fail
    refine (CC.out _ ha3).mono ?_; rintro e w4 ⟨v4, rfl, o4, g4⟩
    obtain ⟨A4, c4, rfl, _, _⟩ := o4.val
    have o4 : Own w4 w3.heap.size (.slice A4 l.length c4) l := o4
    obtain ⟨w5, hw5⟩ : ∃ w5, w5 = w4.alloc (.cells #[.int .i64 N, .int .i64 N, .slice A4 l.length c4] 26) := ⟨_, rfl⟩
    have mb5 : MBox w5 w4.heap.size N N (.slice A4 l.length c4) := by rw [hw5]; exact MBox.mk_ _ _ _ _ _
    have g45 : Grows w4 w5 := by rw [hw5]; exact bel0
    have HW5 := Lib.hid hw5
    have o5 := o4.grows g45
    have g15 : Grows w1 w5 := by exact bel4 g45 g4 g3 g2
    have ob4 := (ob3.grows g4)
    have ol := ob4.lt
    have mr5 := mr.grows g15
    have hvl := fun g e => World.ownsRow.lt o4 g e
    have h35 : w1.heap.size ≤ w3.heap.size := Below.size (show Grows w1 w3 by exact bel2 g3 g2)
    clear hw5 b0 b1 b2 o4
    obtain ⟨b0, b1, b2⟩ := mb5.cells
    obtain ⟨o0, o1, o2, o3⟩ := ob4.cells
    go_wp2_with fail
    rw [← HW5.out]
    refine (CD.out A4 c4 _ _ o5).mono ?_; rintro e w6 ⟨rfl, o6, g6⟩
    have hr6 := o6.rd'
    have mb6 := mb5.own g6 (fun g e => by have := hvl g e; omega)
    have k6 : Grows w1 w6 := Below.trans g15 (Mv.below (Mv.by1 (S := fun g => w1.heap.size ≤ g) g6 (fun g e => by have := hvl g e; omega)) (Below.size g15) (fun g h => h))
    clear b0 b1 b2 o0 o1 o2 o3
    obtain ⟨b0, b1, b2⟩ := mb6.cells
    go_wp2_with fail
    refine (CK.out A4 c4 _ hr6).mono ?_; rintro e w7 ⟨A7, c7, he, HO, g7⟩
    obtain ⟨m, m1, m2, m3, hmix⟩ := HX.out A7 c7
    rw [← m1, ← m3] at he
    subst he
    rw [← m3] at HO
    have o7 := HO w7 w1.heap.size (by rw [hln2]; exact (o6.grows g7).less h35)
    have k7 : Grows w1 w7 := Below.trans k6 (Below.mono g7 (Below.size k6))
    have mr7 := mr.grows k7
    obtain ⟨r0, r1, r2⟩ := mr7.cells
    have rf := mr7.fz
    have rl := mr7.lt
    have hv7 := fun g e => World.ownsRow.lt o7 g e
    have m12 := Lib.hid (show m.c = m.r by rw [m1, m2])
    clear m1 m2 m3 HO CK HX
    go_wp2_with fail
    refine bodyPost_ret (v := .tuple #[.agg #[.int .i64 m.r, .int .i64 m.r, .slice A7 m.l.length c7], .bool ok]) ?_ rfl ?_
    · simp [results, Try.results76, go_sem, r0, r1, r2, rf, rl]
    · refine ⟨m, A7, c7, ok, by rw [m12.out], hmix, ?_, by exact bel2 k7 g01⟩
      refine Own.less (B := w1.heap.size) ?_ (by omega)
      ((repeat' (first | with_reducible exact o7 | with_reducible refine Own.alloc ?_ _ | with_reducible refine Own.far ?_ ?_ _)); all_goals (intro g hg; have := hv7 g hg; (try simp only); omega))
end
end Go.Proofs.Yticmopedbgoflaa
