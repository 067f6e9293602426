/- Contracts and lemmas, put together. -/
import Derived.Test.YtfilbjbogggaoaaGreatPkDr
import Derived.Test.YtfilbjbogggaoaaGreatPkG
import Derived.Test.YtfilbjbogggaoaaGreatPkT
import Derived.Test.YtfilbjbogggaoaaGreatPkX
/- The draws: any matrix; a form and a vector. -/
namespace Go.Proofs.YtfilbjbogggaoaaGreat
set_option linter.unusedSimpArgs false
set_option linter.unusedVariables false
open Go.RowKit

/-- a matrix drawn from a code -/
def DMatC (m : Nat) (w : World) (e : Ending) (w' : World) : Prop := ∃ (r c : Int) (V : Option Addr) (cv : Nat) (l : List Int), e = .returned (.agg #[.int .i64 r, .int .i64 c, .slice V l.length cv]) ∧ (-1 ≤ r ∧ r ≤ 8) ∧ l.length ≤ m ∧ Own w' w.heap.size (.slice V l.length cv) l ∧ Grows w w'
/-- a matrix and a vector of as many cells as it has rows, drawn from a code -/
def DMatV (w : World) (e : Ending) (w' : World) : Prop := ∃ (r c : Int) (V : Option Addr) (cv : Nat) (l : List Int) (V2 : Option Addr) (cv2 : Nat) (l2 : List Int), e = .returned (.tuple #[.agg #[.int .i64 r, .int .i64 c, .slice V l.length cv], .slice V2 l2.length cv2]) ∧ (-1 ≤ r ∧ r ≤ 8) ∧ l.length ≤ 10 ∧ l2.length = r.toNat ∧ Own w' w.heap.size (.slice V l.length cv) l ∧ Own w' w.heap.size (.slice V2 l2.length cv2) l2 ∧ Grows w w'
section
set_option maxHeartbeats 4000000
set_option maxRecDepth 10000
end
end Go.Proofs.YtfilbjbogggaoaaGreat

/- The draws: from a code, any matrix; a form; a form and a vector. -/
namespace Go.Proofs.YtfilbjbogggaoaaGreat
set_option linter.unusedSimpArgs false
set_option linter.unusedVariables false
open Go.RowKit

theorem Mv.putM {b : Nat} (w : World) (u v x : Value) : Mv (fun g => g = b) w (((w.setCell ⟨b, 0, none⟩ u).setCell ⟨b, 1, none⟩ v).setCell ⟨b, 2, none⟩ x) :=
  (((Mv.refl (S := fun g => g = b) w).put (p := ⟨b, 0, none⟩) (.inr rfl) _).put (p := ⟨b, 1, none⟩) (.inr rfl) _).put (p := ⟨b, 2, none⟩) (.inr rfl) _
section
set_option maxHeartbeats 4000000
set_option maxRecDepth 10000
theorem matDrawMinimumOf_c (A : Option Addr) (n cap : Nat) (w : World) (hr : CodeR w w.heap.size A n) (hn : n ≤ 1048576) :
    Calls Tryz.prog 39 #[.slice A n cap] w (DMatC 10 w) := by
  obtain ⟨w1, hw1⟩ : ∃ w1, w1 = w.alloc (.cells #[.int .i64 0, .int .i64 0, .slice none 0 0] 26) := ⟨_, rfl⟩
  have mbr : MBox w1 w.heap.size 0 0 (.slice none 0 0) := by rw [hw1]; exact MBox.mk_ _ _ _ _ _
  have g01 : Grows w w1 := by rw [hw1]; exact bel0
  have hs1 : w1.heap.size = w.heap.size + 1 := by rw [hw1]; simp
  have CN := Lib.hid (l1New_c w.heap.size A n cap w1 (by omega) (hr.keep g01) hn)
  have CG := Lib.hid fun b W h => l18Gram_c w.heap.size b A n cap W h
  have HW1 := Lib.hid hw1
  have HS1 := Lib.hid hs1
  clear hw1 hs1
  go_enter Tryz.func39, Tryz.ntmps39
  go_wp2_with fail
  rw [← HW1.out]
  refine CN.out.mono ?_; rintro e w2 ⟨b, rfl, c2, g2⟩
  have hs2 := Below.size g2
  go_wp2_with fail
  refine (CG.out b _ c2).mono ?_; rintro e w3 ⟨r, c, V, cv, l, rfl, hrb, hl, o3, c3, g3⟩
  have hs3 := g3.size
  have hs1 := HS1.out
  have k3 : Below w.heap.size w2 w3 := c2.below g3
  have g13 : Below w.heap.size w1 w3 := Below.trans (Below.mono g2 (by omega)) k3
  have G : Grows w w3 := Below.trans g01 g13
  have hb : w.heap.size ≠ b := by
    intro e
    obtain ⟨i, h, _, c⟩ := c2
    have h1 := c.c0
    rw [← e, (mbr.grows g2).c0] at h1
    cases h1
  have mb3 := (mbr.grows g2).by_ g3 hb
  have hvl := fun g e => World.ownsRow.lt o3 g e
  clear hs1 g3 k3 g13 mbr
  obtain ⟨d0, d1, d2⟩ := mb3.cells
  have df := mb3.fz
  have dl := mb3.lt
  have hlt2 : w.heap.size < w2.heap.size := by have := HS1.out; omega
  go_wp2_with fail
  refine bodyPost_ret (v := .agg #[.int .i64 r, .int .i64 c, .slice V l.length cv]) ?_ rfl ?_
  · simp [results, Tryz.results39, go_sem, d0, d1, d2, df, dl]
  · refine ⟨r, c, V, cv, l, rfl, hrb, hl, ?_, by exact bel1 G⟩
    refine Own.less (B := w2.heap.size) ?_ (by omega)
    ((repeat' (first | with_reducible exact o3 | with_reducible refine Own.far ?_ ?_ _)); all_goals (intro g hg; have := hvl g hg; (try simp only); omega))
end
end Go.Proofs.YtfilbjbogggaoaaGreat

/- The code stays where it is. -/
namespace Go.Proofs.YtfilbjbogggaoaaGreat
set_option linter.unusedSimpArgs false
set_option linter.unusedVariables false
open Go.RowKit

theorem CodeR.up {w w1 : World} {A : Option Addr} {n : Nat} (hr : CodeR w w.heap.size A n) (g : Grows w w1) : CodeR w1 w1.heap.size A n := fun i hi => by
  have hs := Below.size g
  obtain ⟨b, off, x, h1, h2, h3⟩ := (hr.keep g) i hi
  exact ⟨b, off, x, h1, by omega, h3⟩
end Go.Proofs.YtfilbjbogggaoaaGreat

/- Contracts: an operation on the rows of a matrix that is the unit matrix or comes from it. -/
namespace Go.Proofs.YtfilbjbogggaoaaGreat
set_option linter.unusedSimpArgs false
set_option linter.unusedVariables false
open Go.RowKit

/-- what comes from the unit matrix by adding multiples of rows to others -/
inductive ElemM (n : Nat) : List Int → Prop
  | one : ElemM n (idL n)
  | add {l : List Int} {i j : Nat} {t : Int} : ElemM n l → i < n → j < n → i ≠ j → isNum t = true → allNum (addT n n i j t l) = true → ElemM n (addT n n i j t l)
theorem ElemM.num {n : Nat} {l : List Int} (h : ElemM n l) : allNum l = true := by
  cases h with
  | one => exact idL_num n
  | add _ _ _ _ _ h => exact h
theorem ElemM.len {n : Nat} {l : List Int} (h : ElemM n l) : l.length = n * n := by
  cases h with
  | one => exact tab_length _ _ _
  | add => exact addT_length _ _ _ _ _ _
/-- such a matrix, or none -/
def MixR (n : Nat) (m : MX) : Prop := m = MX.nil ∨ ∃ l, m = ⟨n, n, l⟩ ∧ ElemM n l
theorem MixR.len {n : Nat} {m : MX} (hn : n ≤ 24) (h : MixR n m) : m.l.length ≤ 576 := by
  rcases h with rfl | ⟨l, rfl, h⟩
  · show ([] : List Int).length ≤ 576; simp
  · show l.length ≤ 576; rw [h.len]; exact Nat.mul_le_mul hn hn
/-- a matrix that is one of these, in memory of its own, and a truth -/
def MixRet (n : Nat) (w : World) (e : Ending) (w' : World) : Prop := ∃ (m : MX) (V : Option Addr) (c : Nat) (ok : Bool), e = .returned (.tuple #[.agg #[.int .i64 m.r, .int .i64 m.c, .slice V m.l.length c], .bool ok]) ∧ MixR n m ∧ Own w' w.heap.size (.slice V m.l.length c) m.l ∧ Grows w w'
section
set_option maxHeartbeats 4000000
set_option maxRecDepth 100000
theorem inIs_c (b : Bool) (x lo hi : Int) (W : World) (h : inB x lo hi = b) : Calls Tryz.prog 101 #[.int .i64 x, .int .i64 lo, .int .i64 hi] W fun e w' => e = .returned (.bool b) ∧ W = w' := by
  subst h; exact l1In_c x lo hi W
theorem sIsAdd_c (R i j : Nat) (t : Int) (w : World) (hR : R ≤ 24) (hi : i < R) (hj : j < R) (hij : i ≠ j) (ht : isNum t = true) :
    Calls Tryz.prog 164 #[.agg #[.int .i64 2, .int .i64 i, .int .i64 j, .int .i64 t], .int .i64 R] w fun e w' => e = .returned (.bool true) ∧ Grows w w' := by
  have CN := fun W => sIsNumber_c t W
  rw [ht] at CN
  have CN' := Lib.hid CN
  have C1 := Lib.hid fun W => inIs_c true 2 0 2 W ((inB_iff _ _ _).2 (by omega))
  have C2 := Lib.hid fun W => inIs_c true R 0 24 W ((inB_iff _ _ _).2 (by omega))
  have C3 := Lib.hid fun W => inIs_c true i 0 ((R : Int) - 1) W ((inB_iff _ _ _).2 (by omega))
  have C4 := Lib.hid fun W => inIs_c true j 0 ((R : Int) - 1) W ((inB_iff _ _ _).2 (by omega))
  have e1 : ((j : Int) != (i : Int)) = true := by rw [bne_iff_ne]; omega
  clear CN ht hij
  go_enter Tryz.func164, Tryz.ntmps164
  go_wp2_with fail
  refine (C1.out _).mono ?_; rintro e w' ⟨rfl, rfl⟩
  go_wp2_with fail
  refine (C2.out _).mono ?_; rintro e w' ⟨rfl, rfl⟩
  go_wp2_with fail
  refine (C3.out _).mono ?_; rintro e w' ⟨rfl, rfl⟩
  go_wp2_with fail
  refine (C4.out _).mono ?_; rintro e w' ⟨rfl, rfl⟩
  go_wp2_with fail
  refine (CN'.out _).mono ?_; rintro e w' ⟨rfl, rfl⟩
  go_wp2_with fail
  go_ret
  exact ⟨rfl, by exact bel0⟩
theorem sIsNone_c (i j : Nat) (t : Int) (w : World) :
    Calls Tryz.prog 164 #[.agg #[.int .i64 2, .int .i64 i, .int .i64 j, .int .i64 t], .int .i64 0] w fun e w' => e = .returned (.bool false) ∧ Grows w w' := by
  have C1 := Lib.hid fun W => inIs_c true 2 0 2 W ((inB_iff _ _ _).2 (by omega))
  have C2 := Lib.hid fun W => inIs_c true 0 0 24 W ((inB_iff _ _ _).2 (by omega))
  have C3 := Lib.hid fun W => inIs_c false i 0 (-1) W (by
    cases h : inB (i : Int) 0 (-1)
    · rfl
    · have := (inB_iff _ _ _).1 h; omega)
  go_enter Tryz.func164, Tryz.ntmps164
  go_wp2_with fail
  refine (C1.out _).mono ?_; rintro e w' ⟨rfl, rfl⟩
  go_wp2_with fail
  refine (C2.out _).mono ?_; rintro e w' ⟨rfl, rfl⟩
  go_wp2_with fail
  refine (C3.out _).mono ?_; rintro e w' ⟨rfl, rfl⟩
  go_wp2_with fail
  go_ret
  exact ⟨rfl, by exact bel0⟩
theorem mat_op3 (w : World) (r c : Int) (u : Value) (k i j t : Int) :
    ∃ w1, w1 = ((w.alloc (.cells #[.int .i64 r, .int .i64 c, u] 26)).alloc (.cells #[.int .i64 k, .int .i64 i, .int .i64 j, .int .i64 t] 99)).alloc (.cells #[.int .i64 0, .int .i64 0, .slice none 0 0] 26) ∧
      MBox w1 w.heap.size r c u ∧ OBox w1 (w.heap.size + 1) k i j t ∧ MBox w1 (w.heap.size + 1 + 1) 0 0 (.slice none 0 0) ∧ w1.heap.size = w.heap.size + 3 ∧ Grows w w1 :=
  ⟨_, rfl, ((MBox.mk_ _ _ _ _ _).alloc _).alloc _, (OBox.new_ _ _ _ _ _ _ (by simp)).grows ((Below.refl _ _).alloc (Nat.le_refl _) _), MBox.new_ _ _ _ _ _ (by simp), by simp, by exact bel0⟩
theorem doMix_c (N : Nat) (m : MX) (A : Option Addr) (cap : Nat) (i j : Nat) (t : Int) (w : World) (hN : N ≤ 24) (hm : MixR N m) (hi : i < N) (hj : j < N) (hij : i ≠ j) (ht : isNum t = true) (ha : Rd w A m.l) :
    Calls Tryz.prog 109 #[.agg #[.int .i64 m.r, .int .i64 m.c, .slice A m.l.length cap], .agg #[.int .i64 2, .int .i64 i, .int .i64 j, .int .i64 t]] w (MixRet N w) := by
  obtain ⟨w1, hw1, mg, ob, mr, hs1, g01⟩ := mat_op3 w m.r m.c (.slice A m.l.length cap) 2 i j t
  have HW1 := Lib.hid hw1
  have ha1 : Rd w1 A m.l := ha.grows g01
  have hl5 := hm.len hN
  have CM := fun W h => sIsMatrix_c m.r m.c A m.l m.l.length cap W rfl h (by omega)
  rcases hm with hm0 | ⟨l, hm0, hel⟩
  · subst hm0
    have CM' : ∀ W, Rd W A [] → Calls Tryz.prog 159 #[.agg #[.int .i64 0, .int .i64 0, .slice A 0 cap]] W (fun e w' => e = .returned (.bool true) ∧ Grows W w') := CM
    have CM2 := Lib.hid CM'
    have CI := Lib.hid fun W => sIsNone_c i j t W
    have mg : MBox w1 w.heap.size 0 0 (.slice A 0 cap) := mg
    obtain ⟨b0, b1, b2⟩ := mg.cells
    obtain ⟨o0, o1, o2, o3⟩ := ob.cells
    show Calls Tryz.prog 109 #[.agg #[.int .i64 0, .int .i64 0, .slice A 0 cap], .agg #[.int .i64 2, .int .i64 i, .int .i64 j, .int .i64 t]] w (MixRet N w)
    replace hw1 : w1 = ((w.alloc (.cells #[.int .i64 0, .int .i64 0, .slice A 0 cap] 26)).alloc (.cells #[.int .i64 2, .int .i64 i, .int .i64 j, .int .i64 t] 99)).alloc (.cells #[.int .i64 0, .int .i64 0, .slice none 0 0] 26) := hw1
    replace HW1 := Lib.hid hw1
    replace ha1 : Rd w1 A [] := ha1
    clear hw1 CM CM' hij ht
    go_enter Tryz.func109, Tryz.ntmps109
    go_wp2_with fail
    rw [← HW1.out]
    refine (CM2.out _ ha1).mono ?_; rintro e w2 ⟨rfl, g2⟩
    have mg2 := mg.grows g2
    have ob2 := ob.grows g2
    have mr2 := mr.grows g2
    clear b0 b1 b2 o0 o1 o2 o3
    obtain ⟨b0, b1, b2⟩ := mg2.cells
    obtain ⟨o0, o1, o2, o3⟩ := ob2.cells
    go_wp2_with fail
    refine (CI.out _).mono ?_; rintro e w3 ⟨rfl, g3⟩
    have mr3 := mr2.grows g3
    obtain ⟨r0, r1, r2⟩ := mr3.cells
    have rf := mr3.fz
    have rl := mr3.lt
    go_wp2_with fail
    refine bodyPost_ret (v := .tuple #[.agg #[.int .i64 0, .int .i64 0, .slice none 0 0], .bool false]) ?_ rfl ?_
    · simp [results, Tryz.results109, go_sem, r0, r1, r2, rf, rl]
    · exact ⟨MX.nil, none, 0, false, rfl, .inl rfl, Own.nil _ _, by exact bel3 g3 g2 g01⟩
  · subst hm0
    have hln := hel.len
    have hNN : N * N ≤ 576 := Nat.mul_le_mul hN hN
    rw [show isMat N N l = true by rw [isMat_made hN hN hln]; exact hel.num] at CM
    have CM2 := Lib.hid CM
    have CI := Lib.hid fun W => sIsAdd_c N i j t W hN hi hj hij ht
    have CC := Lib.hid fun W h => copyS_c N N A l l.length cap W rfl h (by omega)
    have hln2 : (addT N N i j t l).length = l.length := by rw [addT_length, hln]
    have CD := Lib.hid fun A c B W ho => l5Add_c N N A l l.length c i j B t W rfl hln hN hN ho (mkd_of hel.num) hi hj ht
    obtain ⟨ok, hok⟩ : ∃ ok, allNum (addT N N i j t l) = ok := ⟨_, rfl⟩
    have CK := Lib.hid fun A c W h => l3Done_c ok N N A (addT N N i j t l) l.length c W hln2 h (by omega) (by rw [isMat_made hN hN (addT_length _ _ _ _ _ _)]; exact hok)
    have HX : RowKit.Hid (∀ (V : Option Addr) (c' : Nat), ∃ (m : MX), m.r = ifI ok N ∧ m.c = ifI ok N ∧ m.l = ifL ok (addT N N i j t l) ∧ MixR N m) := Lib.hid fun V c' => by
      cases ok
      · exact ⟨MX.nil, rfl, rfl, rfl, .inl rfl⟩
      · exact ⟨⟨N, N, addT N N i j t l⟩, rfl, rfl, rfl, .inr ⟨_, rfl, hel.add hi hj hij ht hok⟩⟩
    have mg : MBox w1 w.heap.size N N (.slice A l.length cap) := mg
    obtain ⟨b0, b1, b2⟩ := mg.cells
    obtain ⟨o0, o1, o2, o3⟩ := ob.cells
    show Calls Tryz.prog 109 #[.agg #[.int .i64 N, .int .i64 N, .slice A l.length cap], .agg #[.int .i64 2, .int .i64 i, .int .i64 j, .int .i64 t]] w (MixRet N w)
    replace hw1 : w1 = ((w.alloc (.cells #[.int .i64 N, .int .i64 N, .slice A l.length cap] 26)).alloc (.cells #[.int .i64 2, .int .i64 i, .int .i64 j, .int .i64 t] 99)).alloc (.cells #[.int .i64 0, .int .i64 0, .slice none 0 0] 26) := hw1
    replace HW1 := Lib.hid hw1
    replace ha1 : Rd w1 A l := ha1
    clear hw1 CM hij ht hel hok hln
    go_enter Tryz.func109, Tryz.ntmps109
    go_wp2_with fail
    rw [← HW1.out]
    refine (CM2.out _ ha1).mono ?_; rintro e w2 ⟨rfl, g2⟩
    have mg2 := mg.grows g2
    have ob2 := ob.grows g2
    clear b0 b1 b2 o0 o1 o2 o3
    obtain ⟨b0, b1, b2⟩ := mg2.cells
    obtain ⟨o0, o1, o2, o3⟩ := ob2.cells
    go_wp2_with fail
    refine (CI.out _).mono ?_; rintro e w3 ⟨rfl, g3⟩
    have mg3 := mg2.grows g3
    have ob3 := ob2.grows g3
    have ha3 := (ha1.grows g2).grows g3
    clear b0 b1 b2 o0 o1 o2 o3
    obtain ⟨b0, b1, b2⟩ := mg3.cells
    go_wp2_with fail
    refine (CC.out _ ha3).mono ?_; rintro e w4 ⟨v4, rfl, o4, g4⟩
    obtain ⟨A4, c4, rfl, _, _⟩ := o4.val
    have o4 : Own w4 w3.heap.size (.slice A4 l.length c4) l := o4
    obtain ⟨w5, hw5⟩ : ∃ w5, w5 = w4.alloc (.cells #[.int .i64 N, .int .i64 N, .slice A4 l.length c4] 26) := ⟨_, rfl⟩
    have mb5 : MBox w5 w4.heap.size N N (.slice A4 l.length c4) := by rw [hw5]; exact MBox.mk_ _ _ _ _ _
    have g45 : Grows w4 w5 := by rw [hw5]; exact bel0
    have HW5 := Lib.hid hw5
    have o5 := o4.grows g45
    have g15 : Grows w1 w5 := by exact bel4 g45 g4 g3 g2
    have ob4 := (ob3.grows g4)
    have ol := ob4.lt
    have mr5 := mr.grows g15
    have hvl := fun g e => World.ownsRow.lt o4 g e
    have h35 : w1.heap.size ≤ w3.heap.size := Below.size (show Grows w1 w3 by exact bel2 g3 g2)
    clear hw5 b0 b1 b2 o4
    obtain ⟨b0, b1, b2⟩ := mb5.cells
    obtain ⟨o0, o1, o2, o3⟩ := ob4.cells
    go_wp2_with fail
    rw [← HW5.out]
    refine (CD.out A4 c4 _ _ o5).mono ?_; rintro e w6 ⟨rfl, o6, g6⟩
    have hr6 := o6.rd'
    have mb6 := mb5.own g6 (fun g e => by have := hvl g e; omega)
    have k6 : Grows w1 w6 := Below.trans g15 (Mv.below (Mv.by1 (S := fun g => w1.heap.size ≤ g) g6 (fun g e => by have := hvl g e; omega)) (Below.size g15) (fun g h => h))
    clear b0 b1 b2 o0 o1 o2 o3
    obtain ⟨b0, b1, b2⟩ := mb6.cells
    go_wp2_with fail
    refine (CK.out A4 c4 _ hr6).mono ?_; rintro e w7 ⟨A7, c7, he, HO, g7⟩
    obtain ⟨m, m1, m2, m3, hmix⟩ := HX.out A7 c7
    rw [← m1, ← m3] at he
    subst he
    rw [← m3] at HO
    have o7 := HO w7 w1.heap.size (by rw [hln2]; exact (o6.grows g7).less h35)
    have k7 : Grows w1 w7 := Below.trans k6 (Below.mono g7 (Below.size k6))
    have mr7 := mr.grows k7
    obtain ⟨r0, r1, r2⟩ := mr7.cells
    have rf := mr7.fz
    have rl := mr7.lt
    have hv7 := fun g e => World.ownsRow.lt o7 g e
    have m12 := Lib.hid (show m.c = m.r by rw [m1, m2])
    clear m1 m2 m3 HO CK HX
    go_wp2_with fail
    refine bodyPost_ret (v := .tuple #[.agg #[.int .i64 m.r, .int .i64 m.r, .slice A7 m.l.length c7], .bool ok]) ?_ rfl ?_
    · simp [results, Tryz.results109, go_sem, r0, r1, r2, rf, rl]
    · refine ⟨m, A7, c7, ok, by rw [m12.out], hmix, ?_, by exact bel2 k7 g01⟩
      refine Own.less (B := w1.heap.size) ?_ (by omega)
      ((repeat' (first | with_reducible exact o7 | with_reducible refine Own.alloc ?_ _ | with_reducible refine Own.far ?_ ?_ _)); all_goals (intro g hg; have := hv7 g hg; (try simp only); omega))
end
end Go.Proofs.YtfilbjbogggaoaaGreat

/- Contracts: the laws' unit matrix, row, and mixed unit matrix. -/
namespace Go.Proofs.YtfilbjbogggaoaaGreat
set_option linter.unusedSimpArgs false
set_option linter.unusedVariables false
open Go.RowKit

/-- a matrix that comes from the unit matrix, in memory of its own -/
def MixM (n : Nat) (w : World) (e : Ending) (w' : World) : Prop := ∃ (m : MX) (V : Option Addr) (c : Nat), e = .returned (.agg #[.int .i64 m.r, .int .i64 m.c, .slice V m.l.length c]) ∧ MixR n m ∧ Own w' w.heap.size (.slice V m.l.length c) m.l ∧ Grows w w'
section
variable {P : Program} {md : Region.Mode}
theorem heldL_two {Q : Exit → Act → World → Prop} {S : World → Prop} {l : List Oper} {i j : Nat} {o o' : Oper} {fuel : Nat} {listed : Array Bool} {a : Act} {w : World} (hr : Region.ready md l.toArray listed = [i, j]) (hi : l[i]? = some o) (hj : l[j]? = some o')
    (h : ∀ K' : Act → World → Prop, Shut (∀ a w, S w → (S w → wpAnyH P md l.toArray Q S fuel (listed.setIfInBounds i true) a w) → K' a w) → if Region.wanted o (yielded l.toArray a.tmps) = true then Oper.wp P o a w K' Q else K' (a.put o.dst undef) w)
    (h' : ∀ K' : Act → World → Prop, Shut (∀ a w, S w → (S w → wpAnyH P md l.toArray Q S fuel (listed.setIfInBounds j true) a w) → K' a w) → if Region.wanted o' (yielded l.toArray a.tmps) = true then Oper.wp P o' a w K' Q else K' (a.put o'.dst undef) w) : wpAnyH P md l.toArray Q S (fuel + 1) listed a w :=
  wpAnyH_ready hr (by simp) (AllReadyH.cons (by simpa using hi) h (AllReadyH.cons (by simpa using hj) h' AllReadyH.nil))
end
section
set_option maxHeartbeats 4000000
set_option maxRecDepth 100000
theorem mix_c (A : Option Addr) (n cap N : Nat) (w : World) (hr : CodeR w w.heap.size A n) (hn : n ≤ 1048576) (hN : N ≤ 24) :
    Calls Tryz.prog 42 #[.slice A n cap, .int .i64 N] w (MixM N w) := by
  obtain ⟨w1, hw1⟩ : ∃ w1, w1 = w.alloc (.cells #[.int .i64 0, .int .i64 0, .slice none 0 0] 26) := ⟨_, rfl⟩
  have mr : MBox w1 w.heap.size 0 0 (.slice none 0 0) := by rw [hw1]; exact MBox.mk_ _ _ _ _ _
  have g01 : Grows w w1 := by rw [hw1]; exact bel0
  have hs1 : w1.heap.size = w.heap.size + 1 := by rw [hw1]; simp
  have HW1 := Lib.hid hw1
  have CU := Lib.hid fun W => unit_c N W hN
  have HR := Lib.hid (hr.keep g01)
  clear hw1 hr
  go_enter Tryz.func42, Tryz.ntmps42
  go_wp2_with fail
  rw [← HW1.out]
  refine (CU.out _).mono ?_; rintro e w2 ⟨V2, c2, rfl, o2, g2⟩
  obtain ⟨w3, hw3⟩ : ∃ w3, w3 = w2.alloc (.cells #[.int .i64 N, .int .i64 N, .slice V2 (idL N).length c2] 26) := ⟨_, rfl⟩
  have mb3 : MBox w3 w2.heap.size N N (.slice V2 (idL N).length c2) := by rw [hw3]; exact MBox.mk_ _ _ _ _ _
  have g23 : Grows w2 w3 := by rw [hw3]; exact bel0
  have HW3 := Lib.hid hw3
  have o3 := o2.grows g23
  have mr3 := (mr.grows g2).grows g23
  have hs2 := Below.size g2
  have hs3 := Below.size g23
  have hvl := fun g e => (World.ownsRow.lt o2 g e)
  have g13 : Grows w1 w3 := by exact bel2 g23 g2
  have hx : MixR N ⟨N, N, idL N⟩ := .inr ⟨_, rfl, .one⟩
  clear hw3 o2
  go_wp2_with fail
  rw [← HW3.out]
  go_loopw [6] (fun i wr => ∃ (I : Nat) (m : MX) (V : Option Addr) (c : Nat), i = .int .i64 I ∧ I ≤ 6 ∧ RowKit.Hid (MixR N m) ∧ MBox wr w2.heap.size m.r m.c (.slice V m.l.length c) ∧ Own wr w1.heap.size (.slice V m.l.length c) m.l ∧ MBox wr w.heap.size 0 0 (.slice none 0 0) ∧ Grows w1 wr ∧ w3.heap.size ≤ wr.heap.size) (fun i _ => 6 - (intOf i).toNat)
  case atStart => exact ⟨0, ⟨N, N, idL N⟩, V2, c2, rfl, by omega, Lib.hid hx, mb3, o3, mr3, g13, by omega⟩
  case round =>
    clear mb3 o3 mr3 g13 hx
    obtain ⟨I, m, V, c, rfl, hI, HX, mb, o, mr, g, hsz⟩ := hrel
    obtain ⟨b0, b1, b2⟩ := mb.cells
    by_cases hgo : I < n ∧ I < 6 ∧ 1 < N
    · obtain ⟨h1, h2, h3⟩ := hgo
      have h1' : (I : Int) < (n : Int) := by omega
      have h2' : (I : Int) < 6 := by omega
      have h3' : (1 : Int) < (N : Int) := by omega
      obtain ⟨bc, off, x, rfl, hbc, hcell, hx0, hx1⟩ := (HR.out.keep (Below.mono g (by omega))) I h1
      obtain ⟨x, rfl⟩ : ∃ k : Nat, x = (k : Int) := ⟨x.toNat, by omega⟩
      have hcap : (n : Int) ≤ 1048576 := by omega
      have hN' : (N : Int) ≤ 24 := by omega
      have hbw : bc < wr.heap.size := by have := Below.size g; omega
      obtain ⟨K, hK⟩ : ∃ K : Nat, K = x % N := ⟨_, rfl⟩
      have hKN : K < N := by rw [hK]; exact Nat.mod_lt _ (by omega)
      have hKI : (x : Int) % (N : Int) = (K : Int) := by rw [hK]; omega
      obtain ⟨Q, hQ⟩ : ∃ Q : Nat, Q = N - 1 := ⟨_, rfl⟩
      obtain ⟨X8, hX8⟩ : ∃ k : Nat, k = x / 8 := ⟨_, rfl⟩
      obtain ⟨X32, hX32⟩ : ∃ k : Nat, k = x / 32 := ⟨_, rfl⟩
      obtain ⟨Y, hY⟩ : ∃ k : Nat, k = X8 % Q := ⟨_, rfl⟩
      obtain ⟨T3, hT3⟩ : ∃ k : Nat, k = X32 % 3 := ⟨_, rfl⟩
      obtain ⟨K1, hK1⟩ : ∃ k : Nat, k = K + 1 := ⟨_, rfl⟩
      obtain ⟨Z, hZ⟩ : ∃ k : Nat, k = K1 + Y := ⟨_, rfl⟩
      obtain ⟨J, hJ⟩ : ∃ J : Nat, J = Z % N := ⟨_, rfl⟩
      obtain ⟨tt, htt⟩ : ∃ t : Int, t = (T3 : Int) - 1 := ⟨_, rfl⟩
      have hQ0 : ¬ (Q : Int) = 0 := by omega
      have hQ1 : ¬ Q = 0 := by omega
      have hN0 : ¬ N = 0 := by omega
      have hYQ : Y < Q := by rw [hY]; exact Nat.mod_lt _ (by omega)
      have hJN : J < N := by rw [hJ]; exact Nat.mod_lt _ (by omega)
      have hne : J ≠ K := by
        rw [hJ]
        rcases Nat.lt_or_ge Z N with h | h
        · rw [Nat.mod_eq_of_lt h]; omega
        · have : Z % N = Z - N := by rw [Nat.mod_eq_sub_mod h, Nat.mod_eq_of_lt (by omega)]
          omega
      have htn : isNum tt = true := by rw [isNum_iff]; omega
      have k1 : IntKind.i64.wrap ((N : Int) - 1) = (Q : Int) := by rw [IntWalk.i64_in _ (by omega)]; omega
      have k2 : IntKind.u8.wrap ((x : Int) / 8) = (X8 : Int) := by rw [IntWalk.u8_in _ (by omega)]; omega
      have k3 : IntKind.i64.wrap (X8 : Int) = (X8 : Int) := IntWalk.i64_in _ (by omega)
      have k4 : (X8 : Int).tmod (Q : Int) = (Y : Int) := by rw [hY]; rfl
      have k4' : (X8 : Int) % (Q : Int) = (Y : Int) := by rw [hY]; rfl
      have k5 : IntKind.i64.wrap ((K : Int) + 1) = (K1 : Int) := by rw [IntWalk.i64_in _ (by omega)]; omega
      have k6 : IntKind.i64.wrap ((K1 : Int) + (Y : Int)) = (Z : Int) := by rw [IntWalk.i64_in _ (by omega)]; omega
      have k7 : (Z : Int).tmod (N : Int) = (J : Int) := by rw [hJ]; rfl
      have k7' : (Z : Int) % (N : Int) = (J : Int) := by rw [hJ]; rfl
      have k8 : IntKind.u8.wrap ((x : Int) / 32) = (X32 : Int) := by rw [IntWalk.u8_in _ (by omega)]; omega
      have k9 : IntKind.i64.wrap (X32 : Int) = (X32 : Int) := IntWalk.i64_in _ (by omega)
      have k10 : (X32 : Int).tmod 3 = (T3 : Int) := by rw [hT3]; rfl
      have k10' : (X32 : Int) % 3 = (T3 : Int) := by rw [hT3]; omega
      have k11 : IntKind.i64.wrap ((T3 : Int) - 1) = tt := by rw [IntWalk.i64_in _ (by omega)]; omega
      clear hQ hX8 hX32 hY hT3 hK1 hZ htt
      have CD := Lib.hid fun W h => doMix_c N m V c K J tt W hN HX.out hKN hJN (Ne.symm hne) htn h
      have HK := Lib.hid hK
      have HJ := Lib.hid hJ
      have HKI := Lib.hid hKI
      clear hK hJ hKI
      go_wp2_with fail
      rw [HKI.out]
      go_cut [8, 9] from 12 to 62 (fun s8 s9 wx => ∃ gb m2 V2 c2 ok, s8 = .pointer (some ⟨gb, 0, none⟩) ∧ s9 = .bool ok ∧ RowKit.Hid (MixR N m2) ∧ MBox wx gb m2.r m2.c (.slice V2 m2.l.length c2) ∧ Own wx wr.heap.size (.slice V2 m2.l.length c2) m2.l ∧ wr.heap.size ≤ gb ∧ (∀ g, (Value.slice V2 m2.l.length c2).ownBlock = some g → g ≠ gb) ∧ Grows wr wx)
      case first =>
        refine wp_region_heldL (fun W => W.cell? ⟨w2.heap.size, 0, none⟩ = some (.int .i64 m.r) ∧ W.cell? ⟨w2.heap.size, 1, none⟩ = some (.int .i64 m.c) ∧ W.cell? ⟨w2.heap.size, 2, none⟩ = some (.slice V m.l.length c) ∧ W.cell? ⟨bc, off + I, none⟩ = some (.int .u8 x)) (by kernel_rfl) (by ((try dsimp only); (first | exact ⟨(mb.grows (by exact bel1 g5)).c0, (mb.grows (by exact bel1 g5)).c1, (mb.grows (by exact bel1 g5)).c2, ((show Grows wr _ by exact bel1 g5).cell (p := ⟨bc, off + I, none⟩) hbw).trans hcell⟩ | exact ⟨(mb.grows (by exact bel0)).c0, (mb.grows (by exact bel0)).c1, (mb.grows (by exact bel0)).c2, ((show Grows wr _ by exact bel0).cell (p := ⟨bc, off + I, none⟩) hbw).trans hcell⟩))) (fun hHeld => ?_)
        (refine heldL_take (i := 0) (v := _) (by rfl) (by kernel_rfl) (by kernel_rfl) (by kernel_rfl) (fun _ _ _ h => h) (Or.inl ⟨by rfl, fun wS hSw => by ((try dsimp only at hSw); go_simp; (try with_reducible rfl))⟩) (by assumption) ?_; simp only [Act.put, List.setIfInBounds_toArray, List.set_cons_zero, List.set_cons_succ]; refine heldL_take (i := 1) (v := _) (by rfl) (by kernel_rfl) (by kernel_rfl) (by kernel_rfl) (fun _ _ _ h => h) (Or.inl ⟨by rfl, fun wS hSw => by ((try dsimp only at hSw); go_simp; (try with_reducible rfl))⟩) (by assumption) ?_; simp only [Act.put, List.setIfInBounds_toArray, List.set_cons_zero, List.set_cons_succ]; refine heldL_take (i := 2) (v := _) (by rfl) (by kernel_rfl) (by kernel_rfl) (by kernel_rfl) (fun _ _ _ h => h) (Or.inl ⟨by rfl, fun wS hSw => by ((try dsimp only at hSw); go_simp; (try with_reducible rfl))⟩) (by assumption) ?_; simp only [Act.put, List.setIfInBounds_toArray, List.set_cons_zero, List.set_cons_succ]; refine heldL_take (i := 3) (v := _) (by rfl) (by kernel_rfl) (by kernel_rfl) (by kernel_rfl) (fun _ _ _ h => h) (Or.inl ⟨by rfl, fun wS hSw => by ((try dsimp only at hSw); go_simp; (try with_reducible rfl))⟩) (by assumption) ?_; simp only [Act.put, List.setIfInBounds_toArray, List.set_cons_zero, List.set_cons_succ]; refine heldL_take (i := 4) (v := _) (by rfl) (by kernel_rfl) (by kernel_rfl) (by kernel_rfl) (fun _ _ _ h => h) (Or.inl ⟨by rfl, fun wS hSw => by ((try dsimp only at hSw); go_simp; (try with_reducible rfl))⟩) (by assumption) ?_; simp only [Act.put, List.setIfInBounds_toArray, List.set_cons_zero, List.set_cons_succ]; refine heldL_take (i := 5) (v := _) (by rfl) (by kernel_rfl) (by kernel_rfl) (by kernel_rfl) (fun _ _ _ h => h) (Or.inl ⟨by rfl, fun wS hSw => by ((try dsimp only at hSw); go_simp; (try with_reducible rfl))⟩) (by assumption) ?_; simp only [Act.put, List.setIfInBounds_toArray, List.set_cons_zero, List.set_cons_succ]; refine heldL_take (i := 6) (v := _) (by rfl) (by kernel_rfl) (by kernel_rfl) (by kernel_rfl) (fun _ _ _ h => h) (Or.inl ⟨by rfl, fun wS hSw => by ((try dsimp only at hSw); go_simp; (try with_reducible rfl))⟩) (by assumption) ?_; simp only [Act.put, List.setIfInBounds_toArray, List.set_cons_zero, List.set_cons_succ]; refine heldL_take (i := 7) (v := _) (by rfl) (by kernel_rfl) (by kernel_rfl) (by kernel_rfl) (fun _ _ _ h => h) (Or.inl ⟨by rfl, fun wS hSw => by ((try dsimp only at hSw); go_simp; (try with_reducible rfl))⟩) (by assumption) ?_; simp only [Act.put, List.setIfInBounds_toArray, List.set_cons_zero, List.set_cons_succ]; refine heldL_take (i := 8) (v := _) (by rfl) (by kernel_rfl) (by kernel_rfl) (by kernel_rfl) (fun _ _ _ h => h) (Or.inl ⟨by rfl, fun wS hSw => by ((try dsimp only at hSw); go_simp; (try with_reducible rfl))⟩) (by assumption) ?_; simp only [Act.put, List.setIfInBounds_toArray, List.set_cons_zero, List.set_cons_succ]; refine heldL_take (i := 9) (v := _) (by rfl) (by kernel_rfl) (by kernel_rfl) (by kernel_rfl) (fun _ _ _ h => h) (Or.inl ⟨by rfl, fun wS hSw => by ((try dsimp only at hSw); go_simp; (try with_reducible rfl))⟩) (by assumption) ?_; simp only [Act.put, List.setIfInBounds_toArray, List.set_cons_zero, List.set_cons_succ]; refine heldL_take (i := 10) (v := _) (by rfl) (by kernel_rfl) (by kernel_rfl) (by kernel_rfl) (fun _ _ _ h => h) (Or.inl ⟨by rfl, fun wS hSw => by ((try dsimp only at hSw); go_simp; (try with_reducible rfl))⟩) (by assumption) ?_; simp only [Act.put, List.setIfInBounds_toArray, List.set_cons_zero, List.set_cons_succ]; refine heldL_take (i := 11) (v := _) (by rfl) (by kernel_rfl) (by kernel_rfl) (by kernel_rfl) (fun _ _ _ h => h) (Or.inl ⟨by rfl, fun wS hSw => by ((try dsimp only at hSw); go_simp; (try with_reducible rfl))⟩) (by assumption) ?_; simp only [Act.put, List.setIfInBounds_toArray, List.set_cons_zero, List.set_cons_succ]; refine heldL_take (i := 12) (v := _) (by rfl) (by kernel_rfl) (by kernel_rfl) (by kernel_rfl) (fun _ _ _ h => h) (Or.inl ⟨by rfl, fun wS hSw => by ((try dsimp only at hSw); go_simp; (try with_reducible rfl))⟩) (by assumption) ?_; simp only [Act.put, List.setIfInBounds_toArray, List.set_cons_zero, List.set_cons_succ]; refine heldL_take (i := 13) (v := _) (by rfl) (by kernel_rfl) (by kernel_rfl) (by kernel_rfl) (fun _ _ _ h => h) (Or.inl ⟨by rfl, fun wS hSw => by ((try dsimp only at hSw); go_simp; (try with_reducible rfl))⟩) (by assumption) ?_; simp only [Act.put, List.setIfInBounds_toArray, List.set_cons_zero, List.set_cons_succ]; refine heldL_take (i := 14) (v := _) (by rfl) (by kernel_rfl) (by kernel_rfl) (by kernel_rfl) (fun _ _ _ h => h) (Or.inl ⟨by rfl, fun wS hSw => by ((try dsimp only at hSw); go_simp; (try with_reducible rfl))⟩) (by assumption) ?_; simp only [Act.put, List.setIfInBounds_toArray, List.set_cons_zero, List.set_cons_succ]; refine heldL_take (i := 15) (v := _) (by rfl) (by kernel_rfl) (by kernel_rfl) (by kernel_rfl) (fun _ _ _ h => h) (Or.inl ⟨by rfl, fun wS hSw => by ((try dsimp only at hSw); go_simp; (try with_reducible rfl))⟩) (by assumption) ?_; simp only [Act.put, List.setIfInBounds_toArray, List.set_cons_zero, List.set_cons_succ]; refine heldL_take (i := 16) (v := _) (by rfl) (by kernel_rfl) (by kernel_rfl) (by kernel_rfl) (fun _ _ _ h => h) (Or.inl ⟨by rfl, fun wS hSw => by ((try dsimp only at hSw); go_simp; (try with_reducible rfl))⟩) (by assumption) ?_; simp only [Act.put, List.setIfInBounds_toArray, List.set_cons_zero, List.set_cons_succ]; refine heldL_take (i := 17) (v := _) (by rfl) (by kernel_rfl) (by kernel_rfl) (by kernel_rfl) (fun _ _ _ h => h) (Or.inl ⟨by rfl, fun wS hSw => by ((try dsimp only at hSw); go_simp; (try with_reducible rfl))⟩) (by assumption) ?_; simp only [Act.put, List.setIfInBounds_toArray, List.set_cons_zero, List.set_cons_succ]; refine heldL_take (i := 18) (v := _) (by rfl) (by kernel_rfl) (by kernel_rfl) (by kernel_rfl) (fun _ _ _ h => h) (Or.inl ⟨by rfl, fun wS hSw => by ((try dsimp only at hSw); go_simp; (try with_reducible rfl))⟩) (by assumption) ?_; simp only [Act.put, List.setIfInBounds_toArray, List.set_cons_zero, List.set_cons_succ]; refine heldL_take (i := 19) (v := _) (by rfl) (by kernel_rfl) (by kernel_rfl) (by kernel_rfl) (fun _ _ _ h => h) (Or.inl ⟨by rfl, fun wS hSw => by ((try dsimp only at hSw); go_simp; (try with_reducible rfl))⟩) (by assumption) ?_; simp only [Act.put, List.setIfInBounds_toArray, List.set_cons_zero, List.set_cons_succ]; refine heldL_take (i := 20) (v := _) (by rfl) (by kernel_rfl) (by kernel_rfl) (by kernel_rfl) (fun _ _ _ h => h) (Or.inl ⟨by rfl, fun wS hSw => by ((try dsimp only at hSw); go_simp; (try with_reducible rfl))⟩) (by assumption) ?_; simp only [Act.put, List.setIfInBounds_toArray, List.set_cons_zero, List.set_cons_succ]; refine heldL_take (i := 21) (v := _) (by rfl) (by kernel_rfl) (by kernel_rfl) (by kernel_rfl) (fun _ _ _ h => h) (Or.inl ⟨by rfl, fun wS hSw => by ((try dsimp only at hSw); go_simp; (try with_reducible rfl))⟩) (by assumption) ?_; simp only [Act.put, List.setIfInBounds_toArray, List.set_cons_zero, List.set_cons_succ]; refine heldL_take (i := 22) (v := _) (by rfl) (by kernel_rfl) (by kernel_rfl) (by kernel_rfl) (fun _ _ _ h => h) (Or.inl ⟨by rfl, fun wS hSw => by ((try dsimp only at hSw); go_simp; (try with_reducible rfl))⟩) (by assumption) ?_; simp only [Act.put, List.setIfInBounds_toArray, List.set_cons_zero, List.set_cons_succ]; refine heldL_take (i := 23) (v := _) (by rfl) (by kernel_rfl) (by kernel_rfl) (by kernel_rfl) (fun _ _ _ h => h) (Or.inl ⟨by rfl, fun wS hSw => by ((try dsimp only at hSw); go_simp; (try with_reducible rfl))⟩) (by assumption) ?_; simp only [Act.put, List.setIfInBounds_toArray, List.set_cons_zero, List.set_cons_succ]; refine heldL_take (i := 24) (v := _) (by rfl) (by kernel_rfl) (by kernel_rfl) (by kernel_rfl) (fun _ _ _ h => h) (Or.inl ⟨by rfl, fun wS hSw => by ((try dsimp only at hSw); go_simp; (try with_reducible rfl))⟩) (by assumption) ?_; simp only [Act.put, List.setIfInBounds_toArray, List.set_cons_zero, List.set_cons_succ])
        refine heldL_two (i := 25) (j := 29) (by kernel_rfl) (by rfl) (by rfl) (fun K hK => ?_) (fun K hK => ?_)
        · (go_simp; (refine (CD.out _ (o.rd'.grows (by exact bel0))).mono ?_; rintro e w5 ⟨m2, V5, c5, ok, rfl, hmx, o5, g5⟩; have z5 := Below.size g5; (try simp at z5); have HMX := Lib.hid hmx; clear hmx) ; (try (go_wp2_with fail)); refine hK.out _ _ (by ((try dsimp only); (first | exact ⟨(mb.grows (by exact bel1 g5)).c0, (mb.grows (by exact bel1 g5)).c1, (mb.grows (by exact bel1 g5)).c2, ((show Grows wr _ by exact bel1 g5).cell (p := ⟨bc, off + I, none⟩) hbw).trans hcell⟩ | exact ⟨(mb.grows (by exact bel0)).c0, (mb.grows (by exact bel0)).c1, (mb.grows (by exact bel0)).c2, ((show Grows wr _ by exact bel0).cell (p := ⟨bc, off + I, none⟩) hbw).trans hcell⟩))) (fun hHeld => ?_); clear hK K; (try simp only [Act.put, List.setIfInBounds_toArray, List.set_cons_zero, List.set_cons_succ]); refine heldL_take (i := 26) (v := _) (by rfl) (by kernel_rfl) (by kernel_rfl) (by kernel_rfl) (fun _ _ _ h => h) (Or.inl ⟨by rfl, fun wS hSw => by ((try dsimp only at hSw); go_simp; (try with_reducible rfl))⟩) (by assumption) ?_; simp only [Act.put, List.setIfInBounds_toArray, List.set_cons_zero, List.set_cons_succ]; refine heldL_take (i := 27) (v := _) (by rfl) (by kernel_rfl) (by kernel_rfl) (by kernel_rfl) (fun _ _ _ h => h) (Or.inl ⟨by rfl, fun wS hSw => by ((try dsimp only at hSw); go_simp; (try with_reducible rfl))⟩) (by assumption) ?_; simp only [Act.put, List.setIfInBounds_toArray, List.set_cons_zero, List.set_cons_succ]; refine heldL_take (i := 28) (v := _) (by rfl) (by kernel_rfl) (by kernel_rfl) (by kernel_rfl) (fun _ _ _ h => h) (Or.inl ⟨by rfl, fun wS hSw => by ((try dsimp only at hSw); go_simp; (try with_reducible rfl))⟩) (by assumption) ?_; simp only [Act.put, List.setIfInBounds_toArray, List.set_cons_zero, List.set_cons_succ]; refine heldL_step (i := 29) (by kernel_rfl) (by rfl) (fun K hK => ?_); go_simp; refine hK.out _ _ (by ((try dsimp only); (first | exact ⟨(mb.grows (by exact bel1 g5)).c0, (mb.grows (by exact bel1 g5)).c1, (mb.grows (by exact bel1 g5)).c2, ((show Grows wr _ by exact bel1 g5).cell (p := ⟨bc, off + I, none⟩) hbw).trans hcell⟩ | exact ⟨(mb.grows (by exact bel0)).c0, (mb.grows (by exact bel0)).c1, (mb.grows (by exact bel0)).c2, ((show Grows wr _ by exact bel0).cell (p := ⟨bc, off + I, none⟩) hbw).trans hcell⟩))) (fun hHeld => ?_); clear hK K; (try simp only [Act.put, List.setIfInBounds_toArray, List.set_cons_zero, List.set_cons_succ]); refine heldL_step (i := 30) (by kernel_rfl) (by rfl) (fun K hK => ?_); go_simp; refine hK.out _ _ (by ((try dsimp only); (first | exact ⟨(mb.grows (by exact bel1 g5)).c0, (mb.grows (by exact bel1 g5)).c1, (mb.grows (by exact bel1 g5)).c2, ((show Grows wr _ by exact bel1 g5).cell (p := ⟨bc, off + I, none⟩) hbw).trans hcell⟩ | exact ⟨(mb.grows (by exact bel0)).c0, (mb.grows (by exact bel0)).c1, (mb.grows (by exact bel0)).c2, ((show Grows wr _ by exact bel0).cell (p := ⟨bc, off + I, none⟩) hbw).trans hcell⟩))) (fun hHeld => ?_); clear hK K; (try simp only [Act.put, List.setIfInBounds_toArray, List.set_cons_zero, List.set_cons_succ]); refine heldL_take (i := 31) (v := _) (by rfl) (by kernel_rfl) (by kernel_rfl) (by kernel_rfl) (fun _ _ _ h => h) (Or.inl ⟨by rfl, fun wS hSw => by ((try dsimp only at hSw); go_simp; (try with_reducible rfl))⟩) (by assumption) ?_; simp only [Act.put, List.setIfInBounds_toArray, List.set_cons_zero, List.set_cons_succ]; refine wpAnyH_done (by kernel_rfl) ?_ _; refine NoPanic.normal ?_)
          go_wp2_with fail
          go_meet
          exact ⟨_, m2, V5, c5, ok, rfl, rfl, HMX, by first | exact MBox.put q _ _ _ | exact MBox.mk_ _ _ _ _ _ | exact MBox.put (MBox.mk_ _ _ _ _ _) _ _ _, by (have hb_ := fun k hk => World.ownsRow.lt o5 k hk; have ho_ := Own.less o5 (show wr.heap.size ≤ _ by first | omega | (simp; done) | (simp; omega)); (repeat' (first | with_reducible exact ho_ | with_reducible refine Own.alloc ?_ _ | with_reducible refine Own.drew ?_ | with_reducible refine Own.far ?_ ?_ _)); all_goals first | (intro k hk; have := hb_ k hk; (try simp at this); (try simp); omega) | omega | (simp; done) | (simp; omega)), by first | omega | (simp; done) | (simp; omega), (fun g hg => by have h1 := World.ownsRow.lt o5 g hg; (try simp at h1); (try simp only); first | omega | (simp; omega)), by exact bel1 g5⟩
        · (go_simp; refine hK.out _ _ (by ((try dsimp only); (first | exact ⟨(mb.grows (by exact bel1 g5)).c0, (mb.grows (by exact bel1 g5)).c1, (mb.grows (by exact bel1 g5)).c2, ((show Grows wr _ by exact bel1 g5).cell (p := ⟨bc, off + I, none⟩) hbw).trans hcell⟩ | exact ⟨(mb.grows (by exact bel0)).c0, (mb.grows (by exact bel0)).c1, (mb.grows (by exact bel0)).c2, ((show Grows wr _ by exact bel0).cell (p := ⟨bc, off + I, none⟩) hbw).trans hcell⟩))) (fun hHeld => ?_); clear hK K; (try simp only [Act.put, List.setIfInBounds_toArray, List.set_cons_zero, List.set_cons_succ]); refine heldL_step (i := 25) (by kernel_rfl) (by rfl) (fun K hK => ?_); go_simp; (refine (CD.out _ (o.rd'.grows (by exact bel0))).mono ?_; rintro e w5 ⟨m2, V5, c5, ok, rfl, hmx, o5, g5⟩; have z5 := Below.size g5; (try simp at z5); have HMX := Lib.hid hmx; clear hmx; have q := MBox.grows (MBox.mk_ wr 0 0 (.slice none 0 0) 26) (w' := w5) (Below.trans (show Grows _ _ by exact bel0) g5); obtain ⟨q0, q1, q2⟩ := q.cells; have qf := q.fz; have ql := q.lt) ; (try (go_wp2_with fail)); refine hK.out _ _ (by ((try dsimp only); (first | exact ⟨(mb.grows (by exact bel1 g5)).c0, (mb.grows (by exact bel1 g5)).c1, (mb.grows (by exact bel1 g5)).c2, ((show Grows wr _ by exact bel1 g5).cell (p := ⟨bc, off + I, none⟩) hbw).trans hcell⟩ | exact ⟨(mb.grows (by exact bel0)).c0, (mb.grows (by exact bel0)).c1, (mb.grows (by exact bel0)).c2, ((show Grows wr _ by exact bel0).cell (p := ⟨bc, off + I, none⟩) hbw).trans hcell⟩))) (fun hHeld => ?_); clear hK K; (try simp only [Act.put, List.setIfInBounds_toArray, List.set_cons_zero, List.set_cons_succ]); refine heldL_take (i := 26) (v := _) (by rfl) (by kernel_rfl) (by kernel_rfl) (by kernel_rfl) (fun _ _ _ h => h) (Or.inl ⟨by rfl, fun wS hSw => by ((try dsimp only at hSw); go_simp; (try with_reducible rfl))⟩) (by assumption) ?_; simp only [Act.put, List.setIfInBounds_toArray, List.set_cons_zero, List.set_cons_succ]; refine heldL_take (i := 27) (v := _) (by rfl) (by kernel_rfl) (by kernel_rfl) (by kernel_rfl) (fun _ _ _ h => h) (Or.inl ⟨by rfl, fun wS hSw => by ((try dsimp only at hSw); go_simp; (try with_reducible rfl))⟩) (by assumption) ?_; simp only [Act.put, List.setIfInBounds_toArray, List.set_cons_zero, List.set_cons_succ]; refine heldL_take (i := 28) (v := _) (by rfl) (by kernel_rfl) (by kernel_rfl) (by kernel_rfl) (fun _ _ _ h => h) (Or.inl ⟨by rfl, fun wS hSw => by ((try dsimp only at hSw); go_simp; (try with_reducible rfl))⟩) (by assumption) ?_; simp only [Act.put, List.setIfInBounds_toArray, List.set_cons_zero, List.set_cons_succ]; refine heldL_step (i := 30) (by kernel_rfl) (by rfl) (fun K hK => ?_); go_simp; refine hK.out _ _ (by ((try dsimp only); (first | exact ⟨(mb.grows (by exact bel1 g5)).c0, (mb.grows (by exact bel1 g5)).c1, (mb.grows (by exact bel1 g5)).c2, ((show Grows wr _ by exact bel1 g5).cell (p := ⟨bc, off + I, none⟩) hbw).trans hcell⟩ | exact ⟨(mb.grows (by exact bel0)).c0, (mb.grows (by exact bel0)).c1, (mb.grows (by exact bel0)).c2, ((show Grows wr _ by exact bel0).cell (p := ⟨bc, off + I, none⟩) hbw).trans hcell⟩))) (fun hHeld => ?_); clear hK K; (try simp only [Act.put, List.setIfInBounds_toArray, List.set_cons_zero, List.set_cons_succ]); refine heldL_take (i := 31) (v := _) (by rfl) (by kernel_rfl) (by kernel_rfl) (by kernel_rfl) (fun _ _ _ h => h) (Or.inl ⟨by rfl, fun wS hSw => by ((try dsimp only at hSw); go_simp; (try with_reducible rfl))⟩) (by assumption) ?_; simp only [Act.put, List.setIfInBounds_toArray, List.set_cons_zero, List.set_cons_succ]; refine wpAnyH_done (by kernel_rfl) ?_ _; refine NoPanic.normal ?_)
          go_wp2_with fail
          go_meet
          exact ⟨_, m2, V5, c5, ok, rfl, rfl, HMX, by first | exact MBox.put q _ _ _ | exact MBox.mk_ _ _ _ _ _ | exact MBox.put (MBox.mk_ _ _ _ _ _) _ _ _, by (have hb_ := fun k hk => World.ownsRow.lt o5 k hk; have ho_ := Own.less o5 (show wr.heap.size ≤ _ by first | omega | (simp; done) | (simp; omega)); (repeat' (first | with_reducible exact ho_ | with_reducible refine Own.alloc ?_ _ | with_reducible refine Own.drew ?_ | with_reducible refine Own.far ?_ ?_ _)); all_goals first | (intro k hk; have := hb_ k hk; (try simp at this); (try simp); omega) | omega | (simp; done) | (simp; omega)), by first | omega | (simp; done) | (simp; omega), (fun g hg => by have h1 := World.ownsRow.lt o5 g hg; (try simp at h1); (try simp only); first | omega | (simp; omega)), by exact bel1 g5⟩
      case rest =>
        obtain ⟨gb, m2, V2, c2, ok, rfl, rfl, HM2, mb2, ox, hgb, hne2, gx⟩ := hcut
        obtain ⟨wx, rfl⟩ : ∃ x : World, x = wc := ⟨_, rfl⟩
        have sx := Below.size gx
        have mbx := mb.grows gx
        have mrx := mr.grows gx
        have blr := mb.lt
        have mlr := mr.lt
        have hvx := fun g e => World.ownsRow.lt ox g e
        clear b0 b1 b2 mb mr o CD hcell
        obtain ⟨d0, d1, d2⟩ := mb2.cells
        obtain ⟨b0, b1, b2⟩ := mbx.cells
        have dl := mb2.lt
        have bl := mbx.lt
        have bf := mbx.fz
        have mw := mrx.lt
        go_wp2_with fail
        go_round
        case rel => exact ⟨I + 1, m2, V2, c2, by go_num, by omega, HM2, MBox.put mbx _ _ _, by (have hv_ := fun g e => World.ownsRow.lt ox g e; refine Own.less (B := ?OB60) ?_ ?_; ((repeat' (first | with_reducible exact ox | with_reducible refine Own.alloc ?_ _ | with_reducible refine Own.drew ?_ | with_reducible refine Own.far ?_ ?_ _)); all_goals (first | omega | (simp; omega) | (intro g hg; have := hv_ g hg; (try simp only); first | omega | (simp; omega))))), by ((repeat' (first | with_reducible exact mrx | with_reducible refine MBox.alloc ?_ _ | with_reducible refine MBox.drew_ ?_ | with_reducible refine MBox.far ?_ ?_ _)); all_goals (first | omega | (simp; done) | (simp; omega))), by exact bel2 gx g, by simp; omega⟩
        case measure => first | (simp [intOf]; done) | (simp [intOf]; omega)
    · obtain ⟨e0, e1, e2⟩ := mr.cells
      have ef := mr.fz
      have el := mr.lt
      have bl := mb.lt
      have hmx := HX.out
      have G : Grows w wr := Below.trans g01 (Below.mono g (by omega))
      by_cases h1 : I < n
      · have h1' : (I : Int) < (n : Int) := by omega
        obtain ⟨bc, off, x, rfl, hbc, hcell, hx0, hx1⟩ := (HR.out.keep (Below.mono g (by omega))) I h1
        by_cases h2 : I < 6
        · have h2' : (I : Int) < 6 := by omega
          have h3' : ¬ (1 : Int) < (N : Int) := fun h => hgo ⟨h1, h2, by omega⟩
          clear hgo
          go_wp2_with fail
          refine bodyPost_ret (v := .agg #[.int .i64 m.r, .int .i64 m.c, .slice V m.l.length c]) ?_ rfl ?_
          · simp [results, Tryz.results42, go_sem, e0, e1, e2, ef, el]
          · exact ⟨m, V, c, rfl, hmx, by (have hv_ := fun g e => World.ownsRow.lt o g e; refine Own.less (B := ?OB61) ?_ ?_; ((repeat' (first | with_reducible exact o | with_reducible refine Own.alloc ?_ _ | with_reducible refine Own.drew ?_ | with_reducible refine Own.far ?_ ?_ _)); all_goals (first | omega | (simp; omega) | (intro g hg; have := hv_ g hg; (try simp only); first | omega | (simp; omega))))), by exact bel1 G⟩
        · have h2' : ¬ (I : Int) < 6 := by omega
          clear hgo
          go_wp2_with fail
          refine bodyPost_ret (v := .agg #[.int .i64 m.r, .int .i64 m.c, .slice V m.l.length c]) ?_ rfl ?_
          · simp [results, Tryz.results42, go_sem, e0, e1, e2, ef, el]
          · exact ⟨m, V, c, rfl, hmx, by (have hv_ := fun g e => World.ownsRow.lt o g e; refine Own.less (B := ?OB62) ?_ ?_; ((repeat' (first | with_reducible exact o | with_reducible refine Own.alloc ?_ _ | with_reducible refine Own.drew ?_ | with_reducible refine Own.far ?_ ?_ _)); all_goals (first | omega | (simp; omega) | (intro g hg; have := hv_ g hg; (try simp only); first | omega | (simp; omega))))), by exact bel1 G⟩
      · have h1' : ¬ (I : Int) < (n : Int) := by omega
        clear hgo
        go_wp2_with fail
        refine bodyPost_ret (v := .agg #[.int .i64 m.r, .int .i64 m.c, .slice V m.l.length c]) ?_ rfl ?_
        · simp [results, Tryz.results42, go_sem, e0, e1, e2, ef, el]
        · exact ⟨m, V, c, rfl, hmx, by (have hv_ := fun g e => World.ownsRow.lt o g e; refine Own.less (B := ?OB63) ?_ ?_; ((repeat' (first | with_reducible exact o | with_reducible refine Own.alloc ?_ _ | with_reducible refine Own.drew ?_ | with_reducible refine Own.far ?_ ?_ _)); all_goals (first | omega | (simp; omega) | (intro g hg; have := hv_ g hg; (try simp only); first | omega | (simp; omega))))), by exact bel1 G⟩
end
end Go.Proofs.YtfilbjbogggaoaaGreat

/- Plain: the least value of a form is that of its shortest vectors, and no basis changes it. -/
namespace Go.Proofs.YtfilbjbogggaoaaGreat
set_option linter.unusedSimpArgs false
set_option linter.unusedVariables false
open Go.RowKit

/-- what comes from the unit matrix by adding rows is unimodular -/
theorem ElemM.unim {n : Nat} {l : List Int} (h : ElemM n l) : Unim n (mt n l) := by
  have key : HerD n n (fun i j => if i = j then 1 else 0) (mt n l) (mt n l) := by
    induction h with
    | one => exact (HerD.one n n _).congr (fun i j hi hj => idL_cell hi hj) fun i j hi hj => idL_cell hi hj
    | add h hi hj hij ht hn ih =>
      rename_i l i j t
      have hl := h.len
      have cell : ∀ a b, a < n → b < n → mt n (addT n n i j t l) a b = if a = i then mt n l a b + mt n l j b * t else mt n l a b := fun a b ha hb => by
        by_cases e : a = i
        · subst e; rw [if_pos rfl]; exact addT_same ha hb hn
        · rw [if_neg e]; exact addT_other ha hb e
      exact ih.add hj hij t cell cell
  exact key.un
/-- a vector's row -/
def vecL (R : Nat) (v : Nat → Int) : List Int := (List.range R).map v
theorem vecL_length (R : Nat) (v : Nat → Int) : (vecL R v).length = R := by simp [vecL]
theorem vecL_nth {R : Nat} {v : Nat → Int} {i : Nat} (hi : i < R) : nth (vecL R v) i = v i := by
  rw [nth_get _ _ (by rw [vecL_length]; exact hi)]; simp [vecL]
theorem qf_congr {n : Nat} {f : Nat → Nat → Int} {v w : Nat → Int} (h : ∀ i, i < n → v i = w i) : qf n f v = qf n f w := by
  unfold qf
  exact sumN_congr fun i hi => sumN_congr fun j hj => by rw [h i hi, h j hj]
theorem qf_neg (n : Nat) (f : Nat → Nat → Int) (v : Nat → Int) : qf n f (fun i => - v i) = qf n f v := by
  unfold qf
  exact sumN_congr fun i _ => sumN_congr fun j _ => by rw [Int.neg_mul, Int.neg_mul_neg]
/-- one of a vector and its opposite counts -/
theorem posV_or {R : Nat} {v : Nat → Int} (h : ∃ i, i < R ∧ v i ≠ 0) : posV (vecL R v) = true ∨ posV (vecL R fun i => - v i) = true := by
  have hlt : fnz (vecL R v) < R := by
    refine Classical.byContradiction fun hn => ?_
    obtain ⟨i, hi, hne⟩ := h
    have := fnz_zero (l := vecL R v) (i := i) (by omega)
    rw [vecL_nth hi] at this
    exact hne this
  have hz : ∀ t, t < fnz (vecL R v) → v t = 0 := fun t ht => by have := fnz_zero ht; rwa [vecL_nth (by omega)] at this
  have hne : v (fnz (vecL R v)) ≠ 0 := by have := fnz_ne (l := vecL R v) (by rw [vecL_length]; exact hlt); rwa [vecL_nth hlt] at this
  generalize fnz (vecL R v) = i at *
  rw [posV_at (v := vecL R v) (i := i) (fun t ht => by rw [vecL_nth (by omega)]; exact hz t ht) (by rw [vecL_length]; exact hlt) (by rw [vecL_nth hlt]; exact hne)]
  rw [posV_at (v := vecL R fun i => - v i) (i := i) (fun t ht => by rw [vecL_nth (by omega), hz t ht]; rfl) (by rw [vecL_length]; exact hlt) (by rw [vecL_nth hlt]; omega)]
  rw [vecL_nth hlt, vecL_nth hlt]
  rcases Int.lt_or_gt_of_ne hne with e | e
  · right; exact decide_eq_true (by omega)
  · left; exact decide_eq_true (by omega)
/-- not both -/
theorem posV_not {R : Nat} {v : Nat → Int} (h : posV (vecL R v) = true) : posV (vecL R fun i => - v i) = false := by
  obtain ⟨i, hi, hne⟩ := posV_some h
  rw [vecL_length] at hi
  have hlt : fnz (vecL R v) < R := by
    unfold posV at h
    simp only [Bool.and_eq_true, decide_eq_true_eq, vecL_length] at h
    exact h.1
  have h2 : 0 < nth (vecL R v) (fnz (vecL R v)) := by
    unfold posV at h
    simp only [Bool.and_eq_true, decide_eq_true_eq, vecL_length] at h
    exact h.2
  have hz : ∀ t, t < fnz (vecL R v) → v t = 0 := fun t ht => by have := fnz_zero ht; rwa [vecL_nth (by omega)] at this
  rw [vecL_nth hlt] at h2
  generalize fnz (vecL R v) = i at *
  rw [posV_at (v := vecL R fun i => - v i) (i := i) (fun t ht => by rw [vecL_nth (by omega), hz t ht]; rfl) (by rw [vecL_length]; exact hlt) (by rw [vecL_nth hlt]; omega), vecL_nth hlt]
  exact decide_eq_false (by omega)
/-- a short vector or its opposite is in the list -/
theorem sh_rep {R : Nat} {l : List Int} {b : Int} {s : List KV} (h : shvO ⟨R, R, l⟩ b = some s) {v : Nat → Int} (hv : ∃ i, i < R ∧ v i ≠ 0) (hq : qf R (fnOf R l) v ≤ b) : (qf R (fnOf R l) v, vecL R v) ∈ s ∨ (qf R (fnOf R l) v, vecL R fun i => - v i) ∈ s := by
  have e1 : qf R (fnOf R l) (nth (vecL R v)) = qf R (fnOf R l) v := qf_congr fun i hi => vecL_nth hi
  have e2 : qf R (fnOf R l) (nth (vecL R fun i => - v i)) = qf R (fnOf R l) v := by rw [← qf_neg R (fnOf R l) v]; exact qf_congr fun i hi => vecL_nth hi
  rcases posV_or hv with hp | hp
  · left
    have := (shvO_all h (vecL_length R v) hp (by rw [e1]; exact hq)).1
    rwa [e1] at this
  · right
    have := (shvO_all h (vecL_length R _) hp (by rw [e2]; exact hq)).1
    rwa [e2] at this
theorem posV_ne {R : Nat} {l : List Int} (h : posV l = true) (hl : l.length = R) : ∃ i, i < R ∧ nth l i ≠ 0 := by
  obtain ⟨i, hi, hne⟩ := posV_some h; exact ⟨i, by omega, hne⟩
theorem minO_def {g : MX} {m : Int} (h : minO g = some m) : ∃ R : Nat, g = ⟨R, R, g.l⟩ ∧ 0 < R ∧ R ≤ 6 ∧ isDef R R g.l = true := by
  unfold minO at h
  split at h
  · rename_i hh
    simp only [Bool.and_eq_true, bne_iff_ne] at hh
    obtain ⟨_, R, e1, e2, hR, _⟩ := isSq_nat (isDef_sq hh.1)
    obtain ⟨r, c, l⟩ := g
    simp only at e1 e2 hh
    subst e1 e2
    exact ⟨R, rfl, by omega, hR, hh.1⟩
  · cases h
/-- the least value -/
theorem minO_spec {R : Nat} {l : List Int} {m : Int} (h0 : 0 < R) (hd : isDef R R l = true) (h : minO ⟨R, R, l⟩ = some m) : (∃ v : Nat → Int, (∃ i, i < R ∧ v i ≠ 0) ∧ qf R (fnOf R l) v = m) ∧ (∀ v : Nat → Int, (∃ i, i < R ∧ v i ≠ 0) → m ≤ qf R (fnOf R l) v) ∧ 1 ≤ m ∧ m ≤ mnD R l R ∧ ∃ s, shvO ⟨R, R, l⟩ (mnD R l R) = some s := by
  have e0 : minO ⟨R, R, l⟩ = (shvO ⟨R, R, l⟩ (mnD R l R)).bind (minL ⟨R, R, l⟩) := by
    unfold minO
    rw [if_pos (by rw [hd]; simp; omega)]
    simp only [Int.toNat_natCast]
  rw [e0] at h
  obtain ⟨s, h1, h2⟩ := Option.bind_eq_some_iff.1 h
  cases s with
  | nil => cases h2
  | cons k s =>
    have h2 : some (vVal R R l k.2) = some m := h2
    simp only [Option.some.injEq] at h2
    obtain ⟨kl, kp, kok, kv, k1, kb⟩ := shvO_in h1 (List.mem_cons_self (a := k) (l := s))
    have hk : k.1 = m := by rw [← h2, kv]; exact (vVal_qf kok).symm
    have hs := shvO_sort h1
    unfold SortK at hs
    rw [List.pairwise_cons] at hs
    have hle : ∀ k' ∈ k :: s, k.1 ≤ k'.1 := fun k' hk' => by
      rcases List.mem_cons.1 hk' with e | e
      · rw [e]; exact Int.le_refl _
      · have := hs.1 k' e
        unfold ltK at this
        simp only [Bool.or_eq_false_iff, decide_eq_false_iff_not] at this
        omega
    refine ⟨⟨nth k.2, posV_ne kp kl, by rw [← kv, hk]⟩, fun v hv => ?_, by omega, by omega, _, h1⟩
    by_cases hb : qf R (fnOf R l) v ≤ mnD R l R
    · rcases sh_rep h1 hv hb with e | e
      · have := hle _ e; simp only at this; omega
      · have := hle _ e; simp only at this; omega
    · omega
/-- no basis changes the least value -/
theorem min_change {g u h : MX} {m n : Int} (hg : minO g = some m) (hu : MixR g.r.toNat u) (hh : cbO g u = some h) (hm : minO h = some n) : n = m := by
  obtain ⟨R, eg, h0, hR6, hd⟩ := minO_def hg
  obtain ⟨r, c, l⟩ := g
  have e1 : r = R := congrArg MX.r eg
  have e2 : c = R := congrArg MX.c eg
  subst e1 e2
  simp only [Int.toNat_natCast] at hu hd
  obtain ⟨N, eu, eh, hul, hcell⟩ := cbO_cells hh
  rcases hu with rfl | ⟨lu, rfl, hel⟩
  · have : ((0 : Int)) = R := congrArg MX.c eu
    omega
  · have hN : N = R := by have : (R : Int) = N := congrArg MX.r eu; omega
    subst hN
    have U := hel.unim
    obtain ⟨R', eh', h0', _, hd'⟩ := minO_def hm
    have hR' : R' = N := by have : (N : Int) = R' := by rw [eh] at eh'; exact congrArg MX.r eh'
                            omega
    subst hR'
    rw [eh] at hm
    obtain ⟨⟨v, hv, hq⟩, hmin, _⟩ := minO_spec h0 hd hg
    obtain ⟨⟨w, hw, hqw⟩, hminw, _⟩ := minO_spec h0 hd' hm
    have ch : ∀ x : Nat → Int, qf R' (fnOf R' h.l) x = qf R' (fnOf R' l) (lc R' (mt R' lu) x) := fun x => qf_change (u := fun i a => nth lu (i * R' + a)) hcell
    have a1 : m ≤ n := by
      rw [← hqw, ch w]
      refine hmin _ ?_
      refine Classical.byContradiction fun hn => ?_
      obtain ⟨i, hi, hne⟩ := hw
      exact hne (U.ind w (fun j hj => Classical.byContradiction fun hc => hn ⟨j, hj, hc⟩) i hi)
    have a2 : n ≤ m := by
      obtain ⟨y, hy⟩ := U.span v
      rw [← hq, qf_congr hy]
      rw [← ch y]
      refine hminw _ ?_
      refine Classical.byContradiction fun hn => ?_
      obtain ⟨i, hi, hne⟩ := hv
      refine hne ?_
      rw [hy i hi]
      exact lc_zero fun k hk => .inl (Classical.byContradiction fun hc => hn ⟨k, hk, hc⟩)
    omega

/-! ### a smaller bound -/
theorem bxP_of {a : List Int} {R : Nat} {d b : Int} {k : Nat} (h : ∀ i, i < k → isNum (b * nth a (i * R + i)) = true) : ∃ s, bxP a R d b k = some s := by
  induction k with
  | zero => exact ⟨[], rfl⟩
  | succ k ih =>
    obtain ⟨s, hs⟩ := ih fun i hi => h i (by omega)
    exact ⟨_, bxP_some hs (h k (by omega))⟩
theorem rootN_le {a b : Nat} (h : a ≤ b) : rootN a ≤ rootN b := by
  have h1 := rootN_spec a
  have h2 := rootN_spec b
  refine Classical.byContradiction fun hn => ?_
  have := Nat.mul_le_mul (show rootN b + 1 ≤ rootN a by omega) (show rootN b + 1 ≤ rootN a by omega)
  omega
theorem cof_nonneg {n : Nat} {l : List Int} (hd : isDef ((n + 1 : Nat) : Int) ((n + 1 : Nat) : Int) l = true) {i : Nat} (hi : i < n + 1) : 0 ≤ cof n (fnOf (n + 1) l) i i := by
  obtain ⟨P, hD⟩ := def_posF hd
  have hk := box_cell P hD (fun j => if j = i then 1 else 0) hi
  rw [if_pos rfl] at hk
  have hp := P.pos (fun j => if j = i then 1 else 0) ⟨i, hi, by rw [if_pos rfl]; decide⟩
  refine Classical.byContradiction fun hneg => ?_
  have := Int.mul_neg_of_pos_of_neg hp (show cof n (fnOf (n + 1) l) i i < 0 by omega)
  omega
theorem boxF_length (low high : List Int) (n : Nat) : (boxF low high (n + 1)).length = (boxF low high n).length * width (nth low n) (nth high n) := by
  rw [boxF, boxStep_length]
theorem boxB_less {x y : List Int} {n : Nat} (h : ∀ i, i < n → nth x i ≤ nth y i) (hb : boxB (negL y) y n = true) : boxB (negL x) x n = true ∧ (boxF (negL x) x n).length ≤ (boxF (negL y) y n).length := by
  have hnl : ∀ (x : List Int) i, nth (negL x) i = - nth x i := fun x i => by
    unfold negL
    by_cases e : i < x.length
    · rw [nth_get _ _ (by rw [List.length_map]; exact e), nth_get _ _ e]; simp
    · rw [nth_out _ _ (by rw [List.length_map]; omega), nth_out _ _ (by omega)]; rfl
  induction n with
  | zero => exact ⟨rfl, Nat.le_refl _⟩
  | succ n ih =>
    have hb2 := hb
    simp only [boxB, Bool.and_eq_true, decide_eq_true_eq] at hb2
    obtain ⟨i1, i2⟩ := ih (fun i hi => h i (by omega)) hb2.1
    have hw : width (nth (negL x) n) (nth x n) ≤ width (nth (negL y) n) (nth y n) := by
      unfold width
      rw [hnl, hnl]
      have := h n (by omega)
      omega
    have hl : (boxF (negL x) x (n + 1)).length ≤ (boxF (negL y) y (n + 1)).length := by
      rw [boxF_length, boxF_length]; exact Nat.mul_le_mul i2 hw
    refine ⟨?_, hl⟩
    simp only [boxB, Bool.and_eq_true, decide_eq_true_eq]
    exact ⟨i1, by omega⟩
/-- the short vectors for a smaller bound are found too -/
theorem shvO_less {R : Nat} {l : List Int} {b b' : Int} {s : List KV} (h : shvO ⟨R, R, l⟩ b = some s) (h0 : 0 ≤ b') (hb : b' ≤ b) : ∃ s', shvO ⟨R, R, l⟩ b' = some s' := by
  unfold shvO at h
  obtain ⟨x, h1, h2⟩ := Option.bind_eq_some_iff.1 h
  obtain ⟨hd, _, hb1, a, d, ha, hdt, hd0, hx⟩ := boxO_parts h1
  have hxl : x.length = R := bxP_length hx
  have hcof : ∀ i, i < R → 0 ≤ nth a.l (i * R + i) := fun i hi => by
    obtain ⟨n, rfl⟩ : ∃ n, R = n + 1 := ⟨R - 1, by omega⟩
    rw [adj_cell ha hi]
    exact cof_nonneg hd hi
  have hle : ∀ i, i < R → 0 ≤ b' * nth a.l (i * R + i) ∧ b' * nth a.l (i * R + i) ≤ b * nth a.l (i * R + i) := fun i hi => ⟨Int.mul_nonneg h0 (hcof i hi), Int.mul_le_mul_of_nonneg_right hb (hcof i hi)⟩
  obtain ⟨y, hy⟩ := bxP_of (a := a.l) (R := R) (d := d) (b := b') (k := R) fun i hi => by
    have h3 := hle i hi
    have h4 := (isNum_iff _).1 (bxP_nth hx hi).2
    rw [isNum_iff]; omega
  have hyl : y.length = R := bxP_length hy
  have hbo : boxO ⟨R, R, l⟩ b' = some y := by
    unfold boxO
    rw [ha]
    simp only
    rw [hd, (inB_iff b' 0 10000).2 (by omega), hdt]
    simp only [Int.toNat_natCast]
    exact hy
  split at h2
  · rename_i hbb
    have hyx : ∀ i, i < R → nth y i ≤ nth x i := fun i hi => by
      rw [(bxP_nth hy hi).1, (bxP_nth hx hi).1]
      unfold rootI
      have h3 := hle i hi
      have h4 : (b' * nth a.l (i * R + i)).tdiv d ≤ (b * nth a.l (i * R + i)).tdiv d := by
        rw [Int.tdiv_eq_ediv_of_nonneg h3.1, Int.tdiv_eq_ediv_of_nonneg (by omega)]
        exact Int.ediv_le_ediv hd0 h3.2
      have := rootN_le (show ((b' * nth a.l (i * R + i)).tdiv d).toNat ≤ ((b * nth a.l (i * R + i)).tdiv d).toNat by omega)
      omega
    have hbx := boxB_less (n := R) hyx (by rw [hxl] at hbb; exact hbb)
    unfold shvO
    rw [hbo]
    simp only [Option.bind_some]
    rw [hyl, if_pos hbx.1]
    exact ⟨_, rfl⟩
  · cases h2
/-- what the law needs of the shortest vectors -/
theorem sht_facts {g : MX} {m : Int} (h : minO g = some m) : ∃ s, shtO g = some s ∧ 0 < s.length ∧ kisO g = some (2 * (s.length : Int)) ∧ ∀ k ∈ s, vOk g.r g.c g.l k.2 = true ∧ vVal g.r g.c g.l k.2 = m := by
  obtain ⟨R, eg, h0, hR6, hd⟩ := minO_def h
  obtain ⟨r, c, l⟩ := g
  have e1 : r = R := congrArg MX.r eg
  have e2 : c = R := congrArg MX.c eg
  subst e1 e2
  obtain ⟨⟨v, hv, hq⟩, hmin, h1, hmn, s0, hs0⟩ := minO_spec h0 hd h
  obtain ⟨s, hs⟩ := shvO_less hs0 (b' := m) (by omega) hmn
  have hsh : shtO ⟨R, R, l⟩ = some s := by unfold shtO; rw [h]; exact hs
  refine ⟨s, hsh, ?_, by unfold kisO; rw [hsh]; rfl, fun k hk => ?_⟩
  · rcases sh_rep hs hv (by omega) with e | e
    · exact List.length_pos_of_mem e
    · exact List.length_pos_of_mem e
  · obtain ⟨kl, kp, kok, kv, k1, kb⟩ := shvO_in hs hk
    refine ⟨kok, ?_⟩
    have := hmin (nth k.2) (posV_ne kp kl)
    rw [vVal_qf kok]
    omega
end Go.Proofs.YtfilbjbogggaoaaGreat
