/- Contracts and lemmas, put together. -/
import Derived.Test.YthajmffhgbenpaaPkB
import Derived.Test.YthajmffhgbenpaaPkE
import Derived.Test.YthajmffhgbenpaaPkF
/- Contracts: the unit matrix of the reference. -/
namespace Go.Proofs.Ythajmffhgbenpaa
set_option linter.unusedSimpArgs false
set_option linter.unusedVariables false
open Go.RowKit

/-- the ones before row I are set -/
def IdD (R I : Nat) (m : List Int) : Prop := m.length = R * R ∧ ∀ a b, a < R → b < R → nth m (a * R + b) = if a = b ∧ a < I then 1 else 0
theorem IdD.zero (R : Nat) : IdD R 0 (List.replicate (R * R) 0) := ⟨by simp, fun a b _ _ => by rw [nth_replicate, if_neg (by omega)]⟩
theorem IdD.set {R I : Nat} {m : List Int} (h : IdD R I m) (hI : I < R) : IdD R (I + 1) (m.set (I * R + I) 1) := by
  refine ⟨by rw [List.length_set]; exact h.1, fun a b ha hb => ?_⟩
  rw [nth_set _ _ _ _ (by rw [h.1]; exact idx_lt hI hI)]
  by_cases e : a * R + b = I * R + I
  · obtain ⟨rfl, rfl⟩ := idx_inj hb hI e
    rw [if_pos rfl, if_pos ⟨rfl, by omega⟩]
  · rw [if_neg e, h.2 a b ha hb]
    by_cases e1 : a = b
    · subst e1
      by_cases e2 : a < I
      · rw [if_pos ⟨rfl, e2⟩, if_pos ⟨rfl, by omega⟩]
      · rw [if_neg (fun q => e2 q.2), if_neg (fun q => by
          have : a = I := by have := q.2; omega
          exact e (by rw [this]))]
    · rw [if_neg (fun q => e1 q.1), if_neg (fun q => e1 q.1)]
theorem IdD.all {R : Nat} {m : List Int} (h : IdD R R m) : m = idL R := tab_ext h.1 fun a b ha hb => by
  rw [h.2 a b ha hb]
  by_cases e : a = b
  · rw [if_pos ⟨e, ha⟩, if_pos e]
  · rw [if_neg (fun q => e q.1), if_neg e]

section
set_option maxHeartbeats 2000000
theorem sIdent_c (R : Nat) (w : World) (hR : R ≤ 24) :
    Calls Try.prog 110 #[.int .i64 R] w fun e w' => ∃ v, e = .returned (.tuple #[.agg #[.int .i64 R, .int .i64 R, v], .bool true]) ∧ Own w' w.heap.size v (idL R) ∧ Grows w w' := by
  obtain ⟨w1, hw1⟩ : ∃ w1, w1 = w.alloc (.cells #[.int .i64 0, .int .i64 0, .slice none 0 0] 26) := ⟨_, rfl⟩
  have mr : MBox w1 w.heap.size 0 0 (.slice none 0 0) := by rw [hw1]; exact MBox.mk_ _ _ _ _ _
  have g01 : Grows w w1 := by rw [hw1]; exact bel0
  have hs1 : w1.heap.size = w.heap.size + 1 := by rw [hw1]; simp
  have HW1 := Lib.hid hw1
  have HS1 := Lib.hid hs1
  have hRR : R * R ≤ 576 := Nat.mul_le_mul hR hR
  have CL := fun W => l1In_c (R : Int) 0 24 W
  rw [show inB (R : Int) 0 24 = true from (inB_iff _ _ _).2 (by omega)] at CL
  have CL' := Lib.hid CL
  have CN := Lib.hid fun W => l3New_c R R W (by omega)
  have hI : ∀ i, i < R → i * R ≤ 576 := fun i hi => by have := Nat.mul_le_mul_right R (Nat.le_of_lt hi); omega
  have HI := Lib.hid hI
  clear hw1 hs1 hI CL
  go_enter Try.func110, Try.ntmps110
  go_wp2_with fail
  rw [← HW1.out]
  refine (CL'.out _).mono ?_; rintro e w' ⟨rfl, rfl⟩
  go_wp2_with fail
  refine (CN.out _).mono ?_; rintro e w2 ⟨g, rfl, ho2, g2⟩
  have hs2 := Below.size g2
  have hlt2 := ho2.lt
  go_wp2_with fail
  go_loopw [5] (fun i wr => ∃ (I : Nat) (m : List Int), i = .int .i64 I ∧ I ≤ R ∧ IdD R I m ∧ Own wr w1.heap.size (.slice (some ⟨g, 0, none⟩) (R * R) (R * R)) m ∧ MBox wr w2.heap.size R R (.slice (some ⟨g, 0, none⟩) (R * R) (R * R)) ∧ Grows w1 wr) (fun i _ => R - (intOf i).toNat)
  case atStart => exact ⟨0, _, rfl, Nat.zero_le _, IdD.zero R, ho2.alloc _, MBox.new_ _ _ _ _ _ rfl, by exact bel1 g2⟩
  case round =>
    clear ho2
    obtain ⟨I, m, rfl, hIR, hd, ho, mb, hg⟩ := hrel
    have HD := Lib.hid hd
    clear hd
    obtain ⟨b0, b1, b2⟩ := mb.cells
    by_cases hlt : I < R
    · have hlt' : (I : Int) < (R : Int) := by omega
      have e1 := castMul I R
      have e2 := castMulLe (HI.out I hlt)
      have e3 := castPos I R I
      have e4 := castLt (n := R * R) (idx_lt hlt hlt)
      have e5 := castIdx I R I
      have c1 := ho.cell (I * R + I) (by rw [HD.out.1]; exact idx_lt hlt hlt)
      have cf := ho.free (I * R + I)
      have HNX := Lib.hid (HD.out.set hlt)
      generalize nth m (I * R + I) = x at *
      go_wp2_with fail
      go_round
      case rel =>
        have gb := only_setCell (p := ⟨g, I * R + I, none⟩) (World.grownBy.refl wr (some g)) rfl (.int .i64 1)
        exact ⟨I + 1, _, by go_num, by omega, HNX.out, ho.put HD.out.1 _ _, mb.only gb (by omega), below_only hg gb (by omega) (Below.size hg)⟩
      case measure => simp [intOf]; omega
    · obtain rfl : I = R := by omega
      have hfin := HD.out.all
      subst hfin
      have mr2 := mr.grows hg
      have hs1 := HS1.out
      (have zr := mr2; obtain ⟨zr0, zr1, zr2⟩ := zr.cells; have zrf := zr.fz; have zrl := zr.lt)
      go_wp2_with fail
      refine bodyPost_ret (v := .tuple #[.agg #[.int .i64 I, .int .i64 I, .slice (some ⟨g, 0, none⟩) (I * I) (I * I)], .bool true]) ?_ rfl ?_
      · simp [results, Try.results110, go_sem, zr0, zr1, zr2, zrf, zrl]
      · exact ⟨_, rfl, by exact ownl ho, by exact bel2 hg g01⟩
end
end Go.Proofs.Ythajmffhgbenpaa

/- Contracts: a matrix under work, with those of the operations. -/
namespace Go.Proofs.Ythajmffhgbenpaa
set_option linter.unusedSimpArgs false
set_option linter.unusedVariables false
open Go.RowKit

/-- a variable of type work: block b -/
structure WBox (w : World) (b : Nat) (R C : Int) (A U V : Value) (bd : Bool) : Prop where
  lt : b < w.heap.size
  c0 : w.cell? ⟨b, 0, none⟩ = some (.int .i64 R)
  c1 : w.cell? ⟨b, 1, none⟩ = some (.int .i64 C)
  c2 : w.cell? ⟨b, 2, none⟩ = some A
  c3 : w.cell? ⟨b, 3, none⟩ = some (.int .i64 R)
  c4 : w.cell? ⟨b, 4, none⟩ = some (.int .i64 R)
  c5 : w.cell? ⟨b, 5, none⟩ = some U
  c6 : w.cell? ⟨b, 6, none⟩ = some (.int .i64 C)
  c7 : w.cell? ⟨b, 7, none⟩ = some (.int .i64 C)
  c8 : w.cell? ⟨b, 8, none⟩ = some V
  c9 : w.cell? ⟨b, 9, none⟩ = some (.bool bd)
  fz : ∀ o, w.frozen? ⟨b, o, none⟩ = false
section
variable {w w' : World} {b : Nat} {R C : Int} {A U V : Value} {bd : Bool}
theorem WBox.cells (h : WBox w b R C A U V bd) : w.cell? ⟨b, 0, none⟩ = some (.int .i64 R) ∧ w.cell? ⟨b, 1, none⟩ = some (.int .i64 C) ∧ w.cell? ⟨b, 2, none⟩ = some A ∧ w.cell? ⟨b, 3, none⟩ = some (.int .i64 R) ∧ w.cell? ⟨b, 4, none⟩ = some (.int .i64 R) ∧ w.cell? ⟨b, 5, none⟩ = some U ∧ w.cell? ⟨b, 6, none⟩ = some (.int .i64 C) ∧ w.cell? ⟨b, 7, none⟩ = some (.int .i64 C) ∧ w.cell? ⟨b, 8, none⟩ = some V ∧ w.cell? ⟨b, 9, none⟩ = some (.bool bd) :=
  ⟨h.c0, h.c1, h.c2, h.c3, h.c4, h.c5, h.c6, h.c7, h.c8, h.c9⟩
theorem WBox.of_block (h : WBox w b R C A U V bd) (hk : w'.heap[b]? = w.heap[b]?) (hs : w.heap.size ≤ w'.heap.size) : WBox w' b R C A U V bd :=
  ⟨Nat.lt_of_lt_of_le h.lt hs, (World.cell?_of_block hk).trans h.c0, (World.cell?_of_block hk).trans h.c1, (World.cell?_of_block hk).trans h.c2, (World.cell?_of_block hk).trans h.c3, (World.cell?_of_block hk).trans h.c4, (World.cell?_of_block hk).trans h.c5, (World.cell?_of_block hk).trans h.c6, (World.cell?_of_block hk).trans h.c7, (World.cell?_of_block hk).trans h.c8, (World.cell?_of_block hk).trans h.c9, fun o => (World.frozen?_of_block hk).trans (h.fz o)⟩
theorem WBox.grows (h : WBox w b R C A U V bd) (g : Grows w w') : WBox w' b R C A U V bd := h.of_block (g.block b h.lt) g.size
theorem WBox.own {v : Value} (h : WBox w b R C A U V bd) (hg : w.grownBy w' v.ownBlock) (hne : ∀ g, v.ownBlock = some g → g ≠ b) : WBox w' b R C A U V bd :=
  h.of_block (hg.block b h.lt (fun e => hne b e.symm rfl)) hg.size
theorem WBox.ext (h : WBox w b R C A U V bd) :
    (∀ W, (Proofs.Ythajmffhgbenpaa.ext w W).cell? ⟨b, 0, none⟩ = some (.int .i64 R)) ∧ (∀ W, (Proofs.Ythajmffhgbenpaa.ext w W).cell? ⟨b, 1, none⟩ = some (.int .i64 C)) ∧ (∀ W, (Proofs.Ythajmffhgbenpaa.ext w W).cell? ⟨b, 2, none⟩ = some A) ∧ (∀ W, (Proofs.Ythajmffhgbenpaa.ext w W).cell? ⟨b, 9, none⟩ = some (.bool bd)) :=
  ⟨ext_is h.c0, ext_is h.c1, ext_is h.c2, ext_is h.c9⟩
theorem WBox.bad (h : WBox w b R C A U V bd) (x : Bool) : WBox (w.setCell ⟨b, 9, none⟩ (.bool x)) b R C A U V x := by
  obtain ⟨h0, h1, h2, h3, h4, h5, h6, h7, h8, h9⟩ := h.cells
  have hl := h.lt
  have hf := h.fz
  exact ⟨by simp; exact hl, by simp [go_sem, h0], by simp [go_sem, h1], by simp [go_sem, h2], by simp [go_sem, h3], by simp [go_sem, h4], by simp [go_sem, h5], by simp [go_sem, h6], by simp [go_sem, h7], by simp [go_sem, h8], by simp [go_sem, h9], fun o => by simp [go_sem, hf]⟩
theorem WBox.new_ (w : World) (R C : Int) (A U V : Value) (bd : Bool) (t : TypeId) {b : Nat} (hb : w.heap.size = b) : WBox (w.alloc (.cells #[.int .i64 R, .int .i64 C, A, .int .i64 R, .int .i64 R, U, .int .i64 C, .int .i64 C, V, .bool bd] t)) b R C A U V bd := by
  subst hb
  exact ⟨by simp, by simp [go_sem], by simp [go_sem], by simp [go_sem], by simp [go_sem], by simp [go_sem], by simp [go_sem], by simp [go_sem], by simp [go_sem], by simp [go_sem], by simp [go_sem], fun o => by simp [go_sem]⟩
end
/-- the whole: the variable in block b, its three rows, all apart, from block B on -/
structure Wk (w : World) (B b : Nat) (R C n m q : Nat) (A U V : Option Addr) (ca cu cv : Nat) (a u v : List Int) (bd : Bool) : Prop where
  bx : WBox w b R C (.slice A n ca) (.slice U m cu) (.slice V q cv) bd
  oa : Own w B (.slice A n ca) a
  ou : Own w B (.slice U m cu) u
  ov : Own w B (.slice V q cv) v
  ab : ∀ g, (Value.slice A n ca).ownBlock = some g → g ≠ b
  ub : ∀ g, (Value.slice U m cu).ownBlock = some g → g ≠ b
  vb : ∀ g, (Value.slice V q cv).ownBlock = some g → g ≠ b
  au : ∀ g, (Value.slice A n ca).ownBlock = some g → (Value.slice U m cu).ownBlock ≠ some g
  av : ∀ g, (Value.slice A n ca).ownBlock = some g → (Value.slice V q cv).ownBlock ≠ some g
  uv : ∀ g, (Value.slice U m cu).ownBlock = some g → (Value.slice V q cv).ownBlock ≠ some g
  lo : B ≤ b
section
variable {w w' : World} {B b R C n m q : Nat} {A U V : Option Addr} {ca cu cv : Nat} {a u v a' u' : List Int} {bd : Bool}
theorem Wk.grows (h : Wk w B b R C n m q A U V ca cu cv a u v bd) (g : Grows w w') : Wk w' B b R C n m q A U V ca cu cv a u v bd :=
  ⟨h.bx.grows g, h.oa.grows g, h.ou.grows g, h.ov.grows g, h.ab, h.ub, h.vb, h.au, h.av, h.uv, h.lo⟩
theorem Wk.setA (h : Wk w B b R C n m q A U V ca cu cv a u v bd) (o : Own w' B (.slice A n ca) a') (g : w.grownBy w' (Value.slice A n ca).ownBlock) : Wk w' B b R C n m q A U V ca cu cv a' u v bd :=
  ⟨h.bx.own g h.ab, o, h.ou.other g h.au, h.ov.other g h.av, h.ab, h.ub, h.vb, h.au, h.av, h.uv, h.lo⟩
theorem Wk.setU (h : Wk w B b R C n m q A U V ca cu cv a u v bd) (o : Own w' B (.slice U m cu) u') (g : w.grownBy w' (Value.slice U m cu).ownBlock) : Wk w' B b R C n m q A U V ca cu cv a u' v bd :=
  ⟨h.bx.own g h.ub, h.oa.other g (fun g h1 h2 => h.au g h2 h1), o, h.ov.other g h.uv, h.ab, h.ub, h.vb, h.au, h.av, h.uv, h.lo⟩
theorem Wk.setBad (h : Wk w B b R C n m q A U V ca cu cv a u v bd) (x : Bool) : Wk (w.setCell ⟨b, 9, none⟩ (.bool x)) B b R C n m q A U V ca cu cv a u v x :=
  ⟨h.bx.bad x, h.oa.far (p := ⟨b, 9, none⟩) h.ab _, h.ou.far (p := ⟨b, 9, none⟩) h.ub _, h.ov.far (p := ⟨b, 9, none⟩) h.vb _, h.ab, h.ub, h.vb, h.au, h.av, h.uv, h.lo⟩
theorem Wk.size (h : Wk w B b R C n m q A U V ca cu cv a u v bd) : B ≤ w.heap.size := Nat.le_trans h.lo (Nat.le_of_lt h.bx.lt)
end
/-- the state: a pair of lists, or none: then it is marked as bad -/
def WkO (w : World) (B b R C n m q : Nat) (A U V : Option Addr) (ca cu cv : Nat) (s : Option LL) (v : List Int) : Prop :=
  ∃ a u, Wk w B b R C n m q A U V ca cu cv a u v (!s.isSome) ∧ ∀ y, s = some y → y = (a, u)
theorem WkO.grows {w w' : World} {B b R C n m q : Nat} {A U V : Option Addr} {ca cu cv : Nat} {s : Option LL} {v : List Int} (h : WkO w B b R C n m q A U V ca cu cv s v) (g : Grows w w') : WkO w' B b R C n m q A U V ca cu cv s v := by
  obtain ⟨a, u, h1, h2⟩ := h
  exact ⟨a, u, h1.grows g, h2⟩
theorem WkO.some {w : World} {B b R C n m q : Nat} {A U V : Option Addr} {ca cu cv : Nat} {s : LL} {v : List Int} (h : WkO w B b R C n m q A U V ca cu cv (some s) v) : Wk w B b R C n m q A U V ca cu cv s.1 s.2 v false := by
  obtain ⟨a, u, h1, h2⟩ := h
  obtain rfl := h2 s rfl
  exact h1
theorem Wk.toO {w : World} {B b R C n m q : Nat} {A U V : Option Addr} {ca cu cv : Nat} {s : LL} {v : List Int} (h : Wk w B b R C n m q A U V ca cu cv s.1 s.2 v false) : WkO w B b R C n m q A U V ca cu cv (.some s) v :=
  ⟨s.1, s.2, h, fun y hy => by cases hy; rfl⟩
theorem WkO.none {w : World} {B b R C n m q : Nat} {A U V : Option Addr} {ca cu cv : Nat} {v : List Int} (h : WkO w B b R C n m q A U V ca cu cv none v) : ∃ a u, Wk w B b R C n m q A U V ca cu cv a u v true := by
  obtain ⟨a, u, h1, _⟩ := h
  exact ⟨a, u, h1⟩

section
set_option maxHeartbeats 4000000
set_option maxRecDepth 100000
theorem isAdd_c (R i j : Nat) (t : Int) (w : World) (hR : R ≤ 24) (hi : i < R) (hj : j < R) (hij : i ≠ j) (ht : isNum t = true) :
    Calls Try.prog 119 #[.agg #[.int .i64 2, .int .i64 i, .int .i64 j, .int .i64 t], .int .i64 R] w fun e w' => e = .returned (.bool true) ∧ Grows w w' := by
  have CN := fun W => iIsNumber_c t W
  rw [ht] at CN
  have CN' := Lib.hid CN
  have e1 : ((i : Int) != (j : Int)) = true := by rw [bne_iff_ne]; omega
  clear CN ht hij
  go_enter Try.func119, Try.ntmps119
  go_wp2_with fail
  refine (CN'.out _).mono ?_; rintro e w' ⟨rfl, rfl⟩
  go_wp2_with fail
  go_ret
  exact ⟨rfl, by exact bel0⟩
theorem isSwp_c (R i j : Nat) (w : World) (hR : R ≤ 24) (hi : i < R) (hj : j < R) (hij : i ≠ j) :
    Calls Try.prog 119 #[.agg #[.int .i64 0, .int .i64 i, .int .i64 j, .int .i64 0], .int .i64 R] w fun e w' => e = .returned (.bool true) ∧ Grows w w' := by
  have CN := fun W => iIsNumber_c 0 W
  rw [show isNum 0 = true by decide] at CN
  have CN' := Lib.hid CN
  have e1 : ((i : Int) != (j : Int)) = true := by rw [bne_iff_ne]; omega
  clear CN hij
  go_enter Try.func119, Try.ntmps119
  go_wp2_with fail
  refine (CN'.out _).mono ?_; rintro e w' ⟨rfl, rfl⟩
  go_wp2_with fail
  go_ret
  exact ⟨rfl, by exact bel0⟩
theorem isNeg_c (R i : Nat) (w : World) (hR : R ≤ 24) (hi : i < R) :
    Calls Try.prog 119 #[.agg #[.int .i64 1, .int .i64 i, .int .i64 i, .int .i64 0], .int .i64 R] w fun e w' => e = .returned (.bool true) ∧ Grows w w' := by
  have CN := fun W => iIsNumber_c 0 W
  rw [show isNum 0 = true by decide] at CN
  have CN' := Lib.hid CN
  clear CN
  go_enter Try.func119, Try.ntmps119
  go_wp2_with fail
  refine (CN'.out _).mono ?_; rintro e w' ⟨rfl, rfl⟩
  go_wp2_with fail
  go_ret
  exact ⟨rfl, by exact bel0⟩
theorem opRes_out {w w' : World} {B : Nat} {v : Value} {ok : Bool} {l1 : List Int} {e : Ending} (h : OpRes w B v ok l1 e w') : ∃ m, e = .returned (.bool ok) ∧ Own w' B v m ∧ (ok = true → m = l1) ∧ w.grownBy w' v.ownBlock := h
theorem wk_keep {w W : World} {b x R C n m q : Nat} {A U V : Option Addr} {ca cu cv : Nat} {bd : Bool} {k i j t : Int} (h : WBox W b R C (.slice A n ca) (.slice U m cu) (.slice V q cv) bd) (o : OBox W x k i j t) (g : Grows W w) :
    w.cell? ⟨b, 0, none⟩ = some (.int .i64 R) ∧ w.cell? ⟨b, 1, none⟩ = some (.int .i64 C) ∧ w.cell? ⟨b, 2, none⟩ = some (.slice A n ca) ∧ w.cell? ⟨b, 3, none⟩ = some (.int .i64 R) ∧ w.cell? ⟨b, 4, none⟩ = some (.int .i64 R) ∧ w.cell? ⟨b, 5, none⟩ = some (.slice U m cu) ∧ w.cell? ⟨b, 9, none⟩ = some (.bool bd) ∧
    w.cell? ⟨x, 0, none⟩ = some (.int .i64 k) ∧ w.cell? ⟨x, 1, none⟩ = some (.int .i64 i) ∧ w.cell? ⟨x, 2, none⟩ = some (.int .i64 j) ∧ w.cell? ⟨x, 3, none⟩ = some (.int .i64 t) :=
  ⟨(h.grows g).c0, (h.grows g).c1, (h.grows g).c2, (h.grows g).c3, (h.grows g).c4, (h.grows g).c5, (h.grows g).c9, (o.grows g).c0, (o.grows g).c1, (o.grows g).c2, (o.grows g).c3⟩
/-- what an operation on the rows leaves: both lists as said, if all numbers fit -/
theorem rows_c (R C n m q B b : Nat) (A U V : Option Addr) (ca cu cv : Nat) (k i j t : Int) (a u v a1 u1 : List Int) (k1 k2 : Bool) (w : World) (wk : Wk w B b R C n m q A U V ca cu cv a u v false)
    (HI : ∀ W, Calls Try.prog 119 #[.agg #[.int .i64 k, .int .i64 i, .int .i64 j, .int .i64 t], .int .i64 R] W fun e w' => e = .returned (.bool true) ∧ Grows W w')
    (HA : ∀ W, Own W B (.slice A n ca) a → Calls Try.prog 120 #[.agg #[.int .i64 R, .int .i64 C, .slice A n ca], .agg #[.int .i64 k, .int .i64 i, .int .i64 j, .int .i64 t]] W (OpRes W B (.slice A n ca) k1 a1))
    (HU : ∀ W, Own W B (.slice U m cu) u → Calls Try.prog 120 #[.agg #[.int .i64 R, .int .i64 R, .slice U m cu], .agg #[.int .i64 k, .int .i64 i, .int .i64 j, .int .i64 t]] W (OpRes W B (.slice U m cu) k2 u1)) :
    Calls Try.prog 72 #[.pointer (some ⟨b, 0, none⟩), .agg #[.int .i64 k, .int .i64 i, .int .i64 j, .int .i64 t]] w fun e w' => e = .returned (.tuple #[]) ∧ WkO w' B b R C n m q A U V ca cu cv (if k1 && k2 then some (a1, u1) else none) v ∧ Below B w w' := by
  obtain ⟨w1, hw1⟩ : ∃ w1, w1 = w.alloc (.cells #[.int .i64 k, .int .i64 i, .int .i64 j, .int .i64 t] 83) := ⟨_, rfl⟩
  have g01 : Grows w w1 := by rw [hw1]; exact bel0
  have ob : OBox w1 w.heap.size k i j t := by rw [hw1]; exact OBox.new_ _ _ _ _ _ _ rfl
  have wk1 := wk.grows g01
  have hba : ∀ g, (Value.slice A n ca).ownBlock = some g → g ≠ w.heap.size := fun g h => Nat.ne_of_lt (World.ownsRow.lt wk.oa g h).2
  have hBs := wk.size
  have HW1 := Lib.hid hw1
  have HBA := Lib.hid hba
  have HBU := Lib.hid (show ∀ g, (Value.slice U m cu).ownBlock = some g → g ≠ w.heap.size from fun g h => Nat.ne_of_lt (World.ownsRow.lt wk.ou g h).2)
  have HI' := Lib.hid HI
  have HA' := Lib.hid HA
  have HU' := Lib.hid HU
  clear hw1 hba HI HA HU wk
  have hs01 := Below.size g01
  cases k1
  · go_enter Try.func72, Try.ntmps72
    go_wp2_with fail
    rw [← HW1.out]
    (refine wp_region_heldL (fun W => W.cell? ⟨b, 0, none⟩ = some (.int .i64 R) ∧ W.cell? ⟨b, 1, none⟩ = some (.int .i64 C) ∧ W.cell? ⟨b, 2, none⟩ = some (.slice A n ca) ∧ W.cell? ⟨b, 3, none⟩ = some (.int .i64 R) ∧ W.cell? ⟨b, 4, none⟩ = some (.int .i64 R) ∧ W.cell? ⟨b, 5, none⟩ = some (.slice U m cu) ∧ W.cell? ⟨b, 9, none⟩ = some (.bool false) ∧ W.cell? ⟨w.heap.size, 0, none⟩ = some (.int .i64 k) ∧ W.cell? ⟨w.heap.size, 1, none⟩ = some (.int .i64 i) ∧ W.cell? ⟨w.heap.size, 2, none⟩ = some (.int .i64 j) ∧ W.cell? ⟨w.heap.size, 3, none⟩ = some (.int .i64 t)) (by kernel_rfl) (by ((try dsimp only); (first | exact wk_keep wk4.bx ob4 (by exact bel0) | exact wk_keep wk3.bx ob3 (by exact bel0) | exact wk_keep wk1.bx ob (by exact bel1 g2) | exact wk_keep wk1.bx ob (by exact bel0)))) (fun hHeld => ?_); refine heldL_take (i := 0) (v := _) (by rfl) (by kernel_rfl) (by kernel_rfl) (by kernel_rfl) (fun _ _ _ h => h) (Or.inl ⟨by rfl, fun wS hSw => by ((try dsimp only at hSw); go_simp; (try with_reducible rfl))⟩) (by assumption) ?_; simp only [Act.put, List.setIfInBounds_toArray, List.set_cons_zero, List.set_cons_succ]; refine heldL_take (i := 1) (v := _) (by rfl) (by kernel_rfl) (by kernel_rfl) (by kernel_rfl) (fun _ _ _ h => h) (Or.inl ⟨by rfl, fun wS hSw => by ((try dsimp only at hSw); go_simp; (try with_reducible rfl))⟩) (by assumption) ?_; simp only [Act.put, List.setIfInBounds_toArray, List.set_cons_zero, List.set_cons_succ]; refine heldL_take (i := 2) (v := _) (by rfl) (by kernel_rfl) (by kernel_rfl) (by kernel_rfl) (fun _ _ _ h => h) (Or.inl ⟨by rfl, fun wS hSw => by ((try dsimp only at hSw); go_simp; (try with_reducible rfl))⟩) (by assumption) ?_; simp only [Act.put, List.setIfInBounds_toArray, List.set_cons_zero, List.set_cons_succ]; refine heldL_take (i := 3) (v := _) (by rfl) (by kernel_rfl) (by kernel_rfl) (by kernel_rfl) (fun _ _ _ h => h) (Or.inl ⟨by rfl, fun wS hSw => by ((try dsimp only at hSw); go_simp; (try with_reducible rfl))⟩) (by assumption) ?_; simp only [Act.put, List.setIfInBounds_toArray, List.set_cons_zero, List.set_cons_succ]; refine heldL_take (i := 4) (v := _) (by rfl) (by kernel_rfl) (by kernel_rfl) (by kernel_rfl) (fun _ _ _ h => h) (Or.inl ⟨by rfl, fun wS hSw => by ((try dsimp only at hSw); go_simp; (try with_reducible rfl))⟩) (by assumption) ?_; simp only [Act.put, List.setIfInBounds_toArray, List.set_cons_zero, List.set_cons_succ]; refine heldL_take (i := 5) (v := _) (by rfl) (by kernel_rfl) (by kernel_rfl) (by kernel_rfl) (fun _ _ _ h => h) (Or.inl ⟨by rfl, fun wS hSw => by ((try dsimp only at hSw); go_simp; (try with_reducible rfl))⟩) (by assumption) ?_; simp only [Act.put, List.setIfInBounds_toArray, List.set_cons_zero, List.set_cons_succ]; refine heldL_take (i := 6) (v := _) (by rfl) (by kernel_rfl) (by kernel_rfl) (by kernel_rfl) (fun _ _ _ h => h) (Or.inl ⟨by rfl, fun wS hSw => by ((try dsimp only at hSw); go_simp; (try with_reducible rfl))⟩) (by assumption) ?_; simp only [Act.put, List.setIfInBounds_toArray, List.set_cons_zero, List.set_cons_succ]; refine heldL_take (i := 7) (v := _) (by rfl) (by kernel_rfl) (by kernel_rfl) (by kernel_rfl) (fun _ _ _ h => h) (Or.inl ⟨by rfl, fun wS hSw => by ((try dsimp only at hSw); go_simp; (try with_reducible rfl))⟩) (by assumption) ?_; simp only [Act.put, List.setIfInBounds_toArray, List.set_cons_zero, List.set_cons_succ]; refine heldL_take (i := 8) (v := _) (by rfl) (by kernel_rfl) (by kernel_rfl) (by kernel_rfl) (fun _ _ _ h => h) (Or.inl ⟨by rfl, fun wS hSw => by ((try dsimp only at hSw); go_simp; (try with_reducible rfl))⟩) (by assumption) ?_; simp only [Act.put, List.setIfInBounds_toArray, List.set_cons_zero, List.set_cons_succ]; refine heldL_take (i := 9) (v := _) (by rfl) (by kernel_rfl) (by kernel_rfl) (by kernel_rfl) (fun _ _ _ h => h) (Or.inl ⟨by rfl, fun wS hSw => by ((try dsimp only at hSw); go_simp; (try with_reducible rfl))⟩) (by assumption) ?_; simp only [Act.put, List.setIfInBounds_toArray, List.set_cons_zero, List.set_cons_succ]; refine heldL_take (i := 10) (v := _) (by rfl) (by kernel_rfl) (by kernel_rfl) (by kernel_rfl) (fun _ _ _ h => h) (Or.inl ⟨by rfl, fun wS hSw => by ((try dsimp only at hSw); go_simp; (try with_reducible rfl))⟩) (by assumption) ?_; simp only [Act.put, List.setIfInBounds_toArray, List.set_cons_zero, List.set_cons_succ]; refine heldL_step (i := 11) (by kernel_rfl) (by rfl) (fun K hK => ?_); go_simp; (go_at_call 119; refine (HI'.out _).mono ?_; rintro e w2 ⟨rfl, g2⟩; have hs2 : w1.heap.size ≤ w2.heap.size := (by have := Below.size g2; simpa using this)) ; (try (go_wp2_with fail)); refine hK.out _ _ (by ((try dsimp only); (first | exact wk_keep wk4.bx ob4 (by exact bel0) | exact wk_keep wk3.bx ob3 (by exact bel0) | exact wk_keep wk1.bx ob (by exact bel1 g2) | exact wk_keep wk1.bx ob (by exact bel0)))) (fun hHeld => ?_); clear hK K; (try simp only [Act.put, List.setIfInBounds_toArray, List.set_cons_zero, List.set_cons_succ]); refine heldL_take (i := 12) (v := _) (by rfl) (by kernel_rfl) (by kernel_rfl) (by kernel_rfl) (fun _ _ _ h => h) (Or.inl ⟨by rfl, fun wS hSw => by ((try dsimp only at hSw); go_simp; (try with_reducible rfl))⟩) (by assumption) ?_; simp only [Act.put, List.setIfInBounds_toArray, List.set_cons_zero, List.set_cons_succ]; refine heldL_take (i := 13) (v := _) (by rfl) (by kernel_rfl) (by kernel_rfl) (by kernel_rfl) (fun _ _ _ h => h) (Or.inl ⟨by rfl, fun wS hSw => by ((try dsimp only at hSw); go_simp; (try with_reducible rfl))⟩) (by assumption) ?_; simp only [Act.put, List.setIfInBounds_toArray, List.set_cons_zero, List.set_cons_succ]; refine heldL_take (i := 14) (v := _) (by rfl) (by kernel_rfl) (by kernel_rfl) (by kernel_rfl) (fun _ _ _ h => h) (Or.inl ⟨by rfl, fun wS hSw => by ((try dsimp only at hSw); go_simp; (try with_reducible rfl))⟩) (by assumption) ?_; simp only [Act.put, List.setIfInBounds_toArray, List.set_cons_zero, List.set_cons_succ]; refine heldL_take (i := 15) (v := _) (by rfl) (by kernel_rfl) (by kernel_rfl) (by kernel_rfl) (fun _ _ _ h => h) (Or.inl ⟨by rfl, fun wS hSw => by ((try dsimp only at hSw); go_simp; (try with_reducible rfl))⟩) (by assumption) ?_; simp only [Act.put, List.setIfInBounds_toArray, List.set_cons_zero, List.set_cons_succ]; refine heldL_take (i := 16) (v := _) (by rfl) (by kernel_rfl) (by kernel_rfl) (by kernel_rfl) (fun _ _ _ h => h) (Or.inl ⟨by rfl, fun wS hSw => by ((try dsimp only at hSw); go_simp; (try with_reducible rfl))⟩) (by assumption) ?_; simp only [Act.put, List.setIfInBounds_toArray, List.set_cons_zero, List.set_cons_succ]; refine heldL_take (i := 17) (v := _) (by rfl) (by kernel_rfl) (by kernel_rfl) (by kernel_rfl) (fun _ _ _ h => h) (Or.inl ⟨by rfl, fun wS hSw => by ((try dsimp only at hSw); go_simp; (try with_reducible rfl))⟩) (by assumption) ?_; simp only [Act.put, List.setIfInBounds_toArray, List.set_cons_zero, List.set_cons_succ]; refine heldL_take (i := 18) (v := _) (by rfl) (by kernel_rfl) (by kernel_rfl) (by kernel_rfl) (fun _ _ _ h => h) (Or.inl ⟨by rfl, fun wS hSw => by ((try dsimp only at hSw); go_simp; (try with_reducible rfl))⟩) (by assumption) ?_; simp only [Act.put, List.setIfInBounds_toArray, List.set_cons_zero, List.set_cons_succ]; refine heldL_take (i := 19) (v := _) (by rfl) (by kernel_rfl) (by kernel_rfl) (by kernel_rfl) (fun _ _ _ h => h) (Or.inl ⟨by rfl, fun wS hSw => by ((try dsimp only at hSw); go_simp; (try with_reducible rfl))⟩) (by assumption) ?_; simp only [Act.put, List.setIfInBounds_toArray, List.set_cons_zero, List.set_cons_succ]; refine heldL_step (i := 20) (by kernel_rfl) (by rfl) (fun K hK => ?_); go_simp; (go_at_call 120; refine (HA'.out _ (wk1.grows (by exact bel1 g2)).oa).mono ?_; rintro e w3 hop; obtain ⟨m3, rfl, o3, hm3, g3⟩ := opRes_out hop; clear hop; have wk3 := (wk1.grows (w' := w2) (by exact bel1 g2)).setA o3 g3; have ob3 := (ob.grows (w' := w2) (by exact bel1 g2)).own g3 HBA.out; have hs3 := g3.size; have b3 : Below B w w3 := Below.trans (Below.trans (Below.mono g01 hBs) (Below.mono (show Grows w1 w2 by exact bel1 g2) (by omega))) (below_app (wk1.grows (w' := w2) (by exact bel1 g2)).oa (by omega) g3); have HM3 := Lib.hid hm3; clear hm3 g3) ; (try (go_wp2_with fail)); refine hK.out _ _ (by ((try dsimp only); (first | exact wk_keep wk4.bx ob4 (by exact bel0) | exact wk_keep wk3.bx ob3 (by exact bel0) | exact wk_keep wk1.bx ob (by exact bel1 g2) | exact wk_keep wk1.bx ob (by exact bel0)))) (fun hHeld => ?_); clear hK K; (try simp only [Act.put, List.setIfInBounds_toArray, List.set_cons_zero, List.set_cons_succ]); refine heldL_take (i := 21) (v := _) (by rfl) (by kernel_rfl) (by kernel_rfl) (by kernel_rfl) (fun _ _ _ h => h) (Or.inl ⟨by rfl, fun wS hSw => by ((try dsimp only at hSw); go_simp; (try with_reducible rfl))⟩) (by assumption) ?_; simp only [Act.put, List.setIfInBounds_toArray, List.set_cons_zero, List.set_cons_succ]; refine heldL_take (i := 22) (v := _) (by rfl) (by kernel_rfl) (by kernel_rfl) (by kernel_rfl) (fun _ _ _ h => h) (Or.inl ⟨by rfl, fun wS hSw => by ((try dsimp only at hSw); go_simp; (try with_reducible rfl))⟩) (by assumption) ?_; simp only [Act.put, List.setIfInBounds_toArray, List.set_cons_zero, List.set_cons_succ]; refine heldL_take (i := 23) (v := _) (by rfl) (by kernel_rfl) (by kernel_rfl) (by kernel_rfl) (fun _ _ _ h => h) (Or.inl ⟨by rfl, fun wS hSw => by ((try dsimp only at hSw); go_simp; (try with_reducible rfl))⟩) (by assumption) ?_; simp only [Act.put, List.setIfInBounds_toArray, List.set_cons_zero, List.set_cons_succ]; refine heldL_take (i := 24) (v := _) (by rfl) (by kernel_rfl) (by kernel_rfl) (by kernel_rfl) (fun _ _ _ h => h) (Or.inr ⟨by rfl, rfl⟩) (by assumption) ?_; simp only [Act.put, List.setIfInBounds_toArray, List.set_cons_zero, List.set_cons_succ]; refine heldL_take (i := 25) (v := _) (by rfl) (by kernel_rfl) (by kernel_rfl) (by kernel_rfl) (fun _ _ _ h => h) (Or.inr ⟨by rfl, rfl⟩) (by assumption) ?_; simp only [Act.put, List.setIfInBounds_toArray, List.set_cons_zero, List.set_cons_succ]; refine heldL_take (i := 26) (v := _) (by rfl) (by kernel_rfl) (by kernel_rfl) (by kernel_rfl) (fun _ _ _ h => h) (Or.inr ⟨by rfl, rfl⟩) (by assumption) ?_; simp only [Act.put, List.setIfInBounds_toArray, List.set_cons_zero, List.set_cons_succ]; refine heldL_take (i := 27) (v := _) (by rfl) (by kernel_rfl) (by kernel_rfl) (by kernel_rfl) (fun _ _ _ h => h) (Or.inr ⟨by rfl, rfl⟩) (by assumption) ?_; simp only [Act.put, List.setIfInBounds_toArray, List.set_cons_zero, List.set_cons_succ]; refine heldL_take (i := 28) (v := _) (by rfl) (by kernel_rfl) (by kernel_rfl) (by kernel_rfl) (fun _ _ _ h => h) (Or.inr ⟨by rfl, rfl⟩) (by assumption) ?_; simp only [Act.put, List.setIfInBounds_toArray, List.set_cons_zero, List.set_cons_succ]; refine heldL_take (i := 29) (v := _) (by rfl) (by kernel_rfl) (by kernel_rfl) (by kernel_rfl) (fun _ _ _ h => h) (Or.inr ⟨by rfl, rfl⟩) (by assumption) ?_; simp only [Act.put, List.setIfInBounds_toArray, List.set_cons_zero, List.set_cons_succ]; refine heldL_take (i := 30) (v := _) (by rfl) (by kernel_rfl) (by kernel_rfl) (by kernel_rfl) (fun _ _ _ h => h) (Or.inr ⟨by rfl, rfl⟩) (by assumption) ?_; simp only [Act.put, List.setIfInBounds_toArray, List.set_cons_zero, List.set_cons_succ]; refine heldL_take (i := 31) (v := _) (by rfl) (by kernel_rfl) (by kernel_rfl) (by kernel_rfl) (fun _ _ _ h => h) (Or.inl ⟨by rfl, fun wS hSw => by ((try dsimp only at hSw); go_simp; (try with_reducible rfl))⟩) (by assumption) ?_; simp only [Act.put, List.setIfInBounds_toArray, List.set_cons_zero, List.set_cons_succ]; refine wpAnyH_done (by kernel_rfl) ?_ _; refine NoPanic.normal ?_)
    have wl3 := wk3.bx.lt
    have wf3 := wk3.bx.fz
    have wc3 := wk3.bx.c9
    go_wp2_with fail
    go_end0
    exact ⟨rfl, ⟨_, _, wk3.setBad true, fun y hy => by cases hy⟩, b3.setCell wk3.lo _⟩
  · cases k2
    · go_enter Try.func72, Try.ntmps72
      go_wp2_with fail
      rw [← HW1.out]
      (refine wp_region_heldL (fun W => W.cell? ⟨b, 0, none⟩ = some (.int .i64 R) ∧ W.cell? ⟨b, 1, none⟩ = some (.int .i64 C) ∧ W.cell? ⟨b, 2, none⟩ = some (.slice A n ca) ∧ W.cell? ⟨b, 3, none⟩ = some (.int .i64 R) ∧ W.cell? ⟨b, 4, none⟩ = some (.int .i64 R) ∧ W.cell? ⟨b, 5, none⟩ = some (.slice U m cu) ∧ W.cell? ⟨b, 9, none⟩ = some (.bool false) ∧ W.cell? ⟨w.heap.size, 0, none⟩ = some (.int .i64 k) ∧ W.cell? ⟨w.heap.size, 1, none⟩ = some (.int .i64 i) ∧ W.cell? ⟨w.heap.size, 2, none⟩ = some (.int .i64 j) ∧ W.cell? ⟨w.heap.size, 3, none⟩ = some (.int .i64 t)) (by kernel_rfl) (by ((try dsimp only); (first | exact wk_keep wk4.bx ob4 (by exact bel0) | exact wk_keep wk3.bx ob3 (by exact bel0) | exact wk_keep wk1.bx ob (by exact bel1 g2) | exact wk_keep wk1.bx ob (by exact bel0)))) (fun hHeld => ?_); refine heldL_take (i := 0) (v := _) (by rfl) (by kernel_rfl) (by kernel_rfl) (by kernel_rfl) (fun _ _ _ h => h) (Or.inl ⟨by rfl, fun wS hSw => by ((try dsimp only at hSw); go_simp; (try with_reducible rfl))⟩) (by assumption) ?_; simp only [Act.put, List.setIfInBounds_toArray, List.set_cons_zero, List.set_cons_succ]; refine heldL_take (i := 1) (v := _) (by rfl) (by kernel_rfl) (by kernel_rfl) (by kernel_rfl) (fun _ _ _ h => h) (Or.inl ⟨by rfl, fun wS hSw => by ((try dsimp only at hSw); go_simp; (try with_reducible rfl))⟩) (by assumption) ?_; simp only [Act.put, List.setIfInBounds_toArray, List.set_cons_zero, List.set_cons_succ]; refine heldL_take (i := 2) (v := _) (by rfl) (by kernel_rfl) (by kernel_rfl) (by kernel_rfl) (fun _ _ _ h => h) (Or.inl ⟨by rfl, fun wS hSw => by ((try dsimp only at hSw); go_simp; (try with_reducible rfl))⟩) (by assumption) ?_; simp only [Act.put, List.setIfInBounds_toArray, List.set_cons_zero, List.set_cons_succ]; refine heldL_take (i := 3) (v := _) (by rfl) (by kernel_rfl) (by kernel_rfl) (by kernel_rfl) (fun _ _ _ h => h) (Or.inl ⟨by rfl, fun wS hSw => by ((try dsimp only at hSw); go_simp; (try with_reducible rfl))⟩) (by assumption) ?_; simp only [Act.put, List.setIfInBounds_toArray, List.set_cons_zero, List.set_cons_succ]; refine heldL_take (i := 4) (v := _) (by rfl) (by kernel_rfl) (by kernel_rfl) (by kernel_rfl) (fun _ _ _ h => h) (Or.inl ⟨by rfl, fun wS hSw => by ((try dsimp only at hSw); go_simp; (try with_reducible rfl))⟩) (by assumption) ?_; simp only [Act.put, List.setIfInBounds_toArray, List.set_cons_zero, List.set_cons_succ]; refine heldL_take (i := 5) (v := _) (by rfl) (by kernel_rfl) (by kernel_rfl) (by kernel_rfl) (fun _ _ _ h => h) (Or.inl ⟨by rfl, fun wS hSw => by ((try dsimp only at hSw); go_simp; (try with_reducible rfl))⟩) (by assumption) ?_; simp only [Act.put, List.setIfInBounds_toArray, List.set_cons_zero, List.set_cons_succ]; refine heldL_take (i := 6) (v := _) (by rfl) (by kernel_rfl) (by kernel_rfl) (by kernel_rfl) (fun _ _ _ h => h) (Or.inl ⟨by rfl, fun wS hSw => by ((try dsimp only at hSw); go_simp; (try with_reducible rfl))⟩) (by assumption) ?_; simp only [Act.put, List.setIfInBounds_toArray, List.set_cons_zero, List.set_cons_succ]; refine heldL_take (i := 7) (v := _) (by rfl) (by kernel_rfl) (by kernel_rfl) (by kernel_rfl) (fun _ _ _ h => h) (Or.inl ⟨by rfl, fun wS hSw => by ((try dsimp only at hSw); go_simp; (try with_reducible rfl))⟩) (by assumption) ?_; simp only [Act.put, List.setIfInBounds_toArray, List.set_cons_zero, List.set_cons_succ]; refine heldL_take (i := 8) (v := _) (by rfl) (by kernel_rfl) (by kernel_rfl) (by kernel_rfl) (fun _ _ _ h => h) (Or.inl ⟨by rfl, fun wS hSw => by ((try dsimp only at hSw); go_simp; (try with_reducible rfl))⟩) (by assumption) ?_; simp only [Act.put, List.setIfInBounds_toArray, List.set_cons_zero, List.set_cons_succ]; refine heldL_take (i := 9) (v := _) (by rfl) (by kernel_rfl) (by kernel_rfl) (by kernel_rfl) (fun _ _ _ h => h) (Or.inl ⟨by rfl, fun wS hSw => by ((try dsimp only at hSw); go_simp; (try with_reducible rfl))⟩) (by assumption) ?_; simp only [Act.put, List.setIfInBounds_toArray, List.set_cons_zero, List.set_cons_succ]; refine heldL_take (i := 10) (v := _) (by rfl) (by kernel_rfl) (by kernel_rfl) (by kernel_rfl) (fun _ _ _ h => h) (Or.inl ⟨by rfl, fun wS hSw => by ((try dsimp only at hSw); go_simp; (try with_reducible rfl))⟩) (by assumption) ?_; simp only [Act.put, List.setIfInBounds_toArray, List.set_cons_zero, List.set_cons_succ]; refine heldL_step (i := 11) (by kernel_rfl) (by rfl) (fun K hK => ?_); go_simp; (go_at_call 119; refine (HI'.out _).mono ?_; rintro e w2 ⟨rfl, g2⟩; have hs2 : w1.heap.size ≤ w2.heap.size := (by have := Below.size g2; simpa using this)) ; (try (go_wp2_with fail)); refine hK.out _ _ (by ((try dsimp only); (first | exact wk_keep wk4.bx ob4 (by exact bel0) | exact wk_keep wk3.bx ob3 (by exact bel0) | exact wk_keep wk1.bx ob (by exact bel1 g2) | exact wk_keep wk1.bx ob (by exact bel0)))) (fun hHeld => ?_); clear hK K; (try simp only [Act.put, List.setIfInBounds_toArray, List.set_cons_zero, List.set_cons_succ]); refine heldL_take (i := 12) (v := _) (by rfl) (by kernel_rfl) (by kernel_rfl) (by kernel_rfl) (fun _ _ _ h => h) (Or.inl ⟨by rfl, fun wS hSw => by ((try dsimp only at hSw); go_simp; (try with_reducible rfl))⟩) (by assumption) ?_; simp only [Act.put, List.setIfInBounds_toArray, List.set_cons_zero, List.set_cons_succ]; refine heldL_take (i := 13) (v := _) (by rfl) (by kernel_rfl) (by kernel_rfl) (by kernel_rfl) (fun _ _ _ h => h) (Or.inl ⟨by rfl, fun wS hSw => by ((try dsimp only at hSw); go_simp; (try with_reducible rfl))⟩) (by assumption) ?_; simp only [Act.put, List.setIfInBounds_toArray, List.set_cons_zero, List.set_cons_succ]; refine heldL_take (i := 14) (v := _) (by rfl) (by kernel_rfl) (by kernel_rfl) (by kernel_rfl) (fun _ _ _ h => h) (Or.inl ⟨by rfl, fun wS hSw => by ((try dsimp only at hSw); go_simp; (try with_reducible rfl))⟩) (by assumption) ?_; simp only [Act.put, List.setIfInBounds_toArray, List.set_cons_zero, List.set_cons_succ]; refine heldL_take (i := 15) (v := _) (by rfl) (by kernel_rfl) (by kernel_rfl) (by kernel_rfl) (fun _ _ _ h => h) (Or.inl ⟨by rfl, fun wS hSw => by ((try dsimp only at hSw); go_simp; (try with_reducible rfl))⟩) (by assumption) ?_; simp only [Act.put, List.setIfInBounds_toArray, List.set_cons_zero, List.set_cons_succ]; refine heldL_take (i := 16) (v := _) (by rfl) (by kernel_rfl) (by kernel_rfl) (by kernel_rfl) (fun _ _ _ h => h) (Or.inl ⟨by rfl, fun wS hSw => by ((try dsimp only at hSw); go_simp; (try with_reducible rfl))⟩) (by assumption) ?_; simp only [Act.put, List.setIfInBounds_toArray, List.set_cons_zero, List.set_cons_succ]; refine heldL_take (i := 17) (v := _) (by rfl) (by kernel_rfl) (by kernel_rfl) (by kernel_rfl) (fun _ _ _ h => h) (Or.inl ⟨by rfl, fun wS hSw => by ((try dsimp only at hSw); go_simp; (try with_reducible rfl))⟩) (by assumption) ?_; simp only [Act.put, List.setIfInBounds_toArray, List.set_cons_zero, List.set_cons_succ]; refine heldL_take (i := 18) (v := _) (by rfl) (by kernel_rfl) (by kernel_rfl) (by kernel_rfl) (fun _ _ _ h => h) (Or.inl ⟨by rfl, fun wS hSw => by ((try dsimp only at hSw); go_simp; (try with_reducible rfl))⟩) (by assumption) ?_; simp only [Act.put, List.setIfInBounds_toArray, List.set_cons_zero, List.set_cons_succ]; refine heldL_take (i := 19) (v := _) (by rfl) (by kernel_rfl) (by kernel_rfl) (by kernel_rfl) (fun _ _ _ h => h) (Or.inl ⟨by rfl, fun wS hSw => by ((try dsimp only at hSw); go_simp; (try with_reducible rfl))⟩) (by assumption) ?_; simp only [Act.put, List.setIfInBounds_toArray, List.set_cons_zero, List.set_cons_succ]; refine heldL_step (i := 20) (by kernel_rfl) (by rfl) (fun K hK => ?_); go_simp; (go_at_call 120; refine (HA'.out _ (wk1.grows (by exact bel1 g2)).oa).mono ?_; rintro e w3 hop; obtain ⟨m3, rfl, o3, hm3, g3⟩ := opRes_out hop; clear hop; have wk3 := (wk1.grows (w' := w2) (by exact bel1 g2)).setA o3 g3; have ob3 := (ob.grows (w' := w2) (by exact bel1 g2)).own g3 HBA.out; have hs3 := g3.size; have b3 : Below B w w3 := Below.trans (Below.trans (Below.mono g01 hBs) (Below.mono (show Grows w1 w2 by exact bel1 g2) (by omega))) (below_app (wk1.grows (w' := w2) (by exact bel1 g2)).oa (by omega) g3); have HM3 := Lib.hid hm3; clear hm3 g3) ; (try (go_wp2_with fail)); refine hK.out _ _ (by ((try dsimp only); (first | exact wk_keep wk4.bx ob4 (by exact bel0) | exact wk_keep wk3.bx ob3 (by exact bel0) | exact wk_keep wk1.bx ob (by exact bel1 g2) | exact wk_keep wk1.bx ob (by exact bel0)))) (fun hHeld => ?_); clear hK K; (try simp only [Act.put, List.setIfInBounds_toArray, List.set_cons_zero, List.set_cons_succ]); refine heldL_take (i := 21) (v := _) (by rfl) (by kernel_rfl) (by kernel_rfl) (by kernel_rfl) (fun _ _ _ h => h) (Or.inl ⟨by rfl, fun wS hSw => by ((try dsimp only at hSw); go_simp; (try with_reducible rfl))⟩) (by assumption) ?_; simp only [Act.put, List.setIfInBounds_toArray, List.set_cons_zero, List.set_cons_succ]; refine heldL_take (i := 22) (v := _) (by rfl) (by kernel_rfl) (by kernel_rfl) (by kernel_rfl) (fun _ _ _ h => h) (Or.inl ⟨by rfl, fun wS hSw => by ((try dsimp only at hSw); go_simp; (try with_reducible rfl))⟩) (by assumption) ?_; simp only [Act.put, List.setIfInBounds_toArray, List.set_cons_zero, List.set_cons_succ]; refine heldL_take (i := 23) (v := _) (by rfl) (by kernel_rfl) (by kernel_rfl) (by kernel_rfl) (fun _ _ _ h => h) (Or.inl ⟨by rfl, fun wS hSw => by ((try dsimp only at hSw); go_simp; (try with_reducible rfl))⟩) (by assumption) ?_; simp only [Act.put, List.setIfInBounds_toArray, List.set_cons_zero, List.set_cons_succ]; refine heldL_take (i := 24) (v := _) (by rfl) (by kernel_rfl) (by kernel_rfl) (by kernel_rfl) (fun _ _ _ h => h) (Or.inl ⟨by rfl, fun wS hSw => by ((try dsimp only at hSw); go_simp; (try with_reducible rfl))⟩) (by assumption) ?_; simp only [Act.put, List.setIfInBounds_toArray, List.set_cons_zero, List.set_cons_succ]; refine heldL_take (i := 25) (v := _) (by rfl) (by kernel_rfl) (by kernel_rfl) (by kernel_rfl) (fun _ _ _ h => h) (Or.inl ⟨by rfl, fun wS hSw => by ((try dsimp only at hSw); go_simp; (try with_reducible rfl))⟩) (by assumption) ?_; simp only [Act.put, List.setIfInBounds_toArray, List.set_cons_zero, List.set_cons_succ]; refine heldL_take (i := 26) (v := _) (by rfl) (by kernel_rfl) (by kernel_rfl) (by kernel_rfl) (fun _ _ _ h => h) (Or.inl ⟨by rfl, fun wS hSw => by ((try dsimp only at hSw); go_simp; (try with_reducible rfl))⟩) (by assumption) ?_; simp only [Act.put, List.setIfInBounds_toArray, List.set_cons_zero, List.set_cons_succ]; refine heldL_take (i := 27) (v := _) (by rfl) (by kernel_rfl) (by kernel_rfl) (by kernel_rfl) (fun _ _ _ h => h) (Or.inl ⟨by rfl, fun wS hSw => by ((try dsimp only at hSw); go_simp; (try with_reducible rfl))⟩) (by assumption) ?_; simp only [Act.put, List.setIfInBounds_toArray, List.set_cons_zero, List.set_cons_succ]; refine heldL_take (i := 28) (v := _) (by rfl) (by kernel_rfl) (by kernel_rfl) (by kernel_rfl) (fun _ _ _ h => h) (Or.inl ⟨by rfl, fun wS hSw => by ((try dsimp only at hSw); go_simp; (try with_reducible rfl))⟩) (by assumption) ?_; simp only [Act.put, List.setIfInBounds_toArray, List.set_cons_zero, List.set_cons_succ]; refine heldL_step (i := 29) (by kernel_rfl) (by rfl) (fun K hK => ?_); go_simp; (go_at_call 120; refine (HU'.out _ wk3.ou).mono ?_; rintro e w4 hop; obtain ⟨m4, rfl, o4, hm4, g4⟩ := opRes_out hop; clear hop; have wk4 := wk3.setU o4 g4; have ob4 := ob3.own g4 HBU.out; have hs4 := g4.size; have b4 : Below B w w4 := Below.trans b3 (below_app wk3.ou (by omega) g4); have HM4 := Lib.hid hm4; clear hm4 g4) ; (try (go_wp2_with fail)); refine hK.out _ _ (by ((try dsimp only); (first | exact wk_keep wk4.bx ob4 (by exact bel0) | exact wk_keep wk3.bx ob3 (by exact bel0) | exact wk_keep wk1.bx ob (by exact bel1 g2) | exact wk_keep wk1.bx ob (by exact bel0)))) (fun hHeld => ?_); clear hK K; (try simp only [Act.put, List.setIfInBounds_toArray, List.set_cons_zero, List.set_cons_succ]); refine heldL_take (i := 30) (v := _) (by rfl) (by kernel_rfl) (by kernel_rfl) (by kernel_rfl) (fun _ _ _ h => h) (Or.inl ⟨by rfl, fun wS hSw => by ((try dsimp only at hSw); go_simp; (try with_reducible rfl))⟩) (by assumption) ?_; simp only [Act.put, List.setIfInBounds_toArray, List.set_cons_zero, List.set_cons_succ]; refine heldL_take (i := 31) (v := _) (by rfl) (by kernel_rfl) (by kernel_rfl) (by kernel_rfl) (fun _ _ _ h => h) (Or.inl ⟨by rfl, fun wS hSw => by ((try dsimp only at hSw); go_simp; (try with_reducible rfl))⟩) (by assumption) ?_; simp only [Act.put, List.setIfInBounds_toArray, List.set_cons_zero, List.set_cons_succ]; refine wpAnyH_done (by kernel_rfl) ?_ _; refine NoPanic.normal ?_)
      have wl4 := wk4.bx.lt
      have wf4 := wk4.bx.fz
      have wc4 := wk4.bx.c9
      go_wp2_with fail
      go_end0
      exact ⟨rfl, ⟨_, _, wk4.setBad true, fun y hy => by cases hy⟩, b4.setCell wk4.lo _⟩
    · go_enter Try.func72, Try.ntmps72
      go_wp2_with fail
      rw [← HW1.out]
      (refine wp_region_heldL (fun W => W.cell? ⟨b, 0, none⟩ = some (.int .i64 R) ∧ W.cell? ⟨b, 1, none⟩ = some (.int .i64 C) ∧ W.cell? ⟨b, 2, none⟩ = some (.slice A n ca) ∧ W.cell? ⟨b, 3, none⟩ = some (.int .i64 R) ∧ W.cell? ⟨b, 4, none⟩ = some (.int .i64 R) ∧ W.cell? ⟨b, 5, none⟩ = some (.slice U m cu) ∧ W.cell? ⟨b, 9, none⟩ = some (.bool false) ∧ W.cell? ⟨w.heap.size, 0, none⟩ = some (.int .i64 k) ∧ W.cell? ⟨w.heap.size, 1, none⟩ = some (.int .i64 i) ∧ W.cell? ⟨w.heap.size, 2, none⟩ = some (.int .i64 j) ∧ W.cell? ⟨w.heap.size, 3, none⟩ = some (.int .i64 t)) (by kernel_rfl) (by ((try dsimp only); (first | exact wk_keep wk4.bx ob4 (by exact bel0) | exact wk_keep wk3.bx ob3 (by exact bel0) | exact wk_keep wk1.bx ob (by exact bel1 g2) | exact wk_keep wk1.bx ob (by exact bel0)))) (fun hHeld => ?_); refine heldL_take (i := 0) (v := _) (by rfl) (by kernel_rfl) (by kernel_rfl) (by kernel_rfl) (fun _ _ _ h => h) (Or.inl ⟨by rfl, fun wS hSw => by ((try dsimp only at hSw); go_simp; (try with_reducible rfl))⟩) (by assumption) ?_; simp only [Act.put, List.setIfInBounds_toArray, List.set_cons_zero, List.set_cons_succ]; refine heldL_take (i := 1) (v := _) (by rfl) (by kernel_rfl) (by kernel_rfl) (by kernel_rfl) (fun _ _ _ h => h) (Or.inl ⟨by rfl, fun wS hSw => by ((try dsimp only at hSw); go_simp; (try with_reducible rfl))⟩) (by assumption) ?_; simp only [Act.put, List.setIfInBounds_toArray, List.set_cons_zero, List.set_cons_succ]; refine heldL_take (i := 2) (v := _) (by rfl) (by kernel_rfl) (by kernel_rfl) (by kernel_rfl) (fun _ _ _ h => h) (Or.inl ⟨by rfl, fun wS hSw => by ((try dsimp only at hSw); go_simp; (try with_reducible rfl))⟩) (by assumption) ?_; simp only [Act.put, List.setIfInBounds_toArray, List.set_cons_zero, List.set_cons_succ]; refine heldL_take (i := 3) (v := _) (by rfl) (by kernel_rfl) (by kernel_rfl) (by kernel_rfl) (fun _ _ _ h => h) (Or.inl ⟨by rfl, fun wS hSw => by ((try dsimp only at hSw); go_simp; (try with_reducible rfl))⟩) (by assumption) ?_; simp only [Act.put, List.setIfInBounds_toArray, List.set_cons_zero, List.set_cons_succ]; refine heldL_take (i := 4) (v := _) (by rfl) (by kernel_rfl) (by kernel_rfl) (by kernel_rfl) (fun _ _ _ h => h) (Or.inl ⟨by rfl, fun wS hSw => by ((try dsimp only at hSw); go_simp; (try with_reducible rfl))⟩) (by assumption) ?_; simp only [Act.put, List.setIfInBounds_toArray, List.set_cons_zero, List.set_cons_succ]; refine heldL_take (i := 5) (v := _) (by rfl) (by kernel_rfl) (by kernel_rfl) (by kernel_rfl) (fun _ _ _ h => h) (Or.inl ⟨by rfl, fun wS hSw => by ((try dsimp only at hSw); go_simp; (try with_reducible rfl))⟩) (by assumption) ?_; simp only [Act.put, List.setIfInBounds_toArray, List.set_cons_zero, List.set_cons_succ]; refine heldL_take (i := 6) (v := _) (by rfl) (by kernel_rfl) (by kernel_rfl) (by kernel_rfl) (fun _ _ _ h => h) (Or.inl ⟨by rfl, fun wS hSw => by ((try dsimp only at hSw); go_simp; (try with_reducible rfl))⟩) (by assumption) ?_; simp only [Act.put, List.setIfInBounds_toArray, List.set_cons_zero, List.set_cons_succ]; refine heldL_take (i := 7) (v := _) (by rfl) (by kernel_rfl) (by kernel_rfl) (by kernel_rfl) (fun _ _ _ h => h) (Or.inl ⟨by rfl, fun wS hSw => by ((try dsimp only at hSw); go_simp; (try with_reducible rfl))⟩) (by assumption) ?_; simp only [Act.put, List.setIfInBounds_toArray, List.set_cons_zero, List.set_cons_succ]; refine heldL_take (i := 8) (v := _) (by rfl) (by kernel_rfl) (by kernel_rfl) (by kernel_rfl) (fun _ _ _ h => h) (Or.inl ⟨by rfl, fun wS hSw => by ((try dsimp only at hSw); go_simp; (try with_reducible rfl))⟩) (by assumption) ?_; simp only [Act.put, List.setIfInBounds_toArray, List.set_cons_zero, List.set_cons_succ]; refine heldL_take (i := 9) (v := _) (by rfl) (by kernel_rfl) (by kernel_rfl) (by kernel_rfl) (fun _ _ _ h => h) (Or.inl ⟨by rfl, fun wS hSw => by ((try dsimp only at hSw); go_simp; (try with_reducible rfl))⟩) (by assumption) ?_; simp only [Act.put, List.setIfInBounds_toArray, List.set_cons_zero, List.set_cons_succ]; refine heldL_take (i := 10) (v := _) (by rfl) (by kernel_rfl) (by kernel_rfl) (by kernel_rfl) (fun _ _ _ h => h) (Or.inl ⟨by rfl, fun wS hSw => by ((try dsimp only at hSw); go_simp; (try with_reducible rfl))⟩) (by assumption) ?_; simp only [Act.put, List.setIfInBounds_toArray, List.set_cons_zero, List.set_cons_succ]; refine heldL_step (i := 11) (by kernel_rfl) (by rfl) (fun K hK => ?_); go_simp; (go_at_call 119; refine (HI'.out _).mono ?_; rintro e w2 ⟨rfl, g2⟩; have hs2 : w1.heap.size ≤ w2.heap.size := (by have := Below.size g2; simpa using this)) ; (try (go_wp2_with fail)); refine hK.out _ _ (by ((try dsimp only); (first | exact wk_keep wk4.bx ob4 (by exact bel0) | exact wk_keep wk3.bx ob3 (by exact bel0) | exact wk_keep wk1.bx ob (by exact bel1 g2) | exact wk_keep wk1.bx ob (by exact bel0)))) (fun hHeld => ?_); clear hK K; (try simp only [Act.put, List.setIfInBounds_toArray, List.set_cons_zero, List.set_cons_succ]); refine heldL_take (i := 12) (v := _) (by rfl) (by kernel_rfl) (by kernel_rfl) (by kernel_rfl) (fun _ _ _ h => h) (Or.inl ⟨by rfl, fun wS hSw => by ((try dsimp only at hSw); go_simp; (try with_reducible rfl))⟩) (by assumption) ?_; simp only [Act.put, List.setIfInBounds_toArray, List.set_cons_zero, List.set_cons_succ]; refine heldL_take (i := 13) (v := _) (by rfl) (by kernel_rfl) (by kernel_rfl) (by kernel_rfl) (fun _ _ _ h => h) (Or.inl ⟨by rfl, fun wS hSw => by ((try dsimp only at hSw); go_simp; (try with_reducible rfl))⟩) (by assumption) ?_; simp only [Act.put, List.setIfInBounds_toArray, List.set_cons_zero, List.set_cons_succ]; refine heldL_take (i := 14) (v := _) (by rfl) (by kernel_rfl) (by kernel_rfl) (by kernel_rfl) (fun _ _ _ h => h) (Or.inl ⟨by rfl, fun wS hSw => by ((try dsimp only at hSw); go_simp; (try with_reducible rfl))⟩) (by assumption) ?_; simp only [Act.put, List.setIfInBounds_toArray, List.set_cons_zero, List.set_cons_succ]; refine heldL_take (i := 15) (v := _) (by rfl) (by kernel_rfl) (by kernel_rfl) (by kernel_rfl) (fun _ _ _ h => h) (Or.inl ⟨by rfl, fun wS hSw => by ((try dsimp only at hSw); go_simp; (try with_reducible rfl))⟩) (by assumption) ?_; simp only [Act.put, List.setIfInBounds_toArray, List.set_cons_zero, List.set_cons_succ]; refine heldL_take (i := 16) (v := _) (by rfl) (by kernel_rfl) (by kernel_rfl) (by kernel_rfl) (fun _ _ _ h => h) (Or.inl ⟨by rfl, fun wS hSw => by ((try dsimp only at hSw); go_simp; (try with_reducible rfl))⟩) (by assumption) ?_; simp only [Act.put, List.setIfInBounds_toArray, List.set_cons_zero, List.set_cons_succ]; refine heldL_take (i := 17) (v := _) (by rfl) (by kernel_rfl) (by kernel_rfl) (by kernel_rfl) (fun _ _ _ h => h) (Or.inl ⟨by rfl, fun wS hSw => by ((try dsimp only at hSw); go_simp; (try with_reducible rfl))⟩) (by assumption) ?_; simp only [Act.put, List.setIfInBounds_toArray, List.set_cons_zero, List.set_cons_succ]; refine heldL_take (i := 18) (v := _) (by rfl) (by kernel_rfl) (by kernel_rfl) (by kernel_rfl) (fun _ _ _ h => h) (Or.inl ⟨by rfl, fun wS hSw => by ((try dsimp only at hSw); go_simp; (try with_reducible rfl))⟩) (by assumption) ?_; simp only [Act.put, List.setIfInBounds_toArray, List.set_cons_zero, List.set_cons_succ]; refine heldL_take (i := 19) (v := _) (by rfl) (by kernel_rfl) (by kernel_rfl) (by kernel_rfl) (fun _ _ _ h => h) (Or.inl ⟨by rfl, fun wS hSw => by ((try dsimp only at hSw); go_simp; (try with_reducible rfl))⟩) (by assumption) ?_; simp only [Act.put, List.setIfInBounds_toArray, List.set_cons_zero, List.set_cons_succ]; refine heldL_step (i := 20) (by kernel_rfl) (by rfl) (fun K hK => ?_); go_simp; (go_at_call 120; refine (HA'.out _ (wk1.grows (by exact bel1 g2)).oa).mono ?_; rintro e w3 hop; obtain ⟨m3, rfl, o3, hm3, g3⟩ := opRes_out hop; clear hop; have wk3 := (wk1.grows (w' := w2) (by exact bel1 g2)).setA o3 g3; have ob3 := (ob.grows (w' := w2) (by exact bel1 g2)).own g3 HBA.out; have hs3 := g3.size; have b3 : Below B w w3 := Below.trans (Below.trans (Below.mono g01 hBs) (Below.mono (show Grows w1 w2 by exact bel1 g2) (by omega))) (below_app (wk1.grows (w' := w2) (by exact bel1 g2)).oa (by omega) g3); have HM3 := Lib.hid hm3; clear hm3 g3) ; (try (go_wp2_with fail)); refine hK.out _ _ (by ((try dsimp only); (first | exact wk_keep wk4.bx ob4 (by exact bel0) | exact wk_keep wk3.bx ob3 (by exact bel0) | exact wk_keep wk1.bx ob (by exact bel1 g2) | exact wk_keep wk1.bx ob (by exact bel0)))) (fun hHeld => ?_); clear hK K; (try simp only [Act.put, List.setIfInBounds_toArray, List.set_cons_zero, List.set_cons_succ]); refine heldL_take (i := 21) (v := _) (by rfl) (by kernel_rfl) (by kernel_rfl) (by kernel_rfl) (fun _ _ _ h => h) (Or.inl ⟨by rfl, fun wS hSw => by ((try dsimp only at hSw); go_simp; (try with_reducible rfl))⟩) (by assumption) ?_; simp only [Act.put, List.setIfInBounds_toArray, List.set_cons_zero, List.set_cons_succ]; refine heldL_take (i := 22) (v := _) (by rfl) (by kernel_rfl) (by kernel_rfl) (by kernel_rfl) (fun _ _ _ h => h) (Or.inl ⟨by rfl, fun wS hSw => by ((try dsimp only at hSw); go_simp; (try with_reducible rfl))⟩) (by assumption) ?_; simp only [Act.put, List.setIfInBounds_toArray, List.set_cons_zero, List.set_cons_succ]; refine heldL_take (i := 23) (v := _) (by rfl) (by kernel_rfl) (by kernel_rfl) (by kernel_rfl) (fun _ _ _ h => h) (Or.inl ⟨by rfl, fun wS hSw => by ((try dsimp only at hSw); go_simp; (try with_reducible rfl))⟩) (by assumption) ?_; simp only [Act.put, List.setIfInBounds_toArray, List.set_cons_zero, List.set_cons_succ]; refine heldL_take (i := 24) (v := _) (by rfl) (by kernel_rfl) (by kernel_rfl) (by kernel_rfl) (fun _ _ _ h => h) (Or.inl ⟨by rfl, fun wS hSw => by ((try dsimp only at hSw); go_simp; (try with_reducible rfl))⟩) (by assumption) ?_; simp only [Act.put, List.setIfInBounds_toArray, List.set_cons_zero, List.set_cons_succ]; refine heldL_take (i := 25) (v := _) (by rfl) (by kernel_rfl) (by kernel_rfl) (by kernel_rfl) (fun _ _ _ h => h) (Or.inl ⟨by rfl, fun wS hSw => by ((try dsimp only at hSw); go_simp; (try with_reducible rfl))⟩) (by assumption) ?_; simp only [Act.put, List.setIfInBounds_toArray, List.set_cons_zero, List.set_cons_succ]; refine heldL_take (i := 26) (v := _) (by rfl) (by kernel_rfl) (by kernel_rfl) (by kernel_rfl) (fun _ _ _ h => h) (Or.inl ⟨by rfl, fun wS hSw => by ((try dsimp only at hSw); go_simp; (try with_reducible rfl))⟩) (by assumption) ?_; simp only [Act.put, List.setIfInBounds_toArray, List.set_cons_zero, List.set_cons_succ]; refine heldL_take (i := 27) (v := _) (by rfl) (by kernel_rfl) (by kernel_rfl) (by kernel_rfl) (fun _ _ _ h => h) (Or.inl ⟨by rfl, fun wS hSw => by ((try dsimp only at hSw); go_simp; (try with_reducible rfl))⟩) (by assumption) ?_; simp only [Act.put, List.setIfInBounds_toArray, List.set_cons_zero, List.set_cons_succ]; refine heldL_take (i := 28) (v := _) (by rfl) (by kernel_rfl) (by kernel_rfl) (by kernel_rfl) (fun _ _ _ h => h) (Or.inl ⟨by rfl, fun wS hSw => by ((try dsimp only at hSw); go_simp; (try with_reducible rfl))⟩) (by assumption) ?_; simp only [Act.put, List.setIfInBounds_toArray, List.set_cons_zero, List.set_cons_succ]; refine heldL_step (i := 29) (by kernel_rfl) (by rfl) (fun K hK => ?_); go_simp; (go_at_call 120; refine (HU'.out _ wk3.ou).mono ?_; rintro e w4 hop; obtain ⟨m4, rfl, o4, hm4, g4⟩ := opRes_out hop; clear hop; have wk4 := wk3.setU o4 g4; have ob4 := ob3.own g4 HBU.out; have hs4 := g4.size; have b4 : Below B w w4 := Below.trans b3 (below_app wk3.ou (by omega) g4); have HM4 := Lib.hid hm4; clear hm4 g4) ; (try (go_wp2_with fail)); refine hK.out _ _ (by ((try dsimp only); (first | exact wk_keep wk4.bx ob4 (by exact bel0) | exact wk_keep wk3.bx ob3 (by exact bel0) | exact wk_keep wk1.bx ob (by exact bel1 g2) | exact wk_keep wk1.bx ob (by exact bel0)))) (fun hHeld => ?_); clear hK K; (try simp only [Act.put, List.setIfInBounds_toArray, List.set_cons_zero, List.set_cons_succ]); refine heldL_take (i := 30) (v := _) (by rfl) (by kernel_rfl) (by kernel_rfl) (by kernel_rfl) (fun _ _ _ h => h) (Or.inl ⟨by rfl, fun wS hSw => by ((try dsimp only at hSw); go_simp; (try with_reducible rfl))⟩) (by assumption) ?_; simp only [Act.put, List.setIfInBounds_toArray, List.set_cons_zero, List.set_cons_succ]; refine heldL_take (i := 31) (v := _) (by rfl) (by kernel_rfl) (by kernel_rfl) (by kernel_rfl) (fun _ _ _ h => h) (Or.inl ⟨by rfl, fun wS hSw => by ((try dsimp only at hSw); go_simp; (try with_reducible rfl))⟩) (by assumption) ?_; simp only [Act.put, List.setIfInBounds_toArray, List.set_cons_zero, List.set_cons_succ]; refine wpAnyH_done (by kernel_rfl) ?_ _; refine NoPanic.normal ?_)
      go_wp2_with fail
      go_end0
      refine ⟨rfl, ?_, b4⟩
      rw [HM3.out (by trivial), HM4.out (by trivial)] at wk4
      exact wk4.toO (s := (a1, u1))
end
end Go.Proofs.Ythajmffhgbenpaa

/- Contracts: the searches in a column of a matrix under work; operations as states. -/
namespace Go.Proofs.Ythajmffhgbenpaa
set_option linter.unusedSimpArgs false
set_option linter.unusedVariables false
open Go.RowKit

section
set_option maxHeartbeats 4000000
theorem leastIn_c (R C n m q B b t j : Nat) (A U V : Option Addr) (ca cu cv : Nat) (a u v : List Int) (bd : Bool) (w : World) (wk : Wk w B b R C n m q A U V ca cu cv a u v bd) (hn : a.length = n) (hl : n = R * C) (hR : R ≤ 24) (hC : C ≤ 24) (ht : t ≤ R) (hj : j < C) (hnum : ∀ i, i < n → isNum (nth a i) = true) :
    Calls Try.prog 68 #[.pointer (some ⟨b, 0, none⟩), .int .i64 t, .int .i64 j] w fun e w' => e = .returned (.int .i64 (encO (least R C t j a))) ∧ Grows w w' := by
  have bx1 := wk.bx
  have ha1 := wk.oa.rd'
  have hRC : R * C ≤ 576 := Nat.mul_le_mul hR hC
  have HB : ∀ i, i < R → i * C ≤ 576 := fun i hi => by have := Nat.mul_le_mul_right C (Nat.le_of_lt hi); omega
  have CC := Lib.hid fun (i : Nat) (hi : i < R) W h => at_c R C A a n ca i j W hn h (castMul i C) (by have := castMulLe (HB i hi); omega) (castPos i C j) (castLt (by rw [hn, hl]; exact idx_lt hi hj)) (by rw [hn, hl]; omega)
  have HNUM := Lib.hid fun i (hi : i < R) => (isNum_iff _).1 (hnum (i * C + j) (by rw [hl]; exact idx_lt hi hj))
  have HP := Lib.hid fun k p h => (leastF_some (C := C) (t := t) (j := j) (a := a) (k := k) (p := p) h)
  clear hn hl HB hnum wk
  go_enter Try.func68, Try.ntmps68
  go_wp2_with fail
  go_loopw [7, 8] (fun q i wr => ∃ (k : Nat), i = .int .i64 k ∧ t ≤ k ∧ k ≤ R ∧ q = .int .i64 (encO (leastF C t j a (k - t))) ∧ Grows w wr) (fun _ i _ => R - (intOf i).toNat)
  case atStart => exact ⟨t, rfl, Nat.le_refl _, ht, by rw [Nat.sub_self]; rfl, by exact bel0⟩
  case round =>
    obtain ⟨k, rfl, hkt, hk, rfl, hg⟩ := hrel
    have bx := bx1.grows hg
    have hd := ha1.grows hg
    obtain ⟨b0, b1, b2, b3, b4, b5, b6, b7, b8, b9⟩ := bx.cells
    by_cases hlt : k < R
    · have hlt' : (k : Int) < (R : Int) := by omega
      have C1 := fun W h => CC.out k hlt W h
      have X1 := Lib.hid fun W => absInt_c (nth a (k * C + j)) W (by have := HNUM.out k hlt; omega)
      rw [castIdx] at C1
      have C1' := Lib.hid C1
      clear C1
      by_cases hx : nth a (k * C + j) = 0
      · have HX := Lib.hid (leastF_zero hkt hx)
        rw [hx] at C1' X1
        rw [show absI 0 = 0 from rfl] at X1
        clear hx
        generalize leastF C t j a (k - t) = bb at *
        go_wp2_with fail
        refine (C1'.out _ (by exact (Rd.grows hd (by exact bel0)))).mono ?_; rintro e w3 ⟨rfl, g3⟩
        go_wp2_with fail
        refine (X1.out _).mono ?_; rintro e w' ⟨rfl, rfl⟩
        go_wp2_with fail
        go_round
        case rel => exact ⟨k + 1, by go_num, by omega, by omega, by rw [HX.out], by exact bel2 g3 hg⟩
        case measure => simp [intOf]; omega
      · have hx' : (absI (nth a (k * C + j)) != 0) = true := by
          rw [bne_iff_ne]; unfold absI; split <;> omega
        obtain ⟨bb, hbb⟩ : ∃ bb, bb = encO (leastF C t j a (k - t)) := ⟨_, rfl⟩
        rw [← hbb]
        cases hb : leastF C t j a (k - t) with
        | none =>
          rw [hb] at hbb
          obtain rfl : bb = -1 := hbb
          have HX := Lib.hid (leastF_first hkt hx hb)
          clear hx hb
          generalize absI (nth a (k * C + j)) = x1 at *
          generalize nth a (k * C + j) = x at *
          go_wp2_with fail
          refine (C1'.out _ (by exact (Rd.grows hd (by exact bel0)))).mono ?_; rintro e w3 ⟨rfl, g3⟩
          go_wp2_with fail
          refine (X1.out _).mono ?_; rintro e w' ⟨rfl, rfl⟩
          go_wp2_with fail
          go_round
          case rel => exact ⟨k + 1, by go_num, by omega, by omega, by rw [HX.out]; rfl, by exact bel2 g3 hg⟩
          case measure => simp [intOf]; omega
        | some p =>
          rw [hb] at hbb
          obtain rfl : bb = (p : Int) := hbb
          obtain ⟨p1, p2, p3, _⟩ := HP.out (k - t) p hb
          have hpR : p < R := by omega
          have hp0 : decide (((p : Nat) : Int) < 0) = false := by rw [decide_eq_false_iff_not]; omega
          have C2 := fun W h => CC.out p hpR W h
          have X2 := Lib.hid fun W => absInt_c (nth a (p * C + j)) W (by have := HNUM.out p hpR; omega)
          rw [castIdx] at C2
          have C2' := Lib.hid C2
          clear C2 p1 p2 p3
          by_cases hc : absI (nth a (k * C + j)) < absI (nth a (p * C + j))
          · have HX := Lib.hid (leastF_less hkt hx hb hc)
            clear hx hb
            generalize absI (nth a (k * C + j)) = x1 at *
            generalize absI (nth a (p * C + j)) = y1 at *
            generalize nth a (k * C + j) = x at *
            generalize nth a (p * C + j) = y at *
            go_wp2_with fail
            refine (C1'.out _ (by exact (Rd.grows hd (by exact bel0)))).mono ?_; rintro e w3 ⟨rfl, g3⟩
            clear b0 b1 b2 b3 b4 b5 b6 b7 b8 b9
            replace bx := bx.grows (w' := w3) (by exact bel1 g3)
            replace hd : Rd w3 A a := hd.grows (by exact bel1 g3)
            obtain ⟨b0, b1, b2, b3, b4, b5, b6, b7, b8, b9⟩ := bx.cells
            go_wp2_with fail
            refine (X1.out _).mono ?_; rintro e w' ⟨rfl, rfl⟩
            go_wp2_with fail
            refine (C2'.out _ (by exact (Rd.grows hd (by exact bel0)))).mono ?_; rintro e w4 ⟨rfl, g4⟩
            go_wp2_with fail
            refine (X2.out _).mono ?_; rintro e w' ⟨rfl, rfl⟩
            go_wp2_with fail
            go_round
            case rel => exact ⟨k + 1, by go_num, by omega, by omega, by rw [HX.out]; rfl, by exact bel3 g4 g3 hg⟩
            case measure => simp [intOf]; omega
          · have HX := Lib.hid (leastF_more hkt hx hb hc)
            clear hx hb
            generalize absI (nth a (k * C + j)) = x1 at *
            generalize absI (nth a (p * C + j)) = y1 at *
            generalize nth a (k * C + j) = x at *
            generalize nth a (p * C + j) = y at *
            go_wp2_with fail
            refine (C1'.out _ (by exact (Rd.grows hd (by exact bel0)))).mono ?_; rintro e w3 ⟨rfl, g3⟩
            clear b0 b1 b2 b3 b4 b5 b6 b7 b8 b9
            replace bx := bx.grows (w' := w3) (by exact bel1 g3)
            replace hd : Rd w3 A a := hd.grows (by exact bel1 g3)
            obtain ⟨b0, b1, b2, b3, b4, b5, b6, b7, b8, b9⟩ := bx.cells
            go_wp2_with fail
            refine (X1.out _).mono ?_; rintro e w' ⟨rfl, rfl⟩
            go_wp2_with fail
            refine (C2'.out _ (by exact (Rd.grows hd (by exact bel0)))).mono ?_; rintro e w4 ⟨rfl, g4⟩
            go_wp2_with fail
            refine (X2.out _).mono ?_; rintro e w' ⟨rfl, rfl⟩
            go_wp2_with fail
            go_round
            case rel => exact ⟨k + 1, by go_num, by omega, by omega, by rw [HX.out]; rfl, by exact bel3 g4 g3 hg⟩
            case measure => simp [intOf]; omega
    · obtain rfl : k = R := by omega
      have HE := Lib.hid (show least k C t j a = leastF C t j a (k - t) from rfl)
      generalize leastF C t j a (k - t) = bb at *
      go_wp2_with fail
      go_ret
      exact ⟨ret_int (by rw [HE.out]), by exact bel1 hg⟩
theorem others_c (R C n m q B b t j p : Nat) (A U V : Option Addr) (ca cu cv : Nat) (a u v : List Int) (bd : Bool) (w : World) (wk : Wk w B b R C n m q A U V ca cu cv a u v bd) (hn : a.length = n) (hl : n = R * C) (hR : R ≤ 24) (hC : C ≤ 24) (ht : t ≤ R) (hj : j < C) :
    Calls Try.prog 69 #[.pointer (some ⟨b, 0, none⟩), .int .i64 t, .int .i64 p, .int .i64 j] w fun e w' => e = .returned (.bool (othB R C t j p a)) ∧ Grows w w' := by
  have bx1 := wk.bx
  have ha1 := wk.oa.rd'
  have hRC : R * C ≤ 576 := Nat.mul_le_mul hR hC
  have HB : ∀ i, i < R → i * C ≤ 576 := fun i hi => by have := Nat.mul_le_mul_right C (Nat.le_of_lt hi); omega
  have CC := Lib.hid fun (i : Nat) (hi : i < R) W h => at_c R C A a n ca i j W hn h (castMul i C) (by have := castMulLe (HB i hi); omega) (castPos i C j) (castLt (by rw [hn, hl]; exact idx_lt hi hj)) (by rw [hn, hl]; omega)
  have HYES := Lib.hid fun h => (othB_iff R C t j p a).2 h
  have HNO := Lib.hid fun h => othB_no (R := R) (C := C) (t := t) (j := j) (p := p) (a := a) h
  generalize othB R C t j p a = res at *
  clear hn hl HB wk
  go_enter Try.func69, Try.ntmps69
  go_wp2_with fail
  go_loopw [9] (fun i wr => ∃ (k : Nat), i = .int .i64 k ∧ t ≤ k ∧ k ≤ R ∧ (∀ i, t ≤ i → i < k → i ≠ p → nth a (i * C + j) = 0) ∧ Grows w wr) (fun i _ => R - (intOf i).toNat)
  case atStart => exact ⟨t, rfl, Nat.le_refl _, ht, fun i h1 h2 => by omega, by exact bel0⟩
  case round =>
    obtain ⟨k, rfl, hkt, hk, hz, hg⟩ := hrel
    have HZ := Lib.hid hz
    clear hz
    have bx := bx1.grows hg
    have hd := ha1.grows hg
    obtain ⟨b0, b1, b2, b3, b4, b5, b6, b7, b8, b9⟩ := bx.cells
    by_cases hlt : k < R
    · have hlt' : (k : Int) < (R : Int) := by omega
      by_cases hp : k = p
      · have hp' : ((k : Int) != (p : Int)) = false := by rw [bne_eq_false_iff_eq]; omega
        have HP := Lib.hid hp
        clear hp
        go_wp2_with fail
        go_round
        case rel => exact ⟨k + 1, by go_num, by omega, by omega, fun i h1 h2 h3 => HZ.out i h1 (by have := HP.out; omega) h3, by exact bel1 hg⟩
        case measure => simp [intOf]; omega
      · have hp' : ((k : Int) != (p : Int)) = true := by rw [bne_iff_ne]; omega
        have C1 := fun W h => CC.out k hlt W h
        rw [castIdx] at C1
        by_cases hx : nth a (k * C + j) = 0
        · have HX := Lib.hid hx
          rw [hx] at C1
          have C1' := Lib.hid C1
          clear hx C1
          go_wp2_with fail
          refine (C1'.out _ (by exact (Rd.grows hd (by exact bel0)))).mono ?_; rintro e w3 ⟨rfl, g3⟩
          go_wp2_with fail
          go_round
          case rel => exact ⟨k + 1, by go_num, by omega, by omega, fun i h1 h2 h3 => by (by_cases e : i = k); (· rw [e]; exact HX.out); (· exact HZ.out i h1 (by omega) h3), by exact bel2 g3 hg⟩
          case measure => simp [intOf]; omega
        · have hx' : (nth a (k * C + j) != 0) = true := by simpa using hx
          have HR := Lib.hid (HYES.out ⟨k, by omega, hlt, hp, hx⟩)
          have C1' := Lib.hid C1
          clear hx C1 hp
          generalize nth a (k * C + j) = x at *
          go_wp2_with fail
          refine (C1'.out _ (by exact (Rd.grows hd (by exact bel0)))).mono ?_; rintro e w3 ⟨rfl, g3⟩
          go_wp2_with fail
          go_ret
          exact ⟨ret_bool (by rw [HR.out]), by exact bel2 g3 hg⟩
    · obtain rfl : k = R := by omega
      have HR := Lib.hid (HNO.out HZ.out)
      go_wp2_with fail
      go_ret
      exact ⟨ret_bool (by rw [HR.out]), by exact bel1 hg⟩
theorem addR_c (R C n m q B b i j : Nat) (t : Int) (A U V : Option Addr) (ca cu cv : Nat) (s : LL) (v : List Int) (w : World) (hn : n = R * C) (hm : m = R * R) (hR : R ≤ 24) (hC : C ≤ 24) (ok : Ok2 R C s) (hi : i < R) (hj : j < R) (hij : i ≠ j) (ht : isNum t = true) (wk : WkO w B b R C n m q A U V ca cu cv (some s) v) :
    Calls Try.prog 72 #[.pointer (some ⟨b, 0, none⟩), .agg #[.int .i64 2, .int .i64 i, .int .i64 j, .int .i64 t]] w fun e w' => e = .returned (.tuple #[]) ∧ WkO w' B b R C n m q A U V ca cu cv (addS R C i j t s) v ∧ Below B w w' := by
  have := rows_c R C n m q B b A U V ca cu cv 2 i j t s.1 s.2 v (addT R C i j t s.1) (addT R R i j t s.2) (allNum (addT R C i j t s.1)) (allNum (addT R R i j t s.2)) w wk.some (fun W => isAdd_c R i j t W hR hi hj hij ht)
    (fun W o => iAddOp_c R C A s.1 n ca i j B t W hn hR hC o ok.n1 hi hj ht) (fun W o => iAddOp_c R R U s.2 m cu i j B t W hm hR hR o ok.n2 hi hj ht)
  exact this
theorem swpR_c (R C n m q B b i j : Nat) (A U V : Option Addr) (ca cu cv : Nat) (s : LL) (v : List Int) (w : World) (hn : n = R * C) (hm : m = R * R) (hR : R ≤ 24) (hC : C ≤ 24) (ok : Ok2 R C s) (hi : i < R) (hj : j < R) (hij : i ≠ j) (wk : WkO w B b R C n m q A U V ca cu cv (some s) v) :
    Calls Try.prog 72 #[.pointer (some ⟨b, 0, none⟩), .agg #[.int .i64 0, .int .i64 i, .int .i64 j, .int .i64 0]] w fun e w' => e = .returned (.tuple #[]) ∧ WkO w' B b R C n m q A U V ca cu cv (some (swpS R C i j s)) v ∧ Below B w w' := by
  have := rows_c R C n m q B b A U V ca cu cv 0 i j 0 s.1 s.2 v (swpT R C i j s.1) (swpT R R i j s.2) true true w wk.some (fun W => isSwp_c R i j W hR hi hj hij)
    (fun W o => iSwpOp_c R C A s.1 n ca i j B W hn hR hC o ok.n1 hi hj hij) (fun W o => iSwpOp_c R R U s.2 m cu i j B W hm hR hR o ok.n2 hi hj hij)
  exact this
theorem negR_c (R C n m q B b i : Nat) (A U V : Option Addr) (ca cu cv : Nat) (s : LL) (v : List Int) (w : World) (hn : n = R * C) (hm : m = R * R) (hR : R ≤ 24) (hC : C ≤ 24) (ok : Ok2 R C s) (hi : i < R) (wk : WkO w B b R C n m q A U V ca cu cv (some s) v) :
    Calls Try.prog 72 #[.pointer (some ⟨b, 0, none⟩), .agg #[.int .i64 1, .int .i64 i, .int .i64 i, .int .i64 0]] w fun e w' => e = .returned (.tuple #[]) ∧ WkO w' B b R C n m q A U V ca cu cv (some (negS R C i s)) v ∧ Below B w w' := by
  have := rows_c R C n m q B b A U V ca cu cv 1 i i 0 s.1 s.2 v (negT R C i s.1) (negT R R i s.2) true true w wk.some (fun W => isNeg_c R i W hR hi)
    (fun W o => iNegOp_c R C A s.1 n ca i B W hn hR hC o ok.n1 hi) (fun W o => iNegOp_c R R U s.2 m cu i B W hm hR hR o ok.n2 hi)
  exact this
theorem addW_c (R C n m q B b i j : Nat) (t : Int) (A U V : Option Addr) (ca cu cv : Nat) (s : LL) (v : List Int) (w : World) (hn : n = R * C) (hm : m = R * R) (hR : R ≤ 24) (hC : C ≤ 24) (ok : Ok2 R C s) (hi : i < R) (hj : j < R) (hij : i ≠ j) (ht : isNum t = true) (wk : WkO w B b R C n m q A U V ca cu cv (some s) v) :
    Calls Try.prog 71 #[.pointer (some ⟨b, 0, none⟩), .int .i64 i, .int .i64 j, .int .i64 t] w fun e w' => e = .returned (.tuple #[]) ∧ WkO w' B b R C n m q A U V ca cu cv (addS R C i j t s) v ∧ Below B w w' := by
  have H := Lib.hid fun W wk => addR_c R C n m q B b i j t A U V ca cu cv s v W hn hm hR hC ok hi hj hij ht wk
  clear hn hm hij ht ok
  generalize addS R C i j t s = s' at *
  go_enter Try.func71, Try.ntmps71
  go_wp2_with fail
  refine (H.out _ wk).mono ?_; rintro e w' ⟨rfl, k2, k3⟩
  go_wp2_with fail
  go_end0
  exact ⟨rfl, k2, k3⟩
end
end Go.Proofs.Ythajmffhgbenpaa

/- Contracts: the unit matrix; a new work. -/
namespace Go.Proofs.Ythajmffhgbenpaa
set_option linter.unusedSimpArgs false
set_option linter.unusedVariables false
open Go.RowKit

section
set_option maxHeartbeats 2000000
theorem iIdent_c (R : Nat) (w : World) (hR : R ≤ 24) :
    Calls Try.prog 116 #[.int .i64 R] w fun e w' => ∃ v, e = .returned (.tuple #[.agg #[.int .i64 R, .int .i64 R, v], .bool true]) ∧ Own w' w.heap.size v (idL R) ∧ Grows w w' := by
  obtain ⟨w1, hw1⟩ : ∃ w1, w1 = w.alloc (.cells #[.int .i64 0, .int .i64 0, .slice none 0 0] 26) := ⟨_, rfl⟩
  have mr : MBox w1 w.heap.size 0 0 (.slice none 0 0) := by rw [hw1]; exact MBox.mk_ _ _ _ _ _
  have g01 : Grows w w1 := by rw [hw1]; exact bel0
  have hs1 : w1.heap.size = w.heap.size + 1 := by rw [hw1]; simp
  have HW1 := Lib.hid hw1
  have HS1 := Lib.hid hs1
  have hRR : R * R ≤ 576 := Nat.mul_le_mul hR hR
  have CN := Lib.hid fun W => newMatrix_c R R W (by omega)
  have hI : ∀ i, i < R → i * R ≤ 576 := fun i hi => by have := Nat.mul_le_mul_right R (Nat.le_of_lt hi); omega
  have HI := Lib.hid hI
  clear hw1 hs1 hI
  go_enter Try.func116, Try.ntmps116
  go_wp2_with fail
  rw [← HW1.out]
  refine (CN.out _).mono ?_; rintro e w2 ⟨g, rfl, ho2, g2⟩
  have hs2 := Below.size g2
  have hlt2 := ho2.lt
  go_wp2_with fail
  go_loopw [5] (fun i wr => ∃ (I : Nat) (m : List Int), i = .int .i64 I ∧ I ≤ R ∧ IdD R I m ∧ Own wr w1.heap.size (.slice (some ⟨g, 0, none⟩) (R * R) (R * R)) m ∧ MBox wr w2.heap.size R R (.slice (some ⟨g, 0, none⟩) (R * R) (R * R)) ∧ Grows w1 wr) (fun i _ => R - (intOf i).toNat)
  case atStart => exact ⟨0, _, rfl, Nat.zero_le _, IdD.zero R, ho2.alloc _, MBox.new_ _ _ _ _ _ rfl, by exact bel1 g2⟩
  case round =>
    clear ho2
    obtain ⟨I, m, rfl, hIR, hd, ho, mb, hg⟩ := hrel
    have HD := Lib.hid hd
    clear hd
    obtain ⟨b0, b1, b2⟩ := mb.cells
    by_cases hlt : I < R
    · have hlt' : (I : Int) < (R : Int) := by omega
      have CS := Lib.hid fun W h => set_c R R g (R * R) (R * R) w1.heap.size m I I 1 W HD.out.1 h (by have := HI.out I hlt; omega) (idx_lt hlt hlt) (by omega)
      go_wp2_with fail
      refine (CS.out _ ho).mono ?_; rintro e w4 ⟨rfl, ho4, gb⟩
      go_wp2_with fail
      go_round
      case rel => exact ⟨I + 1, _, by go_num, by omega, HD.out.set hlt, ho4, mb.only gb (by omega), below_only hg gb (by omega) (Below.size hg)⟩
      case measure => simp [intOf]; omega
    · obtain rfl : I = R := by omega
      have hfin := HD.out.all
      subst hfin
      have mr2 := mr.grows hg
      have hs1 := HS1.out
      (have zr := mr2; obtain ⟨zr0, zr1, zr2⟩ := zr.cells; have zrf := zr.fz; have zrl := zr.lt)
      go_wp2_with fail
      refine bodyPost_ret (v := .tuple #[.agg #[.int .i64 I, .int .i64 I, .slice (some ⟨g, 0, none⟩) (I * I) (I * I)], .bool true]) ?_ rfl ?_
      · simp [results, Try.results116, go_sem, zr0, zr1, zr2, zrf, zrl]
      · exact ⟨_, rfl, by exact ownl ho, by exact bel2 hg g01⟩
theorem mat1_out {m : MX} {w w' : World} {e : Ending} (h : Mat1 m w e w') : ∃ v, e = .returned (.agg #[.int .i64 m.r, .int .i64 m.c, v]) ∧ Own w' w.heap.size v m.l ∧ Grows w w' := h
theorem newWork_c (R C n : Nat) (A : Option Addr) (l : List Int) (cap : Nat) (w : World) (hn : l.length = n) (hR : R ≤ 24) (hC : C ≤ 24) (ha : Rd w A l) (hl : n ≤ 1099511627776) :
    Calls Try.prog 67 #[.agg #[.int .i64 R, .int .i64 C, .slice A n cap]] w fun e w' => ∃ (b : Nat) (A' U V : Option Addr) (ca cu cv : Nat), e = .returned (.pointer (some ⟨b, 0, none⟩)) ∧ Wk w' w.heap.size b R C n (R * R) (C * C) A' U V ca cu cv l (idL R) (idL C) false ∧ Grows w w' := by
  obtain ⟨w1, hw1⟩ : ∃ w1, w1 = w.alloc (.cells #[.int .i64 R, .int .i64 C, .slice A n cap] 26) := ⟨_, rfl⟩
  have mb : MBox w1 w.heap.size R C (.slice A n cap) := by rw [hw1]; exact MBox.mk_ _ _ _ _ _
  have g01 : Grows w w1 := by rw [hw1]; exact bel0
  have ha1 := ha.grows g01
  have HW1 := Lib.hid hw1
  have CI := Lib.hid fun W => iIdent_c R W hR
  have CJ := Lib.hid fun W => iIdent_c C W hC
  have CP := Lib.hid fun W h => copyM_c R C A l n cap W hn h hl
  have HN := Lib.hid hn
  clear hw1 hn
  go_enter Try.func67, Try.ntmps67
  go_wp2_with fail
  rw [← HW1.out]
  refine (CI.out _).mono ?_; rintro e w2 ⟨v2, rfl, o2, g2⟩
  obtain ⟨U, cu, rfl, _, _⟩ := o2.val
  rw [idL_length] at o2 ⊢
  obtain ⟨b0, b1, b2⟩ := (mb.grows g2).cells
  have hml := (mb.grows g2).lt
  have hs2 := Below.size g2
  go_wp2_with fail
  refine (CJ.out _).mono ?_; rintro e w3 ⟨v3, rfl, o3, g3⟩
  obtain ⟨V, cv, rfl, _, _⟩ := o3.val
  rw [idL_length] at o3 ⊢
  clear b0 b1 b2
  go_wp2_with fail
  obtain ⟨w4, hw4⟩ : ∃ w4, w4 = w3.alloc (.cells #[.int .i64 C, .int .i64 C, .slice V (C * C) cv] 26) := ⟨_, rfl⟩
  have m0 : MBox w4 w.heap.size R C (.slice A n cap) := by rw [hw4]; exact ((mb.grows (w' := w3) (by exact bel2 g3 g2)).alloc _)
  have m1 : MBox w4 w2.heap.size R R (.slice U (R * R) cu) := by rw [hw4]; exact ((MBox.mk_ w2 R R (.slice U (R * R) cu) 26).grows (w' := w3) g3).alloc _
  have m2 : MBox w4 w3.heap.size C C (.slice V (C * C) cv) := by rw [hw4]; exact MBox.mk_ _ _ _ _ _
  have oU : Own w4 w1.heap.size (.slice U (R * R) cu) (idL R) := by rw [hw4]; exact (o2.grows (w' := w3) (by exact bel1 g3)).alloc _
  have oV : Own w4 (w2.heap.size + 1) (.slice V (C * C) cv) (idL C) := by rw [hw4]; have := o3.alloc (.cells #[.int .i64 C, .int .i64 C, .slice V (C * C) cv] 26); simpa using this
  have hU : ∀ g, (Value.slice U (R * R) cu).ownBlock = some g → w1.heap.size ≤ g ∧ g < w2.heap.size := fun g h => World.ownsRow.lt o2 g h
  have hV : ∀ g, (Value.slice V (C * C) cv).ownBlock = some g → w2.heap.size < g ∧ g < w3.heap.size := fun g h => by have := World.ownsRow.lt o3 g h; simp at this; omega
  have hs3 : w2.heap.size < w3.heap.size := by have := Below.size g3; simp at this; omega
  have hs4 : w4.heap.size = w3.heap.size + 1 := by rw [hw4]; simp
  have g14 : Grows w1 w4 := by rw [hw4]; exact bel2 g3 g2
  have ha4 := ha1.grows g14
  have HU := Lib.hid hU
  have HV := Lib.hid hV
  have HS4 := Lib.hid hs4
  rw [← hw4]
  clear hw4 o2 o3 hU hV hs4
  (refine wp_region_heldL (fun W => W.cell? ⟨w.heap.size, 0, none⟩ = some (.int .i64 R) ∧ W.cell? ⟨w.heap.size, 1, none⟩ = some (.int .i64 C) ∧ W.cell? ⟨w.heap.size, 2, none⟩ = some (.slice A n cap) ∧ W.cell? ⟨w2.heap.size, 0, none⟩ = some (.int .i64 R) ∧ W.cell? ⟨w2.heap.size, 1, none⟩ = some (.int .i64 R) ∧ W.cell? ⟨w2.heap.size, 2, none⟩ = some (.slice U (R * R) cu) ∧ W.cell? ⟨w3.heap.size, 0, none⟩ = some (.int .i64 C) ∧ W.cell? ⟨w3.heap.size, 1, none⟩ = some (.int .i64 C) ∧ W.cell? ⟨w3.heap.size, 2, none⟩ = some (.slice V (C * C) cv)) (by kernel_rfl) (by ((try dsimp only); (first | exact ⟨(m0.grows (by exact bel1 g5)).c0, (m0.grows (by exact bel1 g5)).c1, (m0.grows (by exact bel1 g5)).c2, (m1.grows (by exact bel1 g5)).c0, (m1.grows (by exact bel1 g5)).c1, (m1.grows (by exact bel1 g5)).c2, (m2.grows (by exact bel1 g5)).c0, (m2.grows (by exact bel1 g5)).c1, (m2.grows (by exact bel1 g5)).c2⟩ | exact ⟨(m0.grows (by exact bel0)).c0, (m0.grows (by exact bel0)).c1, (m0.grows (by exact bel0)).c2, (m1.grows (by exact bel0)).c0, (m1.grows (by exact bel0)).c1, (m1.grows (by exact bel0)).c2, (m2.grows (by exact bel0)).c0, (m2.grows (by exact bel0)).c1, (m2.grows (by exact bel0)).c2⟩))) (fun hHeld => ?_); refine heldL_take (i := 0) (v := _) (by rfl) (by kernel_rfl) (by kernel_rfl) (by kernel_rfl) (fun _ _ _ h => h) (Or.inl ⟨by rfl, fun wS hSw => by ((try dsimp only at hSw); go_simp; (try with_reducible rfl))⟩) (by assumption) ?_; simp only [Act.put, List.setIfInBounds_toArray, List.set_cons_zero, List.set_cons_succ]; refine heldL_take (i := 2) (v := _) (by rfl) (by kernel_rfl) (by kernel_rfl) (by kernel_rfl) (fun _ _ _ h => h) (Or.inl ⟨by rfl, fun wS hSw => by ((try dsimp only at hSw); go_simp; (try with_reducible rfl))⟩) (by assumption) ?_; simp only [Act.put, List.setIfInBounds_toArray, List.set_cons_zero, List.set_cons_succ]; refine heldL_take (i := 3) (v := _) (by rfl) (by kernel_rfl) (by kernel_rfl) (by kernel_rfl) (fun _ _ _ h => h) (Or.inl ⟨by rfl, fun wS hSw => by ((try dsimp only at hSw); go_simp; (try with_reducible rfl))⟩) (by assumption) ?_; simp only [Act.put, List.setIfInBounds_toArray, List.set_cons_zero, List.set_cons_succ]; refine heldL_step (i := 1) (by kernel_rfl) (by rfl) (fun K hK => ?_); go_simp; (go_at_call 117; refine (CP.out _ (by exact (Rd.grows ha4 (by exact bel0)))).mono ?_; rintro e w5 hop; obtain ⟨v5, rfl, o5, g5⟩ := mat1_out hop; clear hop; obtain ⟨A5, c5, rfl, _, _⟩ := o5.val) ; (try (go_wp2_with fail)); refine hK.out _ _ (by ((try dsimp only); (first | exact ⟨(m0.grows (by exact bel1 g5)).c0, (m0.grows (by exact bel1 g5)).c1, (m0.grows (by exact bel1 g5)).c2, (m1.grows (by exact bel1 g5)).c0, (m1.grows (by exact bel1 g5)).c1, (m1.grows (by exact bel1 g5)).c2, (m2.grows (by exact bel1 g5)).c0, (m2.grows (by exact bel1 g5)).c1, (m2.grows (by exact bel1 g5)).c2⟩ | exact ⟨(m0.grows (by exact bel0)).c0, (m0.grows (by exact bel0)).c1, (m0.grows (by exact bel0)).c2, (m1.grows (by exact bel0)).c0, (m1.grows (by exact bel0)).c1, (m1.grows (by exact bel0)).c2, (m2.grows (by exact bel0)).c0, (m2.grows (by exact bel0)).c1, (m2.grows (by exact bel0)).c2⟩))) (fun hHeld => ?_); clear hK K; (try simp only [Act.put, List.setIfInBounds_toArray, List.set_cons_zero, List.set_cons_succ]); refine heldL_take (i := 4) (v := _) (by rfl) (by kernel_rfl) (by kernel_rfl) (by kernel_rfl) (fun _ _ _ h => h) (Or.inl ⟨by rfl, fun wS hSw => by ((try dsimp only at hSw); go_simp; (try with_reducible rfl))⟩) (by assumption) ?_; simp only [Act.put, List.setIfInBounds_toArray, List.set_cons_zero, List.set_cons_succ]; refine heldL_step (i := 5) (by kernel_rfl) (by rfl) (fun K hK => ?_); go_simp; refine hK.out _ _ (by ((try dsimp only); (first | exact ⟨(m0.grows (by exact bel1 g5)).c0, (m0.grows (by exact bel1 g5)).c1, (m0.grows (by exact bel1 g5)).c2, (m1.grows (by exact bel1 g5)).c0, (m1.grows (by exact bel1 g5)).c1, (m1.grows (by exact bel1 g5)).c2, (m2.grows (by exact bel1 g5)).c0, (m2.grows (by exact bel1 g5)).c1, (m2.grows (by exact bel1 g5)).c2⟩ | exact ⟨(m0.grows (by exact bel0)).c0, (m0.grows (by exact bel0)).c1, (m0.grows (by exact bel0)).c2, (m1.grows (by exact bel0)).c0, (m1.grows (by exact bel0)).c1, (m1.grows (by exact bel0)).c2, (m2.grows (by exact bel0)).c0, (m2.grows (by exact bel0)).c1, (m2.grows (by exact bel0)).c2⟩))) (fun hHeld => ?_); clear hK K; (try simp only [Act.put, List.setIfInBounds_toArray, List.set_cons_zero, List.set_cons_succ]); refine heldL_take (i := 6) (v := _) (by rfl) (by kernel_rfl) (by kernel_rfl) (by kernel_rfl) (fun _ _ _ h => h) (Or.inl ⟨by rfl, fun wS hSw => by ((try dsimp only at hSw); go_simp; (try with_reducible rfl))⟩) (by assumption) ?_; simp only [Act.put, List.setIfInBounds_toArray, List.set_cons_zero, List.set_cons_succ]; refine wpAnyH_done (by kernel_rfl) ?_ _; refine NoPanic.normal ?_)
  go_wp2_with fail
  go_ret
  have hs5 := Below.size g5
  have hlA : ∀ g, (Value.slice A5 l.length c5).ownBlock = some g → w4.heap.size ≤ g ∧ g < w5.heap.size := fun g h => by have := World.ownsRow.lt o5 g h; simpa using this
  have hs4 := HS4.out
  simp at hs5
  have hN := HN.out
  simp only [hN] at *
  have hs0 := Below.size g01
  have hU := HU.out
  have hV := HV.out
  have gg : Grows w4 w5 := by exact bel1 g5
  refine ⟨_, _, _, _, _, _, _, rfl, ⟨WBox.new_ _ _ _ _ _ _ _ _ rfl, (o5.alloc _).less (by simp; omega), ((oU.grows gg).alloc _).less (by omega), ((oV.grows gg).alloc _).less (by omega), fun g h => ?_, fun g h => ?_, fun g h => ?_, fun g h h2 => ?_, fun g h h2 => ?_, fun g h h2 => ?_, by omega⟩, by exact bel3 gg g14 g01⟩
  · have := hlA g h; omega
  · have := hU g h; omega
  · have := hV g h; omega
  · have := hlA g h; have := hU g h2; omega
  · have := hlA g h; have := hV g h2; omega
  · have := hU g h; have := hV g h2; omega
end
end Go.Proofs.Ythajmffhgbenpaa
