/- Contracts and lemmas, put together. -/
import Derived.Test.YtbfkpfdkndnhkaaGreatPkB
import Derived.Test.YtbfkpfdkndnhkaaGreatPkFF
/- Contracts: the unit matrix of the reference. -/
namespace Go.Proofs.YtbfkpfdkndnhkaaGreat
set_option linter.unusedSimpArgs false
set_option linter.unusedVariables false
open Go.RowKit

/-- the ones before row I are set -/
def IdD (R I : Nat) (m : List Int) : Prop := m.length = R * R ∧ ∀ a b, a < R → b < R → nth m (a * R + b) = if a = b ∧ a < I then 1 else 0
theorem IdD.zero (R : Nat) : IdD R 0 (List.replicate (R * R) 0) := ⟨by simp, fun a b _ _ => by rw [nth_replicate, if_neg (by omega)]⟩
theorem IdD.set {R I : Nat} {m : List Int} (h : IdD R I m) (hI : I < R) : IdD R (I + 1) (m.set (I * R + I) 1) := by
  refine ⟨by rw [List.length_set]; exact h.1, fun a b ha hb => ?_⟩
  rw [nth_set _ _ _ _ (by rw [h.1]; exact idx_lt hI hI)]
  by_cases e : a * R + b = I * R + I
  · obtain ⟨rfl, rfl⟩ := idx_inj hb hI e
    rw [if_pos rfl, if_pos ⟨rfl, by omega⟩]
  · rw [if_neg e, h.2 a b ha hb]
    by_cases e1 : a = b
    · subst e1
      by_cases e2 : a < I
      · rw [if_pos ⟨rfl, e2⟩, if_pos ⟨rfl, by omega⟩]
      · rw [if_neg (fun q => e2 q.2), if_neg (fun q => by
          have : a = I := by have := q.2; omega
          exact e (by rw [this]))]
    · rw [if_neg (fun q => e1 q.1), if_neg (fun q => e1 q.1)]
theorem IdD.all {R : Nat} {m : List Int} (h : IdD R R m) : m = idL R := tab_ext h.1 fun a b ha hb => by
  rw [h.2 a b ha hb]
  by_cases e : a = b
  · rw [if_pos ⟨e, ha⟩, if_pos e]
  · rw [if_neg (fun q => e q.1), if_neg e]

section
set_option maxHeartbeats 2000000
theorem sIdent_c (R : Nat) (w : World) (hR : R ≤ 24) :
    Calls Tryz.prog 113 #[.int .i64 R] w fun e w' => ∃ v, e = .returned (.tuple #[.agg #[.int .i64 R, .int .i64 R, v], .bool true]) ∧ Own w' w.heap.size v (idL R) ∧ Grows w w' := by
  obtain ⟨w1, hw1⟩ : ∃ w1, w1 = w.alloc (.cells #[.int .i64 0, .int .i64 0, .slice none 0 0] 26) := ⟨_, rfl⟩
  have mr : MBox w1 w.heap.size 0 0 (.slice none 0 0) := by rw [hw1]; exact MBox.mk_ _ _ _ _ _
  have g01 : Grows w w1 := by rw [hw1]; exact bel0
  have hs1 : w1.heap.size = w.heap.size + 1 := by rw [hw1]; simp
  have HW1 := Lib.hid hw1
  have HS1 := Lib.hid hs1
  have hRR : R * R ≤ 576 := Nat.mul_le_mul hR hR
  have CL := fun W => l1In_c (R : Int) 0 24 W
  rw [show inB (R : Int) 0 24 = true from (inB_iff _ _ _).2 (by omega)] at CL
  have CL' := Lib.hid CL
  have CN := Lib.hid fun W => l3New_c R R W (by omega)
  have hI : ∀ i, i < R → i * R ≤ 576 := fun i hi => by have := Nat.mul_le_mul_right R (Nat.le_of_lt hi); omega
  have HI := Lib.hid hI
  clear hw1 hs1 hI CL
  go_enter Tryz.func113, Tryz.ntmps113
  go_wp2_with fail
  rw [← HW1.out]
  refine (CL'.out _).mono ?_; rintro e w' ⟨rfl, rfl⟩
  go_wp2_with fail
  refine (CN.out _).mono ?_; rintro e w2 ⟨g, rfl, ho2, g2⟩
  have hs2 := Below.size g2
  have hlt2 := ho2.lt
  go_wp2_with fail
  go_loopw [5] (fun i wr => ∃ (I : Nat) (m : List Int), i = .int .i64 I ∧ I ≤ R ∧ IdD R I m ∧ Own wr w1.heap.size (.slice (some ⟨g, 0, none⟩) (R * R) (R * R)) m ∧ MBox wr w2.heap.size R R (.slice (some ⟨g, 0, none⟩) (R * R) (R * R)) ∧ Grows w1 wr) (fun i _ => R - (intOf i).toNat)
  case atStart => exact ⟨0, _, rfl, Nat.zero_le _, IdD.zero R, ho2.alloc _, MBox.new_ _ _ _ _ _ rfl, by exact bel1 g2⟩
  case round =>
    clear ho2
    obtain ⟨I, m, rfl, hIR, hd, ho, mb, hg⟩ := hrel
    have HD := Lib.hid hd
    clear hd
    obtain ⟨b0, b1, b2⟩ := mb.cells
    by_cases hlt : I < R
    · have hlt' : (I : Int) < (R : Int) := by omega
      have e1 := castMul I R
      have e2 := castMulLe (HI.out I hlt)
      have e3 := castPos I R I
      have e4 := castLt (n := R * R) (idx_lt hlt hlt)
      have e5 := castIdx I R I
      have c1 := ho.cell (I * R + I) (by rw [HD.out.1]; exact idx_lt hlt hlt)
      have cf := ho.free (I * R + I)
      have HNX := Lib.hid (HD.out.set hlt)
      generalize nth m (I * R + I) = x at *
      go_wp2_with fail
      go_round
      case rel =>
        have gb := only_setCell (p := ⟨g, I * R + I, none⟩) (World.grownBy.refl wr (some g)) rfl (.int .i64 1)
        exact ⟨I + 1, _, by go_num, by omega, HNX.out, ho.put HD.out.1 _ _, mb.only gb (by omega), below_only hg gb (by omega) (Below.size hg)⟩
      case measure => simp [intOf]; omega
    · obtain rfl : I = R := by omega
      have hfin := HD.out.all
      subst hfin
      have mr2 := mr.grows hg
      have hs1 := HS1.out
      (have zr := mr2; obtain ⟨zr0, zr1, zr2⟩ := zr.cells; have zrf := zr.fz; have zrl := zr.lt)
      go_wp2_with fail
      refine bodyPost_ret (v := .tuple #[.agg #[.int .i64 I, .int .i64 I, .slice (some ⟨g, 0, none⟩) (I * I) (I * I)], .bool true]) ?_ rfl ?_
      · simp [results, Tryz.results113, go_sem, zr0, zr1, zr2, zrf, zrl]
      · exact ⟨_, rfl, by exact ownl ho, by exact bel2 hg g01⟩
end
end Go.Proofs.YtbfkpfdkndnhkaaGreat

/- Contracts: a matrix under work, with those of the operations. -/
namespace Go.Proofs.YtbfkpfdkndnhkaaGreat
set_option linter.unusedSimpArgs false
set_option linter.unusedVariables false
open Go.RowKit

/-- a variable of type work: block b -/
structure WBox (w : World) (b : Nat) (R C : Int) (A U V : Value) (bd : Bool) : Prop where
  lt : b < w.heap.size
  c0 : w.cell? ⟨b, 0, none⟩ = some (.int .i64 R)
  c1 : w.cell? ⟨b, 1, none⟩ = some (.int .i64 C)
  c2 : w.cell? ⟨b, 2, none⟩ = some A
  c3 : w.cell? ⟨b, 3, none⟩ = some (.int .i64 R)
  c4 : w.cell? ⟨b, 4, none⟩ = some (.int .i64 R)
  c5 : w.cell? ⟨b, 5, none⟩ = some U
  c6 : w.cell? ⟨b, 6, none⟩ = some (.int .i64 C)
  c7 : w.cell? ⟨b, 7, none⟩ = some (.int .i64 C)
  c8 : w.cell? ⟨b, 8, none⟩ = some V
  c9 : w.cell? ⟨b, 9, none⟩ = some (.bool bd)
  fz : ∀ o, w.frozen? ⟨b, o, none⟩ = false
section
variable {w w' : World} {b : Nat} {R C : Int} {A U V : Value} {bd : Bool}
theorem WBox.cells (h : WBox w b R C A U V bd) : w.cell? ⟨b, 0, none⟩ = some (.int .i64 R) ∧ w.cell? ⟨b, 1, none⟩ = some (.int .i64 C) ∧ w.cell? ⟨b, 2, none⟩ = some A ∧ w.cell? ⟨b, 3, none⟩ = some (.int .i64 R) ∧ w.cell? ⟨b, 4, none⟩ = some (.int .i64 R) ∧ w.cell? ⟨b, 5, none⟩ = some U ∧ w.cell? ⟨b, 6, none⟩ = some (.int .i64 C) ∧ w.cell? ⟨b, 7, none⟩ = some (.int .i64 C) ∧ w.cell? ⟨b, 8, none⟩ = some V ∧ w.cell? ⟨b, 9, none⟩ = some (.bool bd) :=
  ⟨h.c0, h.c1, h.c2, h.c3, h.c4, h.c5, h.c6, h.c7, h.c8, h.c9⟩
theorem WBox.of_block (h : WBox w b R C A U V bd) (hk : w'.heap[b]? = w.heap[b]?) (hs : w.heap.size ≤ w'.heap.size) : WBox w' b R C A U V bd :=
  ⟨Nat.lt_of_lt_of_le h.lt hs, (World.cell?_of_block hk).trans h.c0, (World.cell?_of_block hk).trans h.c1, (World.cell?_of_block hk).trans h.c2, (World.cell?_of_block hk).trans h.c3, (World.cell?_of_block hk).trans h.c4, (World.cell?_of_block hk).trans h.c5, (World.cell?_of_block hk).trans h.c6, (World.cell?_of_block hk).trans h.c7, (World.cell?_of_block hk).trans h.c8, (World.cell?_of_block hk).trans h.c9, fun o => (World.frozen?_of_block hk).trans (h.fz o)⟩
theorem WBox.grows (h : WBox w b R C A U V bd) (g : Grows w w') : WBox w' b R C A U V bd := h.of_block (g.block b h.lt) g.size
theorem WBox.own {v : Value} (h : WBox w b R C A U V bd) (hg : w.grownBy w' v.ownBlock) (hne : ∀ g, v.ownBlock = some g → g ≠ b) : WBox w' b R C A U V bd :=
  h.of_block (hg.block b h.lt (fun e => hne b e.symm rfl)) hg.size
theorem WBox.ext (h : WBox w b R C A U V bd) :
    (∀ W, (Proofs.YtbfkpfdkndnhkaaGreat.ext w W).cell? ⟨b, 0, none⟩ = some (.int .i64 R)) ∧ (∀ W, (Proofs.YtbfkpfdkndnhkaaGreat.ext w W).cell? ⟨b, 1, none⟩ = some (.int .i64 C)) ∧ (∀ W, (Proofs.YtbfkpfdkndnhkaaGreat.ext w W).cell? ⟨b, 2, none⟩ = some A) ∧ (∀ W, (Proofs.YtbfkpfdkndnhkaaGreat.ext w W).cell? ⟨b, 9, none⟩ = some (.bool bd)) :=
  ⟨ext_is h.c0, ext_is h.c1, ext_is h.c2, ext_is h.c9⟩
theorem WBox.bad (h : WBox w b R C A U V bd) (x : Bool) : WBox (w.setCell ⟨b, 9, none⟩ (.bool x)) b R C A U V x := by
  obtain ⟨h0, h1, h2, h3, h4, h5, h6, h7, h8, h9⟩ := h.cells
  have hl := h.lt
  have hf := h.fz
  exact ⟨by simp; exact hl, by simp [go_sem, h0], by simp [go_sem, h1], by simp [go_sem, h2], by simp [go_sem, h3], by simp [go_sem, h4], by simp [go_sem, h5], by simp [go_sem, h6], by simp [go_sem, h7], by simp [go_sem, h8], by simp [go_sem, h9], fun o => by simp [go_sem, hf]⟩
theorem WBox.new_ (w : World) (R C : Int) (A U V : Value) (bd : Bool) (t : TypeId) {b : Nat} (hb : w.heap.size = b) : WBox (w.alloc (.cells #[.int .i64 R, .int .i64 C, A, .int .i64 R, .int .i64 R, U, .int .i64 C, .int .i64 C, V, .bool bd] t)) b R C A U V bd := by
  subst hb
  exact ⟨by simp, by simp [go_sem], by simp [go_sem], by simp [go_sem], by simp [go_sem], by simp [go_sem], by simp [go_sem], by simp [go_sem], by simp [go_sem], by simp [go_sem], by simp [go_sem], fun o => by simp [go_sem]⟩
end
/-- the whole: the variable in block b, its three rows, all apart, from block B on -/
structure Wk (w : World) (B b : Nat) (R C n m q : Nat) (A U V : Option Addr) (ca cu cv : Nat) (a u v : List Int) (bd : Bool) : Prop where
  bx : WBox w b R C (.slice A n ca) (.slice U m cu) (.slice V q cv) bd
  oa : Own w B (.slice A n ca) a
  ou : Own w B (.slice U m cu) u
  ov : Own w B (.slice V q cv) v
  ab : ∀ g, (Value.slice A n ca).ownBlock = some g → g ≠ b
  ub : ∀ g, (Value.slice U m cu).ownBlock = some g → g ≠ b
  vb : ∀ g, (Value.slice V q cv).ownBlock = some g → g ≠ b
  au : ∀ g, (Value.slice A n ca).ownBlock = some g → (Value.slice U m cu).ownBlock ≠ some g
  av : ∀ g, (Value.slice A n ca).ownBlock = some g → (Value.slice V q cv).ownBlock ≠ some g
  uv : ∀ g, (Value.slice U m cu).ownBlock = some g → (Value.slice V q cv).ownBlock ≠ some g
  lo : B ≤ b
section
variable {w w' : World} {B b R C n m q : Nat} {A U V : Option Addr} {ca cu cv : Nat} {a u v a' u' : List Int} {bd : Bool}
theorem Wk.grows (h : Wk w B b R C n m q A U V ca cu cv a u v bd) (g : Grows w w') : Wk w' B b R C n m q A U V ca cu cv a u v bd :=
  ⟨h.bx.grows g, h.oa.grows g, h.ou.grows g, h.ov.grows g, h.ab, h.ub, h.vb, h.au, h.av, h.uv, h.lo⟩
theorem Wk.setA (h : Wk w B b R C n m q A U V ca cu cv a u v bd) (o : Own w' B (.slice A n ca) a') (g : w.grownBy w' (Value.slice A n ca).ownBlock) : Wk w' B b R C n m q A U V ca cu cv a' u v bd :=
  ⟨h.bx.own g h.ab, o, h.ou.other g h.au, h.ov.other g h.av, h.ab, h.ub, h.vb, h.au, h.av, h.uv, h.lo⟩
theorem Wk.setU (h : Wk w B b R C n m q A U V ca cu cv a u v bd) (o : Own w' B (.slice U m cu) u') (g : w.grownBy w' (Value.slice U m cu).ownBlock) : Wk w' B b R C n m q A U V ca cu cv a u' v bd :=
  ⟨h.bx.own g h.ub, h.oa.other g (fun g h1 h2 => h.au g h2 h1), o, h.ov.other g h.uv, h.ab, h.ub, h.vb, h.au, h.av, h.uv, h.lo⟩
theorem Wk.setBad (h : Wk w B b R C n m q A U V ca cu cv a u v bd) (x : Bool) : Wk (w.setCell ⟨b, 9, none⟩ (.bool x)) B b R C n m q A U V ca cu cv a u v x :=
  ⟨h.bx.bad x, h.oa.far (p := ⟨b, 9, none⟩) h.ab _, h.ou.far (p := ⟨b, 9, none⟩) h.ub _, h.ov.far (p := ⟨b, 9, none⟩) h.vb _, h.ab, h.ub, h.vb, h.au, h.av, h.uv, h.lo⟩
theorem Wk.size (h : Wk w B b R C n m q A U V ca cu cv a u v bd) : B ≤ w.heap.size := Nat.le_trans h.lo (Nat.le_of_lt h.bx.lt)
end
/-- the state: a pair of lists, or none: then it is marked as bad -/
def WkO (w : World) (B b R C n m q : Nat) (A U V : Option Addr) (ca cu cv : Nat) (s : Option LL) (v : List Int) : Prop :=
  ∃ a u, Wk w B b R C n m q A U V ca cu cv a u v (!s.isSome) ∧ ∀ y, s = some y → y = (a, u)
theorem WkO.grows {w w' : World} {B b R C n m q : Nat} {A U V : Option Addr} {ca cu cv : Nat} {s : Option LL} {v : List Int} (h : WkO w B b R C n m q A U V ca cu cv s v) (g : Grows w w') : WkO w' B b R C n m q A U V ca cu cv s v := by
  obtain ⟨a, u, h1, h2⟩ := h
  exact ⟨a, u, h1.grows g, h2⟩
theorem WkO.some {w : World} {B b R C n m q : Nat} {A U V : Option Addr} {ca cu cv : Nat} {s : LL} {v : List Int} (h : WkO w B b R C n m q A U V ca cu cv (some s) v) : Wk w B b R C n m q A U V ca cu cv s.1 s.2 v false := by
  obtain ⟨a, u, h1, h2⟩ := h
  obtain rfl := h2 s rfl
  exact h1
theorem Wk.toO {w : World} {B b R C n m q : Nat} {A U V : Option Addr} {ca cu cv : Nat} {s : LL} {v : List Int} (h : Wk w B b R C n m q A U V ca cu cv s.1 s.2 v false) : WkO w B b R C n m q A U V ca cu cv (.some s) v :=
  ⟨s.1, s.2, h, fun y hy => by cases hy; rfl⟩
theorem WkO.none {w : World} {B b R C n m q : Nat} {A U V : Option Addr} {ca cu cv : Nat} {v : List Int} (h : WkO w B b R C n m q A U V ca cu cv none v) : ∃ a u, Wk w B b R C n m q A U V ca cu cv a u v true := by
  obtain ⟨a, u, h1, _⟩ := h
  exact ⟨a, u, h1⟩

section
set_option maxHeartbeats 4000000
set_option maxRecDepth 100000
end
end Go.Proofs.YtbfkpfdkndnhkaaGreat

/- Contracts: the searches in a column of a matrix under work; operations as states. -/
namespace Go.Proofs.YtbfkpfdkndnhkaaGreat
set_option linter.unusedSimpArgs false
set_option linter.unusedVariables false
open Go.RowKit

section
set_option maxHeartbeats 4000000
end
end Go.Proofs.YtbfkpfdkndnhkaaGreat

/- Contracts: the unit matrix; a new work. -/
namespace Go.Proofs.YtbfkpfdkndnhkaaGreat
set_option linter.unusedSimpArgs false
set_option linter.unusedVariables false
open Go.RowKit

section
set_option maxHeartbeats 2000000
end
end Go.Proofs.YtbfkpfdkndnhkaaGreat
