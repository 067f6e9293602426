/- Contracts and lemmas, put together. -/
import Derived.Deep.CutBlock
import Derived.Deep.DeepCutAuto
import Derived.Test.YtpgoefdeodoacaaPkGq
import Derived.Test.YtpgoefdeodoacaaPkW
import Derived.Test.YtpgoefdeodoacaaPkX
/- The reference's Smith form: three rows apart, and the steps of a round at marked lists. -/
namespace Go.Proofs.Ytpgoefdeodoacaa
set_option linter.unusedSimpArgs false
set_option linter.unusedVariables false
open Go.RowKit

/-- what a call has changed: blocks of P at most; what is new -/
structure GrownP (P : Nat → Prop) (w w' : World) : Prop where
  os : w'.os = w.os
  tape : w'.tape = w.tape
  output : w'.output = w.output
  size : w.heap.size ≤ w'.heap.size
  block : ∀ i, i < w.heap.size → ¬ P i → w'.heap[i]? = w.heap[i]?
section
variable {P : Nat → Prop} {w w1 w2 : World}
theorem GrownP.refl (w : World) : GrownP P w w := ⟨rfl, rfl, rfl, Nat.le_refl _, fun _ _ _ => rfl⟩
theorem GrownP.trans (h : GrownP P w w1) (k : GrownP P w1 w2) : GrownP P w w2 := ⟨k.os.trans h.os, k.tape.trans h.tape, k.output.trans h.output, Nat.le_trans h.size k.size, fun i hi h1 => (k.block i (Nat.lt_of_lt_of_le hi h.size) h1).trans (h.block i hi h1)⟩
theorem GrownP.left (h : Grows w w1) (k : GrownP P w1 w2) : GrownP P w w2 := ⟨k.os.trans h.os, k.tape.trans h.tape, k.output.trans h.output, Nat.le_trans h.size k.size, fun i hi h1 => (k.block i (Nat.lt_of_lt_of_le hi h.size) h1).trans (h.block i hi)⟩
theorem GrownP.right (h : GrownP P w w1) (k : Grows w1 w2) : GrownP P w w2 := ⟨k.os.trans h.os, k.tape.trans h.tape, k.output.trans h.output, Nat.le_trans h.size k.size, fun i hi h1 => (k.block i (Nat.lt_of_lt_of_le hi h.size)).trans (h.block i hi h1)⟩
theorem GrownP.of1 {r : Option Nat} (h : w.grownBy w1 r) (hr : ∀ g, r = some g → P g) : GrownP P w w1 := ⟨h.os, h.tape, h.output, h.size, fun i hi h1 => h.block i hi (fun e => h1 (hr i e.symm))⟩
theorem GrownP.of2 {r r2 : Option Nat} (h : Grown2 w w1 r r2) (hr : ∀ g, r = some g → P g) (hr2 : ∀ g, r2 = some g → P g) : GrownP P w w1 := ⟨h.os, h.tape, h.output, h.size, fun i hi h1 => h.block i hi (fun e => h1 (hr i e.symm)) (fun e => h1 (hr2 i e.symm))⟩
theorem GrownP.below {B : Nat} (h : GrownP P w w1) (hB : B ≤ w.heap.size) (h1 : ∀ g, P g → B ≤ g) : Below B w w1 :=
  ⟨h.os, h.tape, h.output, h.size, fun i hi => h.block i (by omega) (fun e => by have := h1 i e; omega)⟩
theorem MBox.farP {b : Nat} {r c : Int} {v : Value} (h : MBox w b r c v) (g : GrownP P w w1) (hb : ¬ P b) : MBox w1 b r c v := by
  have hk := g.block b h.lt hb
  exact ⟨Nat.lt_of_lt_of_le h.lt g.size, (World.cell?_of_block hk).trans h.c0, (World.cell?_of_block hk).trans h.c1, (World.cell?_of_block hk).trans h.c2, fun o => (World.frozen?_of_block hk).trans (h.fz o)⟩
theorem Own.far2 {B : Nat} {v : Value} {l : List Int} {r1 r2 : Option Nat} (h : Own w B v l) (g : Grown2 w w1 r1 r2) (h1 : ∀ g, v.ownBlock = some g → r1 ≠ some g) (h2 : ∀ g, v.ownBlock = some g → r2 ≠ some g) : Own w1 B v l := by
  refine ⟨h.1, ?_⟩
  rcases h.2 with hz | ⟨b, cap, cur, hv, hb, hg, k⟩
  · exact .inl hz
  · have hlt : b < w.heap.size := (Array.getElem?_eq_some_iff.1 hg).1
    have ho : v.ownBlock = some b := by rw [hv]; simp [Value.ownBlock]
    exact .inr ⟨b, cap, cur, hv, hb, (g.block b hlt (fun e => h1 b ho e.symm) (fun e => h2 b ho e.symm)).trans hg, k⟩
end
/-- three rows of the call's own, apart -/
structure Tr (w : World) (B : Nat) (A U V : Option Addr) (n cap m cap2 k cap3 : Nat) (x : L3) : Prop where
  oa : Own w B (.slice A n cap) x.1
  ou : Own w B (.slice U m cap2) x.2.1
  ov : Own w B (.slice V k cap3) x.2.2
  au : ∀ g, (Value.slice A n cap).ownBlock = some g → (Value.slice U m cap2).ownBlock ≠ some g
  av : ∀ g, (Value.slice A n cap).ownBlock = some g → (Value.slice V k cap3).ownBlock ≠ some g
  uv : ∀ g, (Value.slice U m cap2).ownBlock = some g → (Value.slice V k cap3).ownBlock ≠ some g
/-- the blocks of the three -/
def TB (A U V : Option Addr) (n cap m cap2 k cap3 : Nat) (g : Nat) : Prop := (Value.slice A n cap).ownBlock = some g ∨ (Value.slice U m cap2).ownBlock = some g ∨ (Value.slice V k cap3).ownBlock = some g
section
variable {w w' : World} {B : Nat} {A U V : Option Addr} {n cap m cap2 k cap3 : Nat} {x : L3}
theorem Tr.grows (h : Tr w B A U V n cap m cap2 k cap3 x) (g : Grows w w') : Tr w' B A U V n cap m cap2 k cap3 x := ⟨h.oa.grows g, h.ou.grows g, h.ov.grows g, h.au, h.av, h.uv⟩
theorem Tr.pr (h : Tr w B A U V n cap m cap2 k cap3 x) : Pr w B A U n cap m cap2 x.1 x.2.1 := ⟨h.oa, h.ou, h.au⟩
theorem Tr.rows (h : Tr w B A U V n cap m cap2 k cap3 x) {a u : List Int} (p : Pr w' B A U n cap m cap2 a u) (g : Grown2 w w' (Value.slice A n cap).ownBlock (Value.slice U m cap2).ownBlock) : Tr w' B A U V n cap m cap2 k cap3 (a, u, x.2.2) :=
  ⟨p.oa, p.ou, h.ov.far2 g (fun g h1 h2 => h.av g h2 h1) (fun g h1 h2 => h.uv g h2 h1), h.au, h.av, h.uv⟩
theorem Tr.setA (h : Tr w B A U V n cap m cap2 k cap3 x) {a : List Int} (o : Own w' B (.slice A n cap) a) (g : w.grownBy w' (Value.slice A n cap).ownBlock) : Tr w' B A U V n cap m cap2 k cap3 (a, x.2.1, x.2.2) :=
  ⟨o, h.ou.other g h.au, h.ov.other g h.av, h.au, h.av, h.uv⟩
theorem Tr.setV (h : Tr w B A U V n cap m cap2 k cap3 x) {v : List Int} (o : Own w' B (.slice V k cap3) v) (g : w.grownBy w' (Value.slice V k cap3).ownBlock) : Tr w' B A U V n cap m cap2 k cap3 (x.1, x.2.1, v) :=
  ⟨h.oa.other g (fun g h1 h2 => h.av g h2 h1), h.ou.other g (fun g h1 h2 => h.uv g h2 h1), o, h.au, h.av, h.uv⟩
theorem Tr.lo (h : Tr w B A U V n cap m cap2 k cap3 x) : ∀ g, TB A U V n cap m cap2 k cap3 g → B ≤ g ∧ g < w.heap.size := by
  rintro g (hg | hg | hg)
  · exact World.ownsRow.lt h.oa g hg
  · exact World.ownsRow.lt h.ou g hg
  · exact World.ownsRow.lt h.ov g hg
theorem TB.a : ∀ g, (Value.slice A n cap).ownBlock = some g → TB A U V n cap m cap2 k cap3 g := fun _ h => .inl h
theorem TB.u : ∀ g, (Value.slice U m cap2).ownBlock = some g → TB A U V n cap m cap2 k cap3 g := fun _ h => .inr (.inl h)
theorem TB.v : ∀ g, (Value.slice V k cap3).ownBlock = some g → TB A U V n cap m cap2 k cap3 g := fun _ h => .inr (.inr h)
end

/-! ### the steps at marked lists -/
theorem Mk3.pr2 {R C : Nat} {x : L3} (h : Mk3 R C x) : Mks R C (x.1, x.2.1) := ⟨h.l1, h.l2, h.m1, h.m2⟩
theorem Stands3.none_of {R C : Nat} {x : L3} (h : Stands3 R C none x) : fit3 x = none := h.2.symm
/-- a state that is lost stays lost -/
theorem Stands3.lostR {R C i j : Nat} {t : Int} {x : L3} (h : Stands3 R C none x) : Stands3 R C none (addR3 R C i j t x) := h.addR
theorem Stands3.lostC {R C i j : Nat} {t : Int} {x : L3} (h : Stands3 R C none x) : Stands3 R C none (addC3 R C i j t x) := h.addC
theorem smA_skip {R C t K : Nat} {s z : L3} (h : Stands3 R C (smA R C t s K) z) (hz : nth z.1 ((t + 1 + K) * C + t) = 0) : Stands3 R C (smA R C t s (K + 1)) z := by
  rw [smA]
  cases e : smA R C t s K with
  | none => rw [e] at h; exact h
  | some s' =>
    rw [e] at h
    obtain ⟨rfl, ok⟩ := h.some_eq
    simp only [Option.bind_some]
    rw [if_pos hz]; exact h
theorem smA_step {R C t K : Nat} {s z : L3} (hs : Ok3 R C s) (htR : t < R) (htC : t < C) (hk : t + 1 + K < R) (hne : nth s.1 (t * C + t) ≠ 0) (h : Stands3 R C (smA R C t s K) z) (hz : nth z.1 ((t + 1 + K) * C + t) ≠ 0) :
    Stands3 R C (smA R C t s (K + 1)) (addR3 R C (t + 1 + K) t (-(flQ (nth z.1 ((t + 1 + K) * C + t)) (nth s.1 (t * C + t)))) z) := by
  rw [smA]
  cases e : smA R C t s K with
  | none => rw [e] at h; exact h.lostR
  | some s' =>
    rw [e] at h
    obtain ⟨rfl, ok⟩ := h.some_eq
    simp only [Option.bind_some]
    rw [if_neg hz]
    have E := smA_AI hs htR htC (by omega) e
    have ep := E.same t t htR htC (.inl (Nat.le_refl _))
    have hn := (allNum_iff _).1 ok.n1
    have hn0 := (allNum_iff _).1 hs.n1
    rw [flQ_yes (hn _ (by rw [ok.l1]; exact idx_lt hk htC)) (hn0 _ (by rw [hs.l1]; exact idx_lt htR htC)) hne, ep]
    exact ok.stands.addR
theorem smB_skip {R C t K : Nat} {s z : L3} (h : Stands3 R C (smB R C t s K) z) (hz : nth z.1 (t * C + (t + 1 + K)) = 0) : Stands3 R C (smB R C t s (K + 1)) z := by
  rw [smB]
  cases e : smB R C t s K with
  | none => rw [e] at h; exact h
  | some s' =>
    rw [e] at h
    obtain ⟨rfl, ok⟩ := h.some_eq
    simp only [Option.bind_some]
    rw [if_pos hz]; exact h
theorem smB_bad {R C t K : Nat} {s z : L3} (htR : t < R) (hk : t + 1 + K < C) (h : Stands3 R C (smB R C t s K) z) (hz : nth z.1 (t * C + (t + 1 + K)) = bad) : Stands3 R C (smB R C t s (K + 1)) z := by
  rw [smB]
  cases e : smB R C t s K with
  | none => rw [e] at h; exact h
  | some s' =>
    rw [e] at h
    obtain ⟨rfl, ok⟩ := h.some_eq
    have hn := (allNum_iff _).1 ok.n1 _ (by rw [ok.l1]; exact idx_lt htR hk)
    rw [hz] at hn
    exact absurd hn (by decide)
theorem smB_step {R C t K : Nat} {s z : L3} (hs : Ok3 R C s) (htR : t < R) (htC : t < C) (hk : t + 1 + K < C) (hne : nth s.1 (t * C + t) ≠ 0) (h : Stands3 R C (smB R C t s K) z) (hz : nth z.1 (t * C + (t + 1 + K)) ≠ 0) :
    Stands3 R C (smB R C t s (K + 1)) (addC3 R C (t + 1 + K) t (-(flQ (nth z.1 (t * C + (t + 1 + K))) (nth s.1 (t * C + t)))) z) := by
  rw [smB]
  cases e : smB R C t s K with
  | none => rw [e] at h; exact h.lostC
  | some s' =>
    rw [e] at h
    obtain ⟨rfl, ok⟩ := h.some_eq
    simp only [Option.bind_some]
    rw [if_neg hz]
    have E := smB_BI hs htR htC (by omega) e
    have ep := E.same t t htR htC (.inl (Nat.le_refl _))
    have hn := (allNum_iff _).1 ok.n1
    have hn0 := (allNum_iff _).1 hs.n1
    rw [flQ_yes (hn _ (by rw [ok.l1]; exact idx_lt htR hk)) (hn0 _ (by rw [hs.l1]; exact idx_lt htR htC)) hne, ep]
    exact ok.stands.addC
theorem anyBad_three {R C : Nat} {s : Option L3} {x : L3} (h : Stands3 R C s x) : (anyBad x.1 || (anyBad x.2.1 || anyBad x.2.2)) = !s.isSome := by
  rw [anyBad_mkd h.1.m1, anyBad_mkd h.1.m2, anyBad_mkd h.1.m3, h.2]
  unfold fit3 thr
  cases allNum x.1 <;> cases allNum x.2.1 <;> cases allNum x.2.2 <;> rfl
end Go.Proofs.Ytpgoefdeodoacaa

/- The reference's Smith form: the operations on three rows; how a round ends. -/
namespace Go.Proofs.Ytpgoefdeodoacaa
set_option linter.unusedSimpArgs false
set_option linter.unusedVariables false
open Go.RowKit

section
variable {R C : Nat} {A U V : Option Addr} {n cap m cap2 k cap3 B : Nat} {w : World} {x : L3}
theorem opAdd3_c (hn : n = R * C) (hm : m = R * R) (hR : R ≤ 24) (hC : C ≤ 24) {i j : Nat} {t : Int} (hi : i < R) (hj : j < R) (ht : isNum t = true) (mk : Mk3 R C x) (tr : Tr w B A U V n cap m cap2 k cap3 x) :
    Calls Try.prog 154 #[.agg #[.int .i64 R, .int .i64 C, .slice A n cap], .agg #[.int .i64 R, .int .i64 R, .slice U m cap2], .agg #[.int .i64 2, .int .i64 i, .int .i64 j, .int .i64 t]] w fun e w' => e = .returned (.tuple #[]) ∧ Tr w' B A U V n cap m cap2 k cap3 (addR3 R C i j t x) ∧ GrownP (TB A U V n cap m cap2 k cap3) w w' :=
  (opAdd_c R C A U n cap m cap2 B i j t (x.1, x.2.1) w hn hm hR hC hi hj ht mk.pr2 tr.pr).mono fun e w' h => ⟨h.1, tr.rows h.2.1 h.2.2, GrownP.of2 h.2.2 TB.a TB.u⟩
theorem opSwp3_c (hn : n = R * C) (hm : m = R * R) (hR : R ≤ 24) (hC : C ≤ 24) {i j : Nat} (hi : i < R) (hj : j < R) (hij : i ≠ j) (mk : Mk3 R C x) (tr : Tr w B A U V n cap m cap2 k cap3 x) :
    Calls Try.prog 154 #[.agg #[.int .i64 R, .int .i64 C, .slice A n cap], .agg #[.int .i64 R, .int .i64 R, .slice U m cap2], .agg #[.int .i64 0, .int .i64 i, .int .i64 j, .int .i64 0]] w fun e w' => e = .returned (.tuple #[]) ∧ Tr w' B A U V n cap m cap2 k cap3 (swpR3 R C i j x) ∧ GrownP (TB A U V n cap m cap2 k cap3) w w' :=
  (opSwp_c R C A U n cap m cap2 B i j (x.1, x.2.1) w hn hm hR hC hi hj hij mk.pr2 tr.pr).mono fun e w' h => ⟨h.1, tr.rows h.2.1 h.2.2, GrownP.of2 h.2.2 TB.a TB.u⟩
theorem opNeg3_c (hn : n = R * C) (hm : m = R * R) (hR : R ≤ 24) (hC : C ≤ 24) {i : Nat} (hi : i < R) (mk : Mk3 R C x) (tr : Tr w B A U V n cap m cap2 k cap3 x) :
    Calls Try.prog 154 #[.agg #[.int .i64 R, .int .i64 C, .slice A n cap], .agg #[.int .i64 R, .int .i64 R, .slice U m cap2], .agg #[.int .i64 1, .int .i64 i, .int .i64 i, .int .i64 0]] w fun e w' => e = .returned (.tuple #[]) ∧ Tr w' B A U V n cap m cap2 k cap3 (negR3 R C i x) ∧ GrownP (TB A U V n cap m cap2 k cap3) w w' :=
  (opNeg_c R C A U n cap m cap2 B i (x.1, x.2.1) w hn hm hR hC hi mk.pr2 tr.pr).mono fun e w' h => ⟨h.1, tr.rows h.2.1 h.2.2, GrownP.of2 h.2.2 TB.a TB.u⟩
theorem colAddA_c (hn : n = R * C) (hR : R ≤ 24) (hC : C ≤ 24) {i j : Nat} {t : Int} (hi : i < C) (hj : j < C) (ht : isNum t = true) (hl : x.1.length = n) (hm : mkd x.1) (tr : Tr w B A U V n cap m cap2 k cap3 x) :
    Calls Try.prog 155 #[.agg #[.int .i64 R, .int .i64 C, .slice A n cap], .agg #[.int .i64 2, .int .i64 i, .int .i64 j, .int .i64 t]] w fun e w' => e = .returned (.tuple #[]) ∧ Tr w' B A U V n cap m cap2 k cap3 (addCT R C i j t x.1, x.2.1, x.2.2) ∧ GrownP (TB A U V n cap m cap2 k cap3) w w' :=
  (l13Add_c R C A x.1 n cap i j B t w hl hn hR hC tr.oa hm hi hj ht).mono fun e w' h => ⟨h.1, tr.setA h.2.1 h.2.2, GrownP.of1 h.2.2 TB.a⟩
theorem colAddV_c (hk : k = C * C) (hC : C ≤ 24) {i j : Nat} {t : Int} (hi : i < C) (hj : j < C) (ht : isNum t = true) (hl : x.2.2.length = k) (hm : mkd x.2.2) (tr : Tr w B A U V n cap m cap2 k cap3 x) :
    Calls Try.prog 155 #[.agg #[.int .i64 C, .int .i64 C, .slice V k cap3], .agg #[.int .i64 2, .int .i64 i, .int .i64 j, .int .i64 t]] w fun e w' => e = .returned (.tuple #[]) ∧ Tr w' B A U V n cap m cap2 k cap3 (x.1, x.2.1, addCT C C i j t x.2.2) ∧ GrownP (TB A U V n cap m cap2 k cap3) w w' :=
  (l13Add_c C C V x.2.2 k cap3 i j B t w hl hk hC hC tr.ov hm hi hj ht).mono fun e w' h => ⟨h.1, tr.setV h.2.1 h.2.2, GrownP.of1 h.2.2 TB.v⟩
theorem colSwpA_c (hn : n = R * C) (hR : R ≤ 24) (hC : C ≤ 24) {i j : Nat} (hi : i < C) (hj : j < C) (hij : i ≠ j) (hl : x.1.length = n) (tr : Tr w B A U V n cap m cap2 k cap3 x) :
    Calls Try.prog 155 #[.agg #[.int .i64 R, .int .i64 C, .slice A n cap], .agg #[.int .i64 0, .int .i64 i, .int .i64 j, .int .i64 0]] w fun e w' => e = .returned (.tuple #[]) ∧ Tr w' B A U V n cap m cap2 k cap3 (swpCT R C i j x.1, x.2.1, x.2.2) ∧ GrownP (TB A U V n cap m cap2 k cap3) w w' :=
  (l13Swp_c R C A x.1 n cap i j B w hl hn hR hC tr.oa hi hj hij).mono fun e w' h => ⟨h.1, tr.setA h.2.1 h.2.2, GrownP.of1 h.2.2 TB.a⟩
theorem colSwpV_c (hk : k = C * C) (hC : C ≤ 24) {i j : Nat} (hi : i < C) (hj : j < C) (hij : i ≠ j) (hl : x.2.2.length = k) (tr : Tr w B A U V n cap m cap2 k cap3 x) :
    Calls Try.prog 155 #[.agg #[.int .i64 C, .int .i64 C, .slice V k cap3], .agg #[.int .i64 0, .int .i64 i, .int .i64 j, .int .i64 0]] w fun e w' => e = .returned (.tuple #[]) ∧ Tr w' B A U V n cap m cap2 k cap3 (x.1, x.2.1, swpCT C C i j x.2.2) ∧ GrownP (TB A U V n cap m cap2 k cap3) w w' :=
  (l13Swp_c C C V x.2.2 k cap3 i j B w hl hk hC hC tr.ov hi hj hij).mono fun e w' h => ⟨h.1, tr.setV h.2.1 h.2.2, GrownP.of1 h.2.2 TB.v⟩
end
theorem OBox.farP {w w1 : World} {P : Nat → Prop} {b : Nat} {k i j t : Int} (h : OBox w b k i j t) (g : GrownP P w w1) (hb : ¬ P b) : OBox w1 b k i j t := by
  have hk := g.block b h.lt hb
  exact ⟨Nat.lt_of_lt_of_le h.lt g.size, (World.cell?_of_block hk).trans h.c0, (World.cell?_of_block hk).trans h.c1, (World.cell?_of_block hk).trans h.c2, (World.cell?_of_block hk).trans h.c3⟩

/-! ### how a round ends -/
/-- a round whose pivot is in place -/
def smE (R C t : Nat) (s : L3) : Option (L3 × Bool) := (smA R C t s (R - t - 1)).bind fun x => (smB R C t x (C - t - 1)).bind fun y => smEnd R C t y
/-- the first two loops -/
def smAB (R C t : Nat) (s : L3) (K : Nat) : Option L3 := (smA R C t s (R - t - 1)).bind fun x => smB R C t x K
theorem smE_eq {R C t : Nat} {s : L3} : smE R C t s = (smAB R C t s (C - t - 1)).bind fun y => smEnd R C t y := by
  unfold smE smAB; cases smA R C t s (R - t - 1) <;> rfl
theorem smRound_eq {R C t : Nat} {s : L3} {q : Pl} (h : lst R C t s.1 = some q) : smRound R C t s = smE R C t (piv R C t q s) := by
  unfold smRound smE; rw [h]
theorem smAB_zero {R C t : Nat} {s z : L3} (h : Stands3 R C (smA R C t s (R - t - 1)) z) : Stands3 R C (smAB R C t s 0) z := by
  unfold smAB; revert h; cases smA R C t s (R - t - 1) <;> exact fun h => h
theorem smAB_skip {R C t K : Nat} {s z : L3} (h : Stands3 R C (smAB R C t s K) z) (hz : nth z.1 (t * C + (t + 1 + K)) = 0) : Stands3 R C (smAB R C t s (K + 1)) z := by
  unfold smAB at *
  cases e : smA R C t s (R - t - 1) with
  | none => rw [e] at h; exact h
  | some x => rw [e] at h; exact smB_skip h hz
theorem smAB_bad {R C t K : Nat} {s z : L3} (htR : t < R) (hk : t + 1 + K < C) (h : Stands3 R C (smAB R C t s K) z) (hz : nth z.1 (t * C + (t + 1 + K)) = bad) : Stands3 R C (smAB R C t s (K + 1)) z := by
  unfold smAB at *
  cases e : smA R C t s (R - t - 1) with
  | none => rw [e] at h; exact h
  | some x => rw [e] at h; exact smB_bad htR hk h hz
theorem smAB_step {R C t K : Nat} {s z : L3} (hs : Ok3 R C s) (htR : t < R) (htC : t < C) (hk : t + 1 + K < C) (hne : nth s.1 (t * C + t) ≠ 0) (h : Stands3 R C (smAB R C t s K) z) (hz : nth z.1 (t * C + (t + 1 + K)) ≠ 0) :
    Stands3 R C (smAB R C t s (K + 1)) (addC3 R C (t + 1 + K) t (-(flQ (nth z.1 (t * C + (t + 1 + K))) (nth s.1 (t * C + t)))) z) := by
  unfold smAB at *
  cases e : smA R C t s (R - t - 1) with
  | none => rw [e] at h; exact h.lostC
  | some x =>
    rw [e] at h
    have E := smA_AI hs htR htC (by omega) e
    have ep := E.same t t htR htC (.inl (Nat.le_refl _))
    have := smB_step E.ok htR htC hk (by rw [ep]; exact hne) h hz
    rw [ep] at this
    exact this
theorem smAB_piv {R C t : Nat} {s y : L3} (hs : Ok3 R C s) (htR : t < R) (htC : t < C) (h : smAB R C t s (C - t - 1) = some y) : nth y.1 (t * C + t) = nth s.1 (t * C + t) := by
  unfold smAB at h
  obtain ⟨x, h1, h2⟩ := Option.bind_eq_some_iff.1 h
  have EA := smA_AI hs htR htC (by omega) h1
  have EB := smB_BI EA.ok htR htC (by omega) h2
  rw [EB.same t t htR htC (.inl (Nat.le_refl _)), EA.same t t htR htC (.inl (Nat.le_refl _))]
/-- what a round of the reference leaves -/
def RndO (R C : Nat) (o : Option (L3 × Bool)) (x : L3) (b : Bool) : Prop := Stands3 R C (o.map (·.1)) x ∧ ∀ y q, o = some (y, q) → b = !q
theorem end_left {R C t : Nat} {oB : Option L3} {z : L3} (h : Stands3 R C oB z) (hl : lf R C t z.1 = true) : RndO R C (oB.bind fun y => smEnd R C t y) z false := by
  cases oB with
  | none => exact ⟨h, fun y q e => by cases e⟩
  | some y =>
    obtain ⟨rfl, ok⟩ := h.some_eq
    have e : smEnd R C t z = some (z, true) := by unfold smEnd; rw [if_pos hl]
    simp only [Option.bind_some]
    rw [e]
    exact ⟨h, fun y q e => by cases e; rfl⟩
theorem end_clean {R C t : Nat} {oB : Option L3} {z : L3} (h : Stands3 R C oB z) (hl : lf R C t z.1 = false) (hn : ∀ y, oB = some y → ndI C t y.1 (R - t - 1) = none) : RndO R C (oB.bind fun y => smEnd R C t y) z true := by
  cases oB with
  | none => exact ⟨h, fun y q e => by cases e⟩
  | some y =>
    obtain ⟨rfl, ok⟩ := h.some_eq
    have e : smEnd R C t z = some (z, false) := by unfold smEnd; rw [hl, hn z rfl]; rfl
    simp only [Option.bind_some]
    rw [e]
    exact ⟨h, fun y q e => by cases e; rfl⟩
theorem end_found {R C t i : Nat} {oB : Option L3} {z : L3} (h : Stands3 R C oB z) (hl : lf R C t z.1 = false) (hn : ∀ y, oB = some y → ndI C t y.1 (R - t - 1) = some i) : RndO R C (oB.bind fun y => smEnd R C t y) (addR3 R C t i 1 z) false := by
  cases oB with
  | none => exact ⟨h.lostR, fun y q e => by cases e⟩
  | some y =>
    obtain ⟨rfl, ok⟩ := h.some_eq
    have e : smEnd R C t z = (fit3 (addR3 R C t i 1 z)).map fun z => (z, true) := by unfold smEnd; rw [hl, hn z rfl]; rfl
    simp only [Option.bind_some]
    rw [e]
    refine ⟨?_, fun y q e => ?_⟩
    · have := h.addR (i := t) (j := i) (t := 1)
      simp only [Option.bind_some] at this
      rw [Option.map_map]
      have e2 : (fit3 (addR3 R C t i 1 z)).map ((fun x : L3 × Bool => x.1) ∘ fun z => (z, true)) = fit3 (addR3 R C t i 1 z) := by cases fit3 (addR3 R C t i 1 z) <;> rfl
      rw [e2]; exact this
    · obtain ⟨z', _, h2⟩ := Option.map_eq_some_iff.1 e
      cases h2; rfl
theorem lfA_next {C t I : Nat} {a : List Int} (h : t + 1 ≤ I) : lfA C t a (I + 1 - (t + 1)) = (lfA C t a (I - (t + 1)) || decide (nth a (I * C + t) ≠ 0)) := by
  rw [show I + 1 - (t + 1) = (I - (t + 1)) + 1 by omega, lfA, show t + 1 + (I - (t + 1)) = I by omega]
theorem lfB_next {C t I : Nat} {a : List Int} (h : t + 1 ≤ I) : lfB C t a (I + 1 - (t + 1)) = (lfB C t a (I - (t + 1)) || decide (nth a (t * C + I) ≠ 0)) := by
  rw [show I + 1 - (t + 1) = (I - (t + 1)) + 1 by omega, lfB, show t + 1 + (I - (t + 1)) = I by omega]
theorem ndJ_next {C t i J : Nat} {a : List Int} (h : t + 1 ≤ J) (h0 : ndJ C t a i (J - (t + 1)) = false) : ndJ C t a i (J + 1 - (t + 1)) = decide (nth a (i * C + J) % nth a (t * C + t) ≠ 0) := by
  rw [show J + 1 - (t + 1) = (J - (t + 1)) + 1 by omega, ndJ, h0, show t + 1 + (J - (t + 1)) = J by omega, Bool.false_or]
end Go.Proofs.Ytpgoefdeodoacaa

/- Contract: the place of the least cell, the reference's. -/
namespace Go.Proofs.Ytpgoefdeodoacaa
set_option linter.unusedSimpArgs false
set_option linter.unusedVariables false
open Go.RowKit

section
set_option maxHeartbeats 4000000
set_option maxRecDepth 100000
theorem l13Least_c (R C t : Nat) (A : Option Addr) (a : List Int) (n cap : Nat) (w : World) (hn : a.length = n) (hl : n = R * C) (hR : R ≤ 24) (hC : C ≤ 24) (htR : t ≤ R) (htC : t ≤ C) (hnum : ∀ i, i < n → isNum (nth a i) = true) (ha : Rd w A a) :
    Calls Try.prog 214 #[.agg #[.int .i64 R, .int .i64 C, .slice A n cap], .int .i64 t] w fun e w' => e = .returned (.tuple #[.int .i64 (encR (lst R C t a)), .int .i64 (encC (lst R C t a))]) ∧ Grows w w' := by
  obtain ⟨w1, hw1⟩ : ∃ w1, w1 = w.alloc (.cells #[.int .i64 R, .int .i64 C, .slice A n cap] 28) := ⟨_, rfl⟩
  have mb1 : MBox w1 w.heap.size R C (.slice A n cap) := by rw [hw1]; exact MBox.mk_ _ _ _ _ _
  have g01 : Grows w w1 := by rw [hw1]; exact bel0
  have ha1 := ha.grows g01
  have HW1 := Lib.hid hw1
  obtain ⟨LR, hLR⟩ : ∃ x, x = lst R C t a := ⟨_, rfl⟩
  rw [← hLR]
  have HLR := Lib.hid hLR
  clear hLR
  have hRC : R * C ≤ 576 := Nat.mul_le_mul hR hC
  have HB : ∀ i, i < R → i * C ≤ 576 := fun i hi => by have := Nat.mul_le_mul_right C (Nat.le_of_lt hi); omega
  have CC := Lib.hid fun (i j : Nat) (hi : i < R) (hj : j < C) W h => l12Cell_c R C A a n cap i j W hn h (castMul i C) (by have := castMulLe (HB i hi); omega) (castPos i C j) (castLt (by rw [hn, hl]; exact idx_lt hi hj)) (by rw [hn, hl]; omega)
  have HNUM := Lib.hid fun i j (hi : i < R) (hj : j < C) => (isNum_iff _).1 (hnum (i * C + j) (by rw [hl]; exact idx_lt hi hj))
  have HP := Lib.hid fun I J q h1 h2 h3 h => lsJ_in (R := R) (C := C) (t := t) (I := I) (J := J) (a := a) (q := q) h1 h2 h3 h
  clear hw1 hn hl HB hnum
  go_enter Try.func214, Try.ntmps214
  go_wp2_with fail
  rw [← HW1.out]
  go_loopw [6, 7, 8] (fun p q i wr => ∃ (I : Nat), i = .int .i64 I ∧ t ≤ I ∧ I ≤ R ∧ p = .int .i64 (encR (lsI C t a (I - t))) ∧ q = .int .i64 (encC (lsI C t a (I - t))) ∧ Grows w1 wr) (fun _ _ i _ => R - (intOf i).toNat)
  case atStart => exact ⟨t, rfl, Nat.le_refl _, htR, by rw [Nat.sub_self]; rfl, by rw [Nat.sub_self]; rfl, by exact bel0⟩
  case round =>
    obtain ⟨I, rfl, hIt, hI, rfl, rfl, hgi⟩ := hrel
    obtain ⟨wo, rfl⟩ : ∃ wo : World, wo = wr := ⟨_, rfl⟩
    have mbi := mb1.grows hgi
    obtain ⟨b0, b1, b2⟩ := mbi.cells
    have bl := mbi.lt
    by_cases hlt : I < R
    · have hlt' : (I : Int) < (R : Int) := by omega
      have HNI := Lib.hid (lsI_next (C := C) (a := a) hIt)
      obtain ⟨o, ho⟩ : ∃ o, o = lsI C t a (I - t) := ⟨_, rfl⟩
      have HP' := Lib.hid fun J q h3 h => HP.out I J q hIt hlt h3 h
      rw [← ho] at HP' HNI ⊢
      clear ho
      go_wp2_with fail
      go_loopw [6, 7, 9] (fun p q j wr => ∃ (J : Nat), j = .int .i64 J ∧ t ≤ J ∧ J ≤ C ∧ p = .int .i64 (encR (lsJ C t a I o (J - t))) ∧ q = .int .i64 (encC (lsJ C t a I o (J - t))) ∧ Grows wo wr) (fun _ _ j _ => C - (intOf j).toNat)
      case atStart => exact ⟨t, rfl, Nat.le_refl _, htC, by rw [Nat.sub_self]; rfl, by rw [Nat.sub_self]; rfl, by exact bel0⟩
      case round =>
        clear b0 b1 b2 bl
        obtain ⟨J, rfl, hJt, hJ, rfl, rfl, hg⟩ := hrel
        have mb := mbi.grows hg
        have hd : Rd wr A a := (ha1.grows hgi).grows hg
        obtain ⟨b0, b1, b2⟩ := mb.cells
        have bl := mb.lt
        by_cases hltj : J < C
        · have hltj' : (J : Int) < (C : Int) := by omega
          have C1 := fun W h => CC.out I J hlt hltj W h
          have X1 := Lib.hid fun W => l1Abs_c (nth a (I * C + J)) W (by have := HNUM.out I J hlt hltj; omega) (by have := HNUM.out I J hlt hltj; omega)
          rw [castIdx] at C1
          have C1' := Lib.hid C1
          clear C1
          by_cases hx : nth a (I * C + J) = 0
          · have HX := Lib.hid (lsJ_zero (i := I) (o := o) hJt hx)
            rw [hx] at C1' X1
            rw [show absI 0 = 0 from rfl] at X1
            clear hx
            generalize lsJ C t a I o (J - t) = bb at *
            go_wp2_with fail
            refine (C1'.out _ (by exact (Rd.grows hd (by exact bel0)))).mono ?_; rintro e w3 ⟨rfl, g3⟩
            go_wp2_with fail
            refine (X1.out _).mono ?_; rintro e w' ⟨rfl, rfl⟩
            go_wp2_with fail
            go_round
            case rel => exact ⟨J + 1, by go_num, by omega, by omega, by rw [HX.out], by rw [HX.out], by exact bel2 g3 hg⟩
            case measure => simp [intOf]; omega
          · have hx' : (absI (nth a (I * C + J)) != 0) = true := by
              rw [bne_iff_ne]; unfold absI; split <;> omega
            obtain ⟨bb, hbb⟩ : ∃ bb, bb = encR (lsJ C t a I o (J - t)) := ⟨_, rfl⟩
            obtain ⟨cc, hcc⟩ : ∃ cc, cc = encC (lsJ C t a I o (J - t)) := ⟨_, rfl⟩
            rw [← hbb, ← hcc]
            cases hb : lsJ C t a I o (J - t) with
            | none =>
              rw [hb] at hbb hcc
              obtain rfl : bb = -1 := hbb
              obtain rfl : cc = -1 := hcc
              have HX := Lib.hid (lsJ_first hJt hx hb)
              clear hx hb
              generalize absI (nth a (I * C + J)) = x1 at *
              generalize nth a (I * C + J) = x at *
              go_wp2_with fail
              refine (C1'.out _ (by exact (Rd.grows hd (by exact bel0)))).mono ?_; rintro e w3 ⟨rfl, g3⟩
              go_wp2_with fail
              refine (X1.out _).mono ?_; rintro e w' ⟨rfl, rfl⟩
              go_wp2_with fail
              go_round
              case rel => exact ⟨J + 1, by go_num, by omega, by omega, by rw [HX.out]; rfl, by rw [HX.out]; rfl, by exact bel2 g3 hg⟩
              case measure => simp [intOf]; omega
            | some q =>
              obtain ⟨p1, p2⟩ := q
              rw [hb] at hbb hcc
              obtain rfl : bb = (p1 : Int) := hbb
              obtain rfl : cc = (p2 : Int) := hcc
              obtain ⟨h1, h2⟩ := HP'.out J (p1, p2) hJ hb
              simp only at h1 h2
              have hp0 : decide (((p1 : Nat) : Int) < 0) = false := by rw [decide_eq_false_iff_not]; omega
              have C2 := fun W h => CC.out p1 p2 h1 h2 W h
              have X2 := Lib.hid fun W => l1Abs_c (nth a (p1 * C + p2)) W (by have := HNUM.out p1 p2 h1 h2; omega) (by have := HNUM.out p1 p2 h1 h2; omega)
              rw [castIdx] at C2
              have C2' := Lib.hid C2
              clear C2 h1 h2
              by_cases hc : absI (nth a (I * C + J)) < absI (nth a (p1 * C + p2))
              · have HX := Lib.hid (lsJ_less hJt hx hb hc)
                clear hx hb
                generalize absI (nth a (I * C + J)) = x1 at *
                generalize absI (nth a (p1 * C + p2)) = y1 at *
                generalize nth a (I * C + J) = x at *
                generalize nth a (p1 * C + p2) = y at *
                go_wp2_with fail
                refine (C1'.out _ (by exact (Rd.grows hd (by exact bel0)))).mono ?_; rintro e w3 ⟨rfl, g3⟩
                clear b0 b1 b2 bl
                replace mb := mb.grows (w' := w3) (by exact bel1 g3)
                obtain ⟨b0, b1, b2⟩ := mb.cells
                replace hd : Rd w3 A a := hd.grows (by exact bel1 g3)
                go_wp2_with fail
                refine (X1.out _).mono ?_; rintro e w' ⟨rfl, rfl⟩
                go_wp2_with fail
                refine (C2'.out _ (by exact (Rd.grows hd (by exact bel0)))).mono ?_; rintro e w4 ⟨rfl, g4⟩
                go_wp2_with fail
                refine (X2.out _).mono ?_; rintro e w' ⟨rfl, rfl⟩
                go_wp2_with fail
                go_round
                case rel => exact ⟨J + 1, by go_num, by omega, by omega, by rw [HX.out]; rfl, by rw [HX.out]; rfl, by exact bel3 g4 g3 hg⟩
                case measure => simp [intOf]; omega
              · have HX := Lib.hid (lsJ_more hJt hx hb hc)
                clear hx hb
                generalize absI (nth a (I * C + J)) = x1 at *
                generalize absI (nth a (p1 * C + p2)) = y1 at *
                generalize nth a (I * C + J) = x at *
                generalize nth a (p1 * C + p2) = y at *
                go_wp2_with fail
                refine (C1'.out _ (by exact (Rd.grows hd (by exact bel0)))).mono ?_; rintro e w3 ⟨rfl, g3⟩
                clear b0 b1 b2 bl
                replace mb := mb.grows (w' := w3) (by exact bel1 g3)
                obtain ⟨b0, b1, b2⟩ := mb.cells
                replace hd : Rd w3 A a := hd.grows (by exact bel1 g3)
                go_wp2_with fail
                refine (X1.out _).mono ?_; rintro e w' ⟨rfl, rfl⟩
                go_wp2_with fail
                refine (C2'.out _ (by exact (Rd.grows hd (by exact bel0)))).mono ?_; rintro e w4 ⟨rfl, g4⟩
                go_wp2_with fail
                refine (X2.out _).mono ?_; rintro e w' ⟨rfl, rfl⟩
                go_wp2_with fail
                go_round
                case rel => exact ⟨J + 1, by go_num, by omega, by omega, by rw [HX.out]; rfl, by rw [HX.out]; rfl, by exact bel3 g4 g3 hg⟩
                case measure => simp [intOf]; omega
        · obtain rfl : J = C := by omega
          generalize lsJ J t a I o (J - t) = bb at *
          go_wp2_with fail
          go_round
          case rel => exact ⟨I + 1, by go_num, by omega, by omega, by rw [HNI.out], by rw [HNI.out], by exact bel2 hg hgi⟩
          case measure => simp [intOf]; omega
    · obtain rfl : I = R := by omega
      have HE := Lib.hid (show LR = lsI C t a (I - t) from HLR.out)
      generalize lsI C t a (I - t) = bb at *
      go_wp2_with fail
      go_ret2
      exact ⟨by rw [HE.out]; rfl, by exact bel2 hgi g01⟩
end
end Go.Proofs.Ytpgoefdeodoacaa

/- Contract: a round of the Smith form, the reference's. -/
namespace Go.Proofs.Ytpgoefdeodoacaa
set_option linter.unusedSimpArgs false
set_option linter.unusedVariables false
open Go.RowKit

/-- three Matrix variables -/
theorem three_box (w : World) (r c r' c' r2 c2 : Int) (u u' u2 : Value) : ∃ w1, w1 = ((w.alloc (.cells #[.int .i64 r, .int .i64 c, u] 28)).alloc (.cells #[.int .i64 r', .int .i64 c', u'] 28)).alloc (.cells #[.int .i64 r2, .int .i64 c2, u2] 28) ∧
    MBox w1 w.heap.size r c u ∧ MBox w1 (w.heap.size + 1) r' c' u' ∧ MBox w1 (w.heap.size + 1 + 1) r2 c2 u2 ∧ Grows w w1 :=
  ⟨_, rfl, (MBox.mk_ _ _ _ _ _).grows (by exact bel0), (MBox.new_ _ _ _ _ _ (by simp)).alloc _, MBox.new_ _ _ _ _ _ (by simp), by exact bel0⟩
/-- what a round answers -/
def RndS (R C B : Nat) (A U V : Option Addr) (n cap m cap2 k cap3 : Nat) (o : Option (L3 × Bool)) (w : World) (e : Ending) (w' : World) : Prop := ∃ (x : L3) (b : Bool), e = .returned (.bool b) ∧ RowKit.Hid (RndO R C o x b) ∧ Tr w' B A U V n cap m cap2 k cap3 x ∧ GrownP (TB A U V n cap m cap2 k cap3) w w'
section
set_option maxHeartbeats 40000000
set_option maxRecDepth 100000
theorem l13Round_c (R C t : Nat) (A U V : Option Addr) (n cap m cap2 k cap3 B : Nat) (s : L3) (w : World) (hn : n = R * C) (hm : m = R * R) (hk : k = C * C) (hR : R ≤ 24) (hC : C ≤ 24) (ok : Ok3 R C s) (htR : t < R) (htC : t < C) (hne : nth s.1 (t * C + t) ≠ 0) (tr : Tr w B A U V n cap m cap2 k cap3 s) :
    Calls Try.prog 215 #[.agg #[.int .i64 R, .int .i64 C, .slice A n cap], .agg #[.int .i64 R, .int .i64 R, .slice U m cap2], .agg #[.int .i64 C, .int .i64 C, .slice V k cap3], .int .i64 t] w (RndS R C B A U V n cap m cap2 k cap3 (smE R C t s) w) := by
  obtain ⟨w1, hw1, mbA1, mbU1, mbV1, g01⟩ := three_box w R C R R C C (.slice A n cap) (.slice U m cap2) (.slice V k cap3)
  have hlo := tr.lo
  have MA := Lib.hid fun wr (g : GrownP (TB A U V n cap m cap2 k cap3) w1 wr) => mbA1.farP g (fun h => by have := (hlo _ h).2; omega)
  have MU := Lib.hid fun wr (g : GrownP (TB A U V n cap m cap2 k cap3) w1 wr) => mbU1.farP g (fun h => by have := (hlo _ h).2; omega)
  have MV := Lib.hid fun wr (g : GrownP (TB A U V n cap m cap2 k cap3) w1 wr) => mbV1.farP g (fun h => by have := (hlo _ h).2; omega)
  have hsz1 := Below.size g01
  have HNB := Lib.hid fun b (hb : w1.heap.size ≤ b) (h : TB A U V n cap m cap2 k cap3 b) => (by have := (hlo _ h).2; omega : False)
  have tr1 := tr.grows g01
  have HW1 := Lib.hid hw1
  have G01 := Lib.hid g01
  obtain ⟨P, hP⟩ : ∃ P, P = TB A U V n cap m cap2 k cap3 := ⟨_, rfl⟩
  have HOK := Lib.hid ok
  have HNE := Lib.hid hne
  have hRC : R * C ≤ 576 := Nat.mul_le_mul hR hC
  have hIC : ∀ i, i < R → i * C ≤ 576 := fun i hi => by have := Nat.mul_le_mul_right C (Nat.le_of_lt hi); omega
  have CC := Lib.hid fun (z : L3) (mk : Mk3 R C z) (i J : Nat) (hi : i < R) (hJ : J < C) W h => l12Cell_c R C A z.1 n cap i J W (mk.l1.trans hn.symm) h (castMul i C) (by have := castMulLe (hIC i hi); omega) (castPos i C J) (castLt (by rw [mk.l1]; exact idx_lt hi hJ)) (by rw [mk.l1]; omega)
  have CO := Lib.hid fun i j q (z : L3) W (hi : i < R) (hj : j < R) (hq : isNum q = true) (mk : Mk3 R C z) (tr : Tr W B A U V n cap m cap2 k cap3 z) => opAdd3_c hn hm hR hC hi hj hq mk tr
  have CA := Lib.hid fun i j q (z : L3) W (hi : i < C) (hj : j < C) (hq : isNum q = true) (mk : Mk3 R C z) (tr : Tr W B A U V n cap m cap2 k cap3 z) => colAddA_c hn hR hC hi hj hq (mk.l1.trans hn.symm) mk.m1 tr
  have CV := Lib.hid fun i j q (z : L3) W (hi : i < C) (hj : j < C) (hq : isNum q = true) (h3 : z.2.2.length = C * C) (m3 : mkd z.2.2) (tr : Tr W B A U V n cap m cap2 k cap3 z) => colAddV_c hk hC hi hj hq (h3.trans hk.symm) m3 tr
  have CD := Lib.hid fun x y W => sDivF_c x y W
  have C0 := fun W h => CC.out s ok.mk3 t t htR htC W h
  rw [castIdx] at C0
  have hps : isNum (nth s.1 (t * C + t)) = true := (allNum_iff _).1 ok.n1 _ (by rw [ok.l1]; exact idx_lt htR htC)
  obtain ⟨p, hp⟩ : ∃ p, p = nth s.1 (t * C + t) := ⟨_, rfl⟩
  rw [← hp] at C0 hne hps
  have C0' := Lib.hid C0
  have HP := Lib.hid hp
  clear hw1 hn hm hk hlo mbA1 mbU1 mbV1 hIC hRC tr ok C0 g01 hsz1 hP hp hps
  go_enter Try.func215, Try.ntmps215
  go_wp2_with fail
  rw [← HW1.out]
  refine (C0'.out _ tr1.oa.rd').mono ?_; rintro e w2 ⟨rfl, g2⟩
  have tr2 := tr1.grows g2
  have gr2 : GrownP (TB A U V n cap m cap2 k cap3) w1 w2 := (GrownP.refl w1).right g2
  clear tr1 g2 C0'
  go_upto_block 0 with fail
  go_cut [] (fun wx => ∃ z, RowKit.Hid (Stands3 R C (smA R C t s (R - t - 1)) z) ∧ Tr wx B A U V n cap m cap2 k cap3 z ∧ GrownP (TB A U V n cap m cap2 k cap3) w1 wx)
  case first =>
    go_wp2_with fail
    go_loopw [11] (fun i wr => ∃ (I : Nat) (z : L3), i = .int .i64 I ∧ t + 1 ≤ I ∧ I ≤ R ∧ RowKit.Hid (Stands3 R C (smA R C t s (I - (t + 1))) z) ∧ Tr wr B A U V n cap m cap2 k cap3 z ∧ GrownP (TB A U V n cap m cap2 k cap3) w1 wr) (fun i _ => R - (intOf i).toNat)
    case atStart => exact ⟨t + 1, s, by first | rfl | simp, Nat.le_refl _, by omega, Lib.hid (by rw [Nat.sub_self]; exact HOK.out.stands), tr2, gr2⟩
    case round =>
      clear tr2 gr2
      obtain ⟨I, z, rfl, hI1, hI2, HS, tr, gr⟩ := hrel
      obtain ⟨a0, a1, a2⟩ := (MA.out wr gr).cells
      obtain ⟨u0, u1, u2⟩ := (MU.out wr gr).cells
      by_cases hlt : I < R
      · have hlt' : (I : Int) < (R : Int) := by omega
        have C2 := fun W h => CC.out z HS.out.1 I t hlt htC W h
        rw [castIdx] at C2
        by_cases hz : nth z.1 (I * C + t) = 0
        · have HX : RowKit.Hid (Stands3 R C (smA R C t s (I + 1 - (t + 1))) z) := Lib.hid (by
            rw [show I + 1 - (t + 1) = (I - (t + 1)) + 1 by omega]
            exact smA_skip HS.out (by rw [show t + 1 + (I - (t + 1)) = I by omega]; exact hz))
          rw [hz] at C2
          have C2' := Lib.hid C2
          clear C2 hz
          go_wp2_with fail
          refine (C2'.out _ tr.oa.rd').mono ?_; rintro e w5 ⟨rfl, g5⟩
          go_wp2_with fail
          go_round
          case rel => exact ⟨I + 1, z, by go_num, by omega, by omega, HX, tr.grows g5, gr.right g5⟩
          case measure => simp [intOf]; omega
        · have hz' : (nth z.1 (I * C + t) != 0) = true := by simpa using hz
          have HX : RowKit.Hid (Stands3 R C (smA R C t s (I + 1 - (t + 1))) (addR3 R C I t (-(flQ (nth z.1 (I * C + t)) p)) z)) := Lib.hid (by
            have h := smA_step HOK.out htR htC (K := I - (t + 1)) (by omega) HNE.out HS.out (by rw [show t + 1 + (I - (t + 1)) = I by omega]; exact hz)
            rw [show t + 1 + (I - (t + 1)) = I by omega, ← HP.out] at h
            rw [show I + 1 - (t + 1) = (I - (t + 1)) + 1 by omega]
            exact h)
          have CDV := fun W => CD.out (nth z.1 (I * C + t)) p W
          have hq := (isNum_iff _).1 (flQ_num (n := nth z.1 (I * C + t)) (d := p))
          have CO1 := fun W tr => CO.out I t (-(flQ (nth z.1 (I * C + t)) p)) z W hlt htR (by rw [isNum_iff]; omega) HS.out.1 tr
          have C2' := Lib.hid C2
          clear C2 hz
          generalize flQ (nth z.1 (I * C + t)) p = q at *
          generalize flR (nth z.1 (I * C + t)) p = q1 at *
          generalize flB (nth z.1 (I * C + t)) p = q2 at *
          generalize nth z.1 (I * C + t) = c1 at *
          have CDV' := Lib.hid CDV
          have CO1' := Lib.hid CO1
          clear CDV CO1
          go_wp2_with fail
          refine (C2'.out _ tr.oa.rd').mono ?_; rintro e w5 ⟨rfl, g5⟩
          replace tr := tr.grows g5
          replace gr := gr.right g5
          clear a0 a1 a2 u0 u1 u2 g5
          obtain ⟨a0, a1, a2⟩ := (MA.out w5 gr).cells
          obtain ⟨u0, u1, u2⟩ := (MU.out w5 gr).cells
          go_wp2_with fail
          refine (C2'.out _ tr.oa.rd').mono ?_; rintro e w6 ⟨rfl, g6⟩
          replace tr := tr.grows g6
          replace gr := gr.right g6
          clear a0 a1 a2 u0 u1 u2 g6
          obtain ⟨a0, a1, a2⟩ := (MA.out w6 gr).cells
          obtain ⟨u0, u1, u2⟩ := (MU.out w6 gr).cells
          go_wp2_with fail
          refine (CDV'.out _).mono ?_; rintro e w7 ⟨rfl, g7⟩
          replace tr := tr.grows g7
          replace gr := gr.right g7
          clear a0 a1 a2 u0 u1 u2 g7
          obtain ⟨a0, a1, a2⟩ := (MA.out w7 gr).cells
          obtain ⟨u0, u1, u2⟩ := (MU.out w7 gr).cells
          go_wp2_with fail
          refine (CO1'.out _ tr).mono ?_; rintro e w8 ⟨rfl, tr8, g8⟩
          replace gr := gr.trans g8
          clear tr g8 a0 a1 a2 u0 u1 u2
          go_wp2_with fail
          go_round
          case rel => exact ⟨I + 1, _, by go_num, by omega, by omega, HX, tr8, gr⟩
          case measure => simp [intOf]; omega
      · have eK : I = R := by omega
        have HX : RowKit.Hid (Stands3 R C (smA R C t s (R - t - 1)) z) := Lib.hid (by rw [show R - t - 1 = I - (t + 1) by omega]; exact HS.out)
        have hlt' : ¬ (I : Int) < (R : Int) := by omega
        clear eK
        go_wp2_with fail
        go_meet
        exact ⟨z, HX, tr, gr⟩
  case rest =>
    clear tr2 gr2
    obtain ⟨z1, HZ1, tr, gr⟩ := hcut
    obtain ⟨w3, rfl⟩ : ∃ x : World, x = wc := ⟨_, rfl⟩
    go_upto_block 2 with fail
    go_cut [] (fun wx => ∃ z, RowKit.Hid (Stands3 R C (smAB R C t s (C - t - 1)) z) ∧ Tr wx B A U V n cap m cap2 k cap3 z ∧ GrownP (TB A U V n cap m cap2 k cap3) w1 wx)
    case first =>
      go_wp2_with fail
      go_loopw [15] (fun i wr => ∃ (I : Nat) (z : L3), i = .int .i64 I ∧ t + 1 ≤ I ∧ I ≤ C ∧ RowKit.Hid (Stands3 R C (smAB R C t s (I - (t + 1))) z) ∧ Tr wr B A U V n cap m cap2 k cap3 z ∧ GrownP (TB A U V n cap m cap2 k cap3) w1 wr) (fun i _ => C - (intOf i).toNat)
      case atStart => exact ⟨t + 1, z1, by first | rfl | simp, Nat.le_refl _, by omega, Lib.hid (by rw [Nat.sub_self]; exact smAB_zero HZ1.out), tr, gr⟩
      case round =>
        clear tr gr
        obtain ⟨I, z, rfl, hI1, hI2, HS, tr, gr⟩ := hrel
        obtain ⟨a0, a1, a2⟩ := (MA.out wr gr).cells
        obtain ⟨u0, u1, u2⟩ := (MV.out wr gr).cells
        by_cases hlt : I < C
        · have hlt' : (I : Int) < (C : Int) := by omega
          have C2 := fun W h => CC.out z HS.out.1 t I htR hlt W h
          rw [castIdx] at C2
          by_cases hz : nth z.1 (t * C + I) = 0
          · have HX : RowKit.Hid (Stands3 R C (smAB R C t s (I + 1 - (t + 1))) z) := Lib.hid (by
              rw [show I + 1 - (t + 1) = (I - (t + 1)) + 1 by omega]
              exact smAB_skip HS.out (by rw [show t + 1 + (I - (t + 1)) = I by omega]; exact hz))
            rw [hz] at C2
            have C2' := Lib.hid C2
            clear C2 hz
            go_wp2_with fail
            refine (C2'.out _ tr.oa.rd').mono ?_; rintro e w5 ⟨rfl, g5⟩
            go_wp2_with fail
            go_round
            case rel => exact ⟨I + 1, z, by go_num, by omega, by omega, HX, tr.grows g5, gr.right g5⟩
            case measure => simp [intOf]; omega
          · by_cases hbd : nth z.1 (t * C + I) = bad
            · have HX : RowKit.Hid (Stands3 R C (smAB R C t s (I + 1 - (t + 1))) z) := Lib.hid (by
                rw [show I + 1 - (t + 1) = (I - (t + 1)) + 1 by omega]
                exact smAB_bad htR (by omega) HS.out (by rw [show t + 1 + (I - (t + 1)) = I by omega]; exact hbd))
              rw [hbd] at C2
              have C2' := Lib.hid C2
              clear C2 hz hbd
              go_wp2_with fail
              refine (C2'.out _ tr.oa.rd').mono ?_; rintro e w5 ⟨rfl, g5⟩
              replace tr := tr.grows g5
              replace gr := gr.right g5
              clear a0 a1 a2 u0 u1 u2 g5
              obtain ⟨a0, a1, a2⟩ := (MA.out w5 gr).cells
              go_wp2_with fail
              refine (C2'.out _ tr.oa.rd').mono ?_; rintro e w6 ⟨rfl, g6⟩
              go_wp2_with fail
              go_round
              case rel => exact ⟨I + 1, z, by go_num, by omega, by omega, HX, tr.grows g6, gr.right g6⟩
              case measure => simp [intOf]; omega
            · have hz' : (nth z.1 (t * C + I) != 0) = true := by simpa using hz
              have hb' : (nth z.1 (t * C + I) != bad) = true := by simpa using hbd
              have HX : RowKit.Hid (Stands3 R C (smAB R C t s (I + 1 - (t + 1))) (addC3 R C I t (-(flQ (nth z.1 (t * C + I)) p)) z)) := Lib.hid (by
                have h := smAB_step HOK.out htR htC (K := I - (t + 1)) (by omega) HNE.out HS.out (by rw [show t + 1 + (I - (t + 1)) = I by omega]; exact hz)
                rw [show t + 1 + (I - (t + 1)) = I by omega, ← HP.out] at h
                rw [show I + 1 - (t + 1) = (I - (t + 1)) + 1 by omega]
                exact h)
              have CDV := fun W => CD.out (nth z.1 (t * C + I)) p W
              have hq := (isNum_iff _).1 (flQ_num (n := nth z.1 (t * C + I)) (d := p))
              have CA1 := fun W tr => CA.out I t (-(flQ (nth z.1 (t * C + I)) p)) z W hlt htC (by rw [isNum_iff]; omega) HS.out.1 tr
              have CV1 := fun a u W tr => CV.out I t (-(flQ (nth z.1 (t * C + I)) p)) (a, u, z.2.2) W hlt htC (by rw [isNum_iff]; omega) HS.out.1.l3 HS.out.1.m3 tr
              have C2' := Lib.hid C2
              clear C2 hz hbd
              generalize flQ (nth z.1 (t * C + I)) p = q at *
              generalize flR (nth z.1 (t * C + I)) p = q1 at *
              generalize flB (nth z.1 (t * C + I)) p = q2 at *
              generalize nth z.1 (t * C + I) = c1 at *
              have CDV' := Lib.hid CDV
              have CA1' := Lib.hid CA1
              have CV1' := Lib.hid CV1
              clear CDV CA1 CV1
              unfold bad at hb'
              go_wp2_with fail
              refine (C2'.out _ tr.oa.rd').mono ?_; rintro e w5 ⟨rfl, g5⟩
              replace tr := tr.grows g5
              replace gr := gr.right g5
              clear a0 a1 a2 u0 u1 u2 g5
              obtain ⟨a0, a1, a2⟩ := (MA.out w5 gr).cells
              go_wp2_with fail
              refine (C2'.out _ tr.oa.rd').mono ?_; rintro e w6 ⟨rfl, g6⟩
              replace tr := tr.grows g6
              replace gr := gr.right g6
              clear a0 a1 a2 g6
              obtain ⟨a0, a1, a2⟩ := (MA.out w6 gr).cells
              go_wp2_with fail
              refine (C2'.out _ tr.oa.rd').mono ?_; rintro e w7 ⟨rfl, g7⟩
              replace tr := tr.grows g7
              replace gr := gr.right g7
              clear a0 a1 a2 g7
              go_wp2_with fail
              refine (CDV'.out _).mono ?_; rintro e w8 ⟨rfl, g8⟩
              replace tr := tr.grows g8
              replace gr := gr.right g8
              clear g8
              have mbA := MA.out w8 gr
              obtain ⟨a0, a1, a2⟩ := mbA.cells
              have al := mbA.lt
              obtain ⟨w9, hw9⟩ : ∃ w9, w9 = w8.alloc (.cells #[.int .i64 2, .int .i64 I, .int .i64 t, .int .i64 (-q)] 78) := ⟨_, rfl⟩
              have ob : OBox w9 w8.heap.size 2 I t (-q) := by rw [hw9]; exact OBox.new_ _ _ _ _ _ _ rfl
              have g9 : Grows w8 w9 := by rw [hw9]; exact bel0
              have hs18 := gr.size
              have HW9 := Lib.hid hw9
              clear hw9
              replace tr := tr.grows g9
              replace gr := gr.right g9
              go_wp2_with fail
              rw [← HW9.out]
              refine (CA1'.out _ tr).mono ?_; rintro e wa ⟨rfl, tra, ga⟩
              replace gr := gr.trans ga
              replace ob := ob.farP ga (fun h => HNB.out _ hs18 h)
              clear tr ga a0 a1 a2 al mbA g9
              obtain ⟨u0, u1, u2⟩ := (MV.out wa gr).cells
              obtain ⟨o0, o1, o2, o3⟩ := ob.cells
              go_wp2_with fail
              refine (CV1'.out _ _ _ tra).mono ?_; rintro e wb ⟨rfl, trb, gb⟩
              replace gr := gr.trans gb
              clear tra gb u0 u1 u2 o0 o1 o2 o3
              go_wp2_with fail
              go_round
              case rel => exact ⟨I + 1, _, by go_num, by omega, by omega, HX, trb, gr⟩
              case measure => simp [intOf]; omega
        · have HX : RowKit.Hid (Stands3 R C (smAB R C t s (C - t - 1)) z) := Lib.hid (by rw [show C - t - 1 = I - (t + 1) by omega]; exact HS.out)
          have hlt' : ¬ (I : Int) < (C : Int) := by omega
          go_wp2_with fail
          go_meet
          exact ⟨z, HX, tr, gr⟩
    case rest =>
      clear tr gr HZ1
      obtain ⟨z, HZ, tr, gr⟩ := hcut
      obtain ⟨w4, rfl⟩ : ∃ x : World, x = wc := ⟨_, rfl⟩
      have CZ := Lib.hid fun (i J : Nat) (hi : i < R) (hJ : J < C) W h => CC.out z HZ.out.1 i J hi hJ W h
      go_upto_block 4 with fail
      go_cut [10] (fun c10 wx => c10 = .bool (!lfA C t z.1 (R - t - 1)) ∧ Tr wx B A U V n cap m cap2 k cap3 z ∧ GrownP (TB A U V n cap m cap2 k cap3) w1 wx)
      case first =>
        go_wp2_with fail
        go_loopw [10, 20] (fun c10 i wr => ∃ (I : Nat), i = .int .i64 I ∧ t + 1 ≤ I ∧ I ≤ R ∧ c10 = .bool (!lfA C t z.1 (I - (t + 1))) ∧ Tr wr B A U V n cap m cap2 k cap3 z ∧ GrownP (TB A U V n cap m cap2 k cap3) w1 wr) (fun _ i _ => R - (intOf i).toNat)
        case atStart => exact ⟨t + 1, by first | rfl | simp, Nat.le_refl _, by omega, by rw [Nat.sub_self]; rfl, tr, gr⟩
        case round =>
          clear tr gr
          obtain ⟨I, rfl, hI1, hI2, rfl, tr, gr⟩ := hrel
          obtain ⟨a0, a1, a2⟩ := (MA.out wr gr).cells
          by_cases hlt : I < R
          · have hlt' : (I : Int) < (R : Int) := by omega
            have C2 := fun W h => CZ.out I t hlt htC W h
            rw [castIdx] at C2
            have HX := Lib.hid (lfA_next (C := C) (a := z.1) hI1)
            generalize nth z.1 (I * C + t) = c1 at *
            obtain ⟨L, hL⟩ : ∃ L, L = lfA C t z.1 (I - (t + 1)) := ⟨_, rfl⟩
            rw [← hL] at HX ⊢
            clear hL
            have C2' := Lib.hid C2
            clear C2
            cases L
            · go_wp2_with fail
              refine (C2'.out _ tr.oa.rd').mono ?_; rintro e w5 ⟨rfl, g5⟩
              go_wp2_with fail
              go_round
              case rel => exact ⟨I + 1, by go_num, by omega, by omega, by rw [HX.out]; by_cases h0 : c1 = 0 <;> simp [h0], tr.grows g5, gr.right g5⟩
              case measure => simp [intOf]; omega
            · go_wp2_with fail
              go_round
              case rel => exact ⟨I + 1, by go_num, by omega, by omega, by rw [HX.out]; rfl, tr, gr⟩
              case measure => simp [intOf]; omega
          · have HX := Lib.hid (show lfA C t z.1 (R - t - 1) = lfA C t z.1 (I - (t + 1)) by rw [show R - t - 1 = I - (t + 1) by omega])
            have hlt' : ¬ (I : Int) < (R : Int) := by omega
            generalize lfA C t z.1 (I - (t + 1)) = L at *
            go_wp2_with fail
            go_meet
            exact ⟨by rw [HX.out], tr, gr⟩
      case rest =>
        clear tr gr
        obtain ⟨rfl, tr, gr⟩ := hcut
        obtain ⟨w5, rfl⟩ : ∃ x : World, x = wc := ⟨_, rfl⟩
        obtain ⟨L1, hL1⟩ : ∃ L, L = lfA C t z.1 (R - t - 1) := ⟨_, rfl⟩
        have HL1 := Lib.hid hL1
        rw [← hL1]
        clear hL1
        go_upto_block 6 with fail
        go_cut [10] (fun c10 wx => c10 = .bool (!(L1 || lfB C t z.1 (C - t - 1))) ∧ Tr wx B A U V n cap m cap2 k cap3 z ∧ GrownP (TB A U V n cap m cap2 k cap3) w1 wx)
        case first =>
          go_wp2_with fail
          go_loopw [10, 21] (fun c10 i wr => ∃ (I : Nat), i = .int .i64 I ∧ t + 1 ≤ I ∧ I ≤ C ∧ c10 = .bool (!(L1 || lfB C t z.1 (I - (t + 1)))) ∧ Tr wr B A U V n cap m cap2 k cap3 z ∧ GrownP (TB A U V n cap m cap2 k cap3) w1 wr) (fun _ i _ => C - (intOf i).toNat)
          case atStart => exact ⟨t + 1, by first | rfl | simp, Nat.le_refl _, by omega, by rw [Nat.sub_self]; simp [lfB], tr, gr⟩
          case round =>
            clear tr gr
            obtain ⟨I, rfl, hI1, hI2, rfl, tr, gr⟩ := hrel
            obtain ⟨a0, a1, a2⟩ := (MA.out wr gr).cells
            by_cases hlt : I < C
            · have hlt' : (I : Int) < (C : Int) := by omega
              have C2 := fun W h => CZ.out t I htR hlt W h
              rw [castIdx] at C2
              have HX := Lib.hid (show (L1 || lfB C t z.1 (I + 1 - (t + 1))) = ((L1 || lfB C t z.1 (I - (t + 1))) || decide (nth z.1 (t * C + I) ≠ 0)) by rw [lfB_next hI1, Bool.or_assoc])
              generalize nth z.1 (t * C + I) = c1 at *
              obtain ⟨L, hL⟩ : ∃ L, L = (L1 || lfB C t z.1 (I - (t + 1))) := ⟨_, rfl⟩
              rw [← hL] at HX ⊢
              clear hL
              have C2' := Lib.hid C2
              clear C2
              cases L
              · go_wp2_with fail
                refine (C2'.out _ tr.oa.rd').mono ?_; rintro e w6 ⟨rfl, g6⟩
                go_wp2_with fail
                go_round
                case rel => exact ⟨I + 1, by go_num, by omega, by omega, by rw [HX.out]; by_cases h0 : c1 = 0 <;> simp [h0], tr.grows g6, gr.right g6⟩
                case measure => simp [intOf]; omega
              · go_wp2_with fail
                go_round
                case rel => exact ⟨I + 1, by go_num, by omega, by omega, by rw [HX.out]; rfl, tr, gr⟩
                case measure => simp [intOf]; omega
            · have HX := Lib.hid (show (L1 || lfB C t z.1 (C - t - 1)) = (L1 || lfB C t z.1 (I - (t + 1))) by rw [show C - t - 1 = I - (t + 1) by omega])
              have hlt' : ¬ (I : Int) < (C : Int) := by omega
              obtain ⟨L, hL⟩ : ∃ L, L = (L1 || lfB C t z.1 (I - (t + 1))) := ⟨_, rfl⟩
              rw [← hL] at HX ⊢
              clear hL
              go_wp2_with fail
              go_meet
              exact ⟨by rw [HX.out], tr, gr⟩
        case rest =>
          clear tr gr
          obtain ⟨rfl, tr, gr⟩ := hcut
          obtain ⟨w6, rfl⟩ : ∃ x : World, x = wc := ⟨_, rfl⟩
          have HLF := Lib.hid (show lf R C t z.1 = (L1 || lfB C t z.1 (C - t - 1)) by unfold lf; rw [HL1.out])
          obtain ⟨L, hL⟩ : ∃ L, L = (L1 || lfB C t z.1 (C - t - 1)) := ⟨_, rfl⟩
          rw [← hL] at HLF ⊢
          clear hL HL1
          obtain ⟨oB, hoB⟩ : ∃ oB, oB = smAB R C t s (C - t - 1) := ⟨_, rfl⟩
          have HE := Lib.hid (show smE R C t s = oB.bind fun y => smEnd R C t y by rw [smE_eq, hoB])
          have HPV := Lib.hid fun y (h : oB = some y) => (show y = z ∧ Ok3 R C z ∧ nth z.1 (t * C + t) = p by
            rw [hoB] at h
            have h2 := HZ.out
            rw [h] at h2
            obtain ⟨e1, e2⟩ := h2.some_eq
            exact ⟨e1.symm, e1 ▸ e2, by rw [HP.out, ← smAB_piv HOK.out htR htC h, e1]⟩)
          rw [← hoB] at HZ
          clear hoB
          cases L with
          | true =>
            have HF := Lib.hid (show RndO R C (smE R C t s) z false by rw [HE.out]; exact end_left HZ.out HLF.out)
            obtain ⟨a0, a1, a2⟩ := (MA.out w6 gr).cells
            go_wp2_with fail
            go_loopw [10, 22] (fun c10 i wr => ∃ (I : Nat), i = .int .i64 I ∧ c10 = .bool false ∧ Tr wr B A U V n cap m cap2 k cap3 z ∧ GrownP (TB A U V n cap m cap2 k cap3) w1 wr) (fun _ _ _ => 0)
            case atStart => exact ⟨t + 1, by first | rfl | simp, rfl, tr, gr⟩
            case round =>
              clear tr gr a0 a1 a2
              obtain ⟨I, rfl, rfl, tr, gr⟩ := hrel
              obtain ⟨a0, a1, a2⟩ := (MA.out wr gr).cells
              by_cases hlt : (I : Int) < (R : Int)
              · go_wp2_with fail
                go_ret
                exact ⟨z, false, rfl, HF, tr, GrownP.left G01.out gr⟩
              · go_wp2_with fail
                go_ret
                exact ⟨z, false, rfl, HF, tr, GrownP.left G01.out gr⟩
          | false =>
            have HFC := Lib.hid fun (hx : ∀ y, oB = some y → ndI C t y.1 (R - t - 1) = none) => (show RndO R C (smE R C t s) z true by rw [HE.out]; exact end_clean HZ.out HLF.out hx)
            have HFF := Lib.hid fun i (hx : ∀ y, oB = some y → ndI C t y.1 (R - t - 1) = some i) => (show RndO R C (smE R C t s) (addR3 R C t i 1 z) false by rw [HE.out]; exact end_found HZ.out HLF.out hx)
            have CO2 := Lib.hid fun I W (hI : I < R) tr => CO.out t I 1 z W htR hI (by decide) HZ.out.1 tr
            obtain ⟨a0, a1, a2⟩ := (MA.out w6 gr).cells
            go_wp2_with fail
            go_loopw [10, 22] (fun c10 i wr => ∃ (I : Nat) (cl : Bool) (z' : L3), i = .int .i64 I ∧ t + 1 ≤ I ∧ I ≤ R ∧ c10 = .bool cl ∧ RowKit.Hid ((cl = true → z' = z ∧ ∀ y, oB = some y → ndI C t y.1 (I - (t + 1)) = none) ∧ (cl = false → RndO R C (smE R C t s) z' false)) ∧ Tr wr B A U V n cap m cap2 k cap3 z' ∧ GrownP (TB A U V n cap m cap2 k cap3) w1 wr) (fun _ i _ => R - (intOf i).toNat)
            case atStart => exact ⟨t + 1, true, z, by first | rfl | simp, Nat.le_refl _, by omega, rfl, Lib.hid ⟨fun _ => ⟨rfl, fun y _ => by rw [Nat.sub_self]; rfl⟩, (fun h => by cases h)⟩, tr, gr⟩
            case round =>
              clear tr gr a0 a1 a2
              obtain ⟨I, cl, z', rfl, hI1, hI2, rfl, HR, tr, gr⟩ := hrel
              obtain ⟨wo, rfl⟩ : ∃ wo : World, wo = wr := ⟨_, rfl⟩
              obtain ⟨a0, a1, a2⟩ := (MA.out wo gr).cells
              cases cl with
              | false =>
                have HF : RowKit.Hid (RndO R C (smE R C t s) z' false) := Lib.hid (by first | exact HR.out.2 rfl | exact HR.out.2 trivial)
                by_cases hlt : (I : Int) < (R : Int)
                · go_wp2_with fail
                  go_ret
                  exact ⟨z', false, rfl, HF, tr, GrownP.left G01.out gr⟩
                · go_wp2_with fail
                  go_ret
                  exact ⟨z', false, rfl, HF, tr, GrownP.left G01.out gr⟩
              | true =>
                obtain ⟨hzz, hno⟩ := (by first | exact HR.out.1 rfl | exact HR.out.1 trivial : z' = z ∧ ∀ y, oB = some y → ndI C t y.1 (I - (t + 1)) = none)
                subst hzz
                have HNO := Lib.hid hno
                clear HR hno
                by_cases hltN : I < R
                · have hlt : (I : Int) < (R : Int) := by omega
                  go_wp2_with fail
                  go_loopw [10, 23] (fun c10 j wr => ∃ (J : Nat) (cl : Bool) (z2 : L3), j = .int .i64 J ∧ t + 1 ≤ J ∧ J ≤ C ∧ c10 = .bool cl ∧ RowKit.Hid ((cl = true → z2 = z' ∧ ∀ y, oB = some y → ndJ C t y.1 I (J - (t + 1)) = false) ∧ (cl = false → RndO R C (smE R C t s) z2 false)) ∧ Tr wr B A U V n cap m cap2 k cap3 z2 ∧ GrownP (TB A U V n cap m cap2 k cap3) w1 wr) (fun _ j _ => C - (intOf j).toNat)
                  case atStart => exact ⟨t + 1, true, z', by first | rfl | simp, Nat.le_refl _, by omega, rfl, Lib.hid ⟨fun _ => ⟨rfl, fun y _ => by rw [Nat.sub_self]; rfl⟩, (fun h => by cases h)⟩, tr, gr⟩
                  case round =>
                    clear tr gr a0 a1 a2
                    obtain ⟨J, cl, z2, rfl, hJ1, hJ2, rfl, HR, tr, gr⟩ := hrel
                    obtain ⟨a0, a1, a2⟩ := (MA.out wr gr).cells
                    cases cl with
                    | false =>
                      have HF : RowKit.Hid (RndO R C (smE R C t s) z2 false) := Lib.hid (by first | exact HR.out.2 rfl | exact HR.out.2 trivial)
                      by_cases hltj : (J : Int) < (C : Int)
                      · go_wp2_with fail
                        go_round
                        case rel => exact ⟨I + 1, false, z2, by go_num, by omega, by omega, rfl, Lib.hid ⟨(fun h => by cases h), fun _ => HF.out⟩, tr, gr⟩
                        case measure => simp [intOf]; omega
                      · go_wp2_with fail
                        go_round
                        case rel => exact ⟨I + 1, false, z2, by go_num, by omega, by omega, rfl, Lib.hid ⟨(fun h => by cases h), fun _ => HF.out⟩, tr, gr⟩
                        case measure => simp [intOf]; omega
                    | true =>
                      obtain ⟨hzz, hnj⟩ := (by first | exact HR.out.1 rfl | exact HR.out.1 trivial : z2 = z' ∧ ∀ y, oB = some y → ndJ C t y.1 I (J - (t + 1)) = false)
                      subst hzz
                      have HNJ := Lib.hid hnj
                      clear HR hnj
                      by_cases hltjN : J < C
                      · have hltj : (J : Int) < (C : Int) := by omega
                        have C2 := fun W h => CZ.out I J hltN hltjN W h
                        rw [castIdx] at C2
                        have HND := Lib.hid fun y (h : oB = some y) => (show ndJ C t y.1 I (J + 1 - (t + 1)) = decide (nth z2.1 (I * C + J) % p ≠ 0) by
                          obtain ⟨e1, _, e2⟩ := HPV.out y h
                          rw [ndJ_next hJ1 (HNJ.out y h), e1, e2])
                        by_cases hbd : nth z2.1 (I * C + J) = bad
                        · have HX := Lib.hid fun y (h : oB = some y) => (show ndJ C t y.1 I (J + 1 - (t + 1)) = false by
                            obtain ⟨e1, e2, _⟩ := HPV.out y h
                            have hnn := (allNum_iff _).1 e2.n1 (I * C + J) (by rw [e2.l1]; exact idx_lt hltN hltjN)
                            rw [hbd] at hnn
                            exact absurd hnn (by decide))
                          rw [hbd] at C2
                          have C2' := Lib.hid C2
                          clear C2 hbd HND
                          go_wp2_with fail
                          refine (C2'.out _ tr.oa.rd').mono ?_; rintro e w7 ⟨rfl, g7⟩
                          go_wp2_with fail
                          go_round
                          case rel => exact ⟨J + 1, true, z2, by go_num, by omega, by omega, rfl, Lib.hid ⟨fun _ => ⟨rfl, HX.out⟩, (fun h => by cases h)⟩, tr.grows g7, gr.right g7⟩
                          case measure => simp [intOf]; omega
                        · have hb' : (nth z2.1 (I * C + J) != bad) = true := by simpa using hbd
                          unfold bad at hb'
                          by_cases hmod : nth z2.1 (I * C + J) % p = 0
                          · have hm : (nth z2.1 (I * C + J)).tmod p = 0 := Int.tmod_eq_zero_of_dvd (Int.dvd_of_emod_eq_zero hmod)
                            have HX := Lib.hid fun y (h : oB = some y) => (show ndJ C t y.1 I (J + 1 - (t + 1)) = false by rw [HND.out y h, decide_eq_false (by simpa using hmod)])
                            have C2' := Lib.hid C2
                            clear C2 hbd hmod HND
                            generalize nth z2.1 (I * C + J) = x1 at *
                            go_wp2_with fail
                            refine (C2'.out _ tr.oa.rd').mono ?_; rintro e w7 ⟨rfl, g7⟩
                            replace tr := tr.grows g7
                            replace gr := gr.right g7
                            clear a0 a1 a2 g7
                            obtain ⟨a0, a1, a2⟩ := (MA.out w7 gr).cells
                            go_wp2_with fail
                            refine (C2'.out _ tr.oa.rd').mono ?_; rintro e w8 ⟨rfl, g8⟩
                            go_wp2_with fail
                            go_round
                            case rel => exact ⟨J + 1, true, z2, by go_num, by omega, by omega, rfl, Lib.hid ⟨fun _ => ⟨rfl, HX.out⟩, (fun h => by cases h)⟩, tr.grows g8, gr.right g8⟩
                            case measure => simp [intOf]; omega
                          · have hm : ((nth z2.1 (I * C + J)).tmod p != 0) = true := by rw [bne_iff_ne]; exact fun e => hmod (Int.emod_eq_zero_of_dvd (Int.dvd_of_tmod_eq_zero e))
                            have HX := Lib.hid fun y (h : oB = some y) => (show ndI C t y.1 (R - t - 1) = some I by
                              have h1 : ndJ C t y.1 I (C - t - 1) = true := ndJ_up (k := J + 1 - (t + 1)) (by rw [HND.out y h, decide_eq_true hmod]) (by omega)
                              have h2 := ndI_here (n := R - t - 1) (HNO.out y h) (by rw [show t + 1 + (I - (t + 1)) = I by omega]; exact h1) (by omega)
                              rwa [show t + 1 + (I - (t + 1)) = I by omega] at h2)
                            have HF := Lib.hid (HFF.out I HX.out)
                            have C2' := Lib.hid C2
                            clear C2 hbd hmod HND
                            generalize nth z2.1 (I * C + J) = x1 at *
                            go_wp2_with fail
                            refine (C2'.out _ tr.oa.rd').mono ?_; rintro e w7 ⟨rfl, g7⟩
                            replace tr := tr.grows g7
                            replace gr := gr.right g7
                            clear a0 a1 a2 g7
                            obtain ⟨a0, a1, a2⟩ := (MA.out w7 gr).cells
                            go_wp2_with fail
                            refine (C2'.out _ tr.oa.rd').mono ?_; rintro e w8 ⟨rfl, g8⟩
                            replace tr := tr.grows g8
                            replace gr := gr.right g8
                            clear a0 a1 a2 g8
                            obtain ⟨a0, a1, a2⟩ := (MA.out w8 gr).cells
                            obtain ⟨u0, u1, u2⟩ := (MU.out w8 gr).cells
                            go_wp2_with fail
                            refine (CO2.out I _ hltN tr).mono ?_; rintro e w9 ⟨rfl, tr9, g9⟩
                            replace gr := gr.trans g9
                            clear tr g9 a0 a1 a2 u0 u1 u2
                            go_wp2_with fail
                            go_round
                            case rel => exact ⟨J + 1, false, _, by go_num, by omega, by omega, rfl, Lib.hid ⟨(fun h => by cases h), fun _ => HF.out⟩, tr9, gr⟩
                            case measure => simp [intOf]; omega
                      · have hltj : ¬ (J : Int) < (C : Int) := by omega
                        have HX := Lib.hid fun y (h : oB = some y) => (show ndI C t y.1 (I + 1 - (t + 1)) = none by
                          rw [show I + 1 - (t + 1) = (I - (t + 1)) + 1 by omega]
                          refine ndI_next (HNO.out y h) ?_
                          rw [show t + 1 + (I - (t + 1)) = I by omega, show C - t - 1 = J - (t + 1) by omega]
                          exact HNJ.out y h)
                        go_wp2_with fail
                        go_round
                        case rel => exact ⟨I + 1, true, z2, by go_num, by omega, by omega, rfl, Lib.hid ⟨fun _ => ⟨rfl, HX.out⟩, (fun h => by cases h)⟩, tr, gr⟩
                        case measure => simp [intOf]; omega
                · have hlt : ¬ (I : Int) < (R : Int) := by omega
                  have HF := Lib.hid (HFC.out fun y h => by rw [show R - t - 1 = I - (t + 1) by omega]; exact HNO.out y h)
                  go_wp2_with fail
                  go_ret
                  exact ⟨z', true, rfl, HF, tr, GrownP.left G01.out gr⟩
end
end Go.Proofs.Ytpgoefdeodoacaa

/- Contract: all rounds of the Smith form, the reference's. -/
namespace Go.Proofs.Ytpgoefdeodoacaa
set_option linter.unusedSimpArgs false
set_option linter.unusedVariables false
open Go.RowKit

/-- what the rounds answer -/
def SmiS (R C B : Nat) (A U V : Option Addr) (n cap m cap2 k cap3 : Nat) (s0 : L3) (w : World) (e : Ending) (w' : World) : Prop := ∃ (o : Option L3) (x : L3), e = .returned (.bool o.isSome) ∧ RowKit.Hid (SmF R C 0 s0 o) ∧ RowKit.Hid (∀ y, o = some y → y = x) ∧ Tr w' B A U V n cap m cap2 k cap3 x ∧ GrownP (TB A U V n cap m cap2 k cap3) w w'
section
set_option maxHeartbeats 40000000
set_option maxRecDepth 100000
theorem l13Smith_c (R C : Nat) (A U V : Option Addr) (n cap m cap2 k cap3 B : Nat) (s0 : L3) (w : World) (hn : n = R * C) (hm : m = R * R) (hk : k = C * C) (hR : R ≤ 24) (hC : C ≤ 24) (ok : Ok3 R C s0) (tr : Tr w B A U V n cap m cap2 k cap3 s0) :
    Calls Try.prog 196 #[.agg #[.int .i64 R, .int .i64 C, .slice A n cap], .agg #[.int .i64 R, .int .i64 R, .slice U m cap2], .agg #[.int .i64 C, .int .i64 C, .slice V k cap3]] w (SmiS R C B A U V n cap m cap2 k cap3 s0 w) := by
  obtain ⟨w1, hw1, mbA1, mbU1, mbV1, g01⟩ := three_box w R C R R C C (.slice A n cap) (.slice U m cap2) (.slice V k cap3)
  have hlo := tr.lo
  have MA := Lib.hid fun wr (g : GrownP (TB A U V n cap m cap2 k cap3) w1 wr) => mbA1.farP g (fun h => by have := (hlo _ h).2; omega)
  have MU := Lib.hid fun wr (g : GrownP (TB A U V n cap m cap2 k cap3) w1 wr) => mbU1.farP g (fun h => by have := (hlo _ h).2; omega)
  have MV := Lib.hid fun wr (g : GrownP (TB A U V n cap m cap2 k cap3) w1 wr) => mbV1.farP g (fun h => by have := (hlo _ h).2; omega)
  have tr1 := tr.grows g01
  have HW1 := Lib.hid hw1
  have G01 := Lib.hid g01
  have OK0 := Lib.hid ok
  have hRC : R * C ≤ 576 := Nat.mul_le_mul hR hC
  have hRR : R * R ≤ 576 := Nat.mul_le_mul hR hR
  have hCC : C * C ≤ 576 := Nat.mul_le_mul hC hC
  have hIC : ∀ i, i < R → i * C ≤ 576 := fun i hi => by have := Nat.mul_le_mul_right C (Nat.le_of_lt hi); omega
  have CC := Lib.hid fun (z : L3) (mk : Mk3 R C z) (i J : Nat) (hi : i < R) (hJ : J < C) W h => l12Cell_c R C A z.1 n cap i J W (mk.l1.trans hn.symm) h (castMul i C) (by have := castMulLe (hIC i hi); omega) (castPos i C J) (castLt (by rw [mk.l1]; exact idx_lt hi hJ)) (by rw [mk.l1]; omega)
  have CL := Lib.hid fun T (y : L3) (h1 : T < R) (h2 : T < C) (ok : Ok3 R C y) W h => l13Least_c R C T A y.1 n cap W (ok.l1.trans hn.symm) hn hR hC (Nat.le_of_lt h1) (Nat.le_of_lt h2) (fun i hi => (allNum_iff _).1 ok.n1 i (by rw [ok.l1, ← hn]; exact hi)) h
  have CS := Lib.hid fun i j (z : L3) W (hi : i < R) (hj : j < R) (hij : i ≠ j) (mk : Mk3 R C z) (tr : Tr W B A U V n cap m cap2 k cap3 z) => opSwp3_c hn hm hR hC hi hj hij mk tr
  have CN := Lib.hid fun i (z : L3) W (hi : i < R) (mk : Mk3 R C z) (tr : Tr W B A U V n cap m cap2 k cap3 z) => opNeg3_c hn hm hR hC hi mk tr
  have CA := Lib.hid fun i j (z : L3) W (hi : i < C) (hj : j < C) (hij : i ≠ j) (mk : Mk3 R C z) (tr : Tr W B A U V n cap m cap2 k cap3 z) => colSwpA_c hn hR hC hi hj hij (mk.l1.trans hn.symm) tr
  have CV := Lib.hid fun i j (z : L3) W (hi : i < C) (hj : j < C) (hij : i ≠ j) (h3 : z.2.2.length = C * C) (tr : Tr W B A U V n cap m cap2 k cap3 z) => colSwpV_c hk hC hi hj hij (h3.trans hk.symm) tr
  have CR := Lib.hid fun T (z : L3) W (ok : Ok3 R C z) (h1 : T < R) (h2 : T < C) (hne : nth z.1 (T * C + T) ≠ 0) (tr : Tr W B A U V n cap m cap2 k cap3 z) => l13Round_c R C T A U V n cap m cap2 k cap3 B z W hn hm hk hR hC ok h1 h2 hne tr
  have B1 := Lib.hid fun (z : L3) (mk : Mk3 R C z) W h => l1Bads_c A z.1 n cap W (mk.l1.trans hn.symm) h (by omega)
  have B2 := Lib.hid fun (z : L3) (mk : Mk3 R C z) W h => l1Bads_c U z.2.1 m cap2 W (mk.l2.trans hm.symm) h (by omega)
  have B3 := Lib.hid fun (z : L3) (mk : Mk3 R C z) W h => l1Bads_c V z.2.2 k cap3 W (mk.l3.trans hk.symm) h (by omega)
  obtain ⟨M, hMR, hMC, hM2⟩ : ∃ M : Nat, M ≤ R ∧ M ≤ C ∧ (M = R ∨ M = C) := ⟨min R C, by omega, by omega, by omega⟩
  have HMC := Lib.hid fun (T : Nat) (h : T < M) => (⟨by omega, by omega⟩ : T < R ∧ T < C)
  have HMN := Lib.hid fun (T : Nat) (h : ¬ T < M) => (fun h2 => by omega : ¬ (T < R ∧ T < C))
  clear hw1 hn hm hk hlo mbA1 mbU1 mbV1 hIC hRC hRR hCC tr ok g01 hM2
  go_enter Try.func196, Try.ntmps196
  go_wp2_with fail
  rw [← HW1.out]
  go_loopw [7] (fun tv wr => ∃ (T : Nat) (s : L3), tv = .int .i64 T ∧ T ≤ M ∧ RowKit.Hid (Ok3 R C s ∧ ∀ r, SmF R C T s r → SmF R C 0 s0 r) ∧ Tr wr B A U V n cap m cap2 k cap3 s ∧ GrownP (TB A U V n cap m cap2 k cap3) w1 wr) (fun tv _ => M - (intOf tv).toNat)
  case atStart => exact ⟨0, s0, rfl, Nat.zero_le _, Lib.hid ⟨OK0.out, fun r h => h⟩, tr1, GrownP.refl _⟩
  case round =>
    clear tr1
    obtain ⟨T, s, rfl, hT, HF, tr, gr⟩ := hrel
    obtain ⟨wh, rfl⟩ : ∃ wo : World, wo = wr := ⟨_, rfl⟩
    by_cases hCR : C < R
    all_goals (
      obtain ⟨a0, a1, a2⟩ := (MA.out wh gr).cells
      by_cases hlt : T < M
      · have hlt' : (T : Int) < (M : Int) := by omega
        obtain ⟨hTR, hTC⟩ := HMC.out T hlt
        have hTR' : (T : Int) < (R : Int) := by omega
        have hTC' : (T : Int) < (C : Int) := by omega
        have OKS := Lib.hid HF.out.1
        have HGO := Lib.hid HF.out.2
        clear HF
        go_wp2_with fail
        go_loopg [8] (smu R C T s.1 + 2) (fun gk d wr => ∃ (dn : Bool) (y : L3), d = .bool dn ∧ RowKit.Hid (Ok3 R C y ∧ (dn = false → (∀ r, SmT R C T y r → SmT R C T s r) ∧ (y = s ∨ (lst R C T s.1 ≠ none ∧ lst R C T y.1 ≠ none)) ∧ smu R C T y.1 + 2 ≤ gk) ∧ (dn = true → lst R C T s.1 ≠ none ∧ SmT R C T s (some (ngv R C T y)))) ∧ Tr wr B A U V n cap m cap2 k cap3 y ∧ GrownP (TB A U V n cap m cap2 k cap3) w1 wr)
        case atStart => exact ⟨false, s, rfl, Lib.hid ⟨OKS.out, fun _ => ⟨fun r h => h, .inl rfl, Nat.le_refl _⟩, (fun h => by cases h)⟩, tr, gr⟩
        case round =>
          clear tr gr a0 a1 a2
          obtain ⟨dn, y, rfl, HY, tr, gr⟩ := hrel
          obtain ⟨a0, a1, a2⟩ := (MA.out wr gr).cells
          obtain ⟨u0, u1, u2⟩ := (MU.out wr gr).cells
          obtain ⟨v0, v1, v2⟩ := (MV.out wr gr).cells
          have OKY := Lib.hid HY.out.1
          cases dn with
          | true =>
            have hd : lst R C T s.1 ≠ none ∧ SmT R C T s (some (ngv R C T y)) := by first | exact HY.out.2.2 rfl | exact HY.out.2.2 trivial
            have HD := Lib.hid hd
            have C2 := fun W h => CC.out y OKY.out.mk3 T T hTR hTC W h
            rw [castIdx] at C2
            have HSX := Lib.hid fun r h => HGO.out r (SmF.step hTR hTC HD.out.1 HD.out.2 h)
            have HNX := Lib.hid (show Ok3 R C (ngv R C T y) from ngv_ok OKY.out hTR)
            clear hd HY
            by_cases hneg : nth y.1 (T * C + T) < 0
            · have HX := Lib.hid (show ngv R C T y = negR3 R C T y by unfold ngv; rw [if_pos hneg])
              have CN1 := Lib.hid fun W tr => CN.out T y W hTR OKY.out.mk3 tr
              generalize nth y.1 (T * C + T) = x1 at *
              have C2' := Lib.hid C2
              clear C2
              go_wp2_with fail
              refine (C2'.out _ tr.oa.rd').mono ?_; rintro e w5 ⟨rfl, g5⟩
              replace tr := tr.grows g5
              replace gr := gr.right g5
              clear a0 a1 a2 u0 u1 u2 v0 v1 v2 g5
              obtain ⟨a0, a1, a2⟩ := (MA.out w5 gr).cells
              obtain ⟨u0, u1, u2⟩ := (MU.out w5 gr).cells
              go_wp2_with fail
              refine (CN1.out _ tr).mono ?_; rintro e w6 ⟨rfl, tr6, g6⟩
              replace gr := gr.trans g6
              clear tr g6 a0 a1 a2 u0 u1 u2
              go_wp2_with fail
              go_round
              case rel => exact ⟨T + 1, ngv R C T y, by go_num, by omega, Lib.hid ⟨HNX.out, HSX.out⟩, by rw [HX.out]; exact tr6, gr⟩
              case measure => simp [intOf]; omega
            · have HX := Lib.hid (show ngv R C T y = y by unfold ngv; rw [if_neg hneg])
              generalize nth y.1 (T * C + T) = x1 at *
              have C2' := Lib.hid C2
              clear C2
              go_wp2_with fail
              refine (C2'.out _ tr.oa.rd').mono ?_; rintro e w5 ⟨rfl, g5⟩
              go_wp2_with fail
              go_round
              case rel => exact ⟨T + 1, ngv R C T y, by go_num, by omega, Lib.hid ⟨HNX.out, HSX.out⟩, by rw [HX.out]; exact tr.grows g5, gr.right g5⟩
              case measure => simp [intOf]; omega
          | false =>
            have hd : (∀ r, SmT R C T y r → SmT R C T s r) ∧ (y = s ∨ (lst R C T s.1 ≠ none ∧ lst R C T y.1 ≠ none)) ∧ smu R C T y.1 + 2 ≤ gk := by first | exact HY.out.2.1 rfl | exact HY.out.2.1 trivial
            obtain ⟨hgo, hys, hmu⟩ := hd
            have HYG := Lib.hid hgo
            have HYS := Lib.hid hys
            have C1 := fun W h => CL.out T y hTR hTC OKY.out W h
            clear hgo hys HY
            cases hq : lst R C T y.1 with
            | none =>
              rw [hq] at C1
              have C1' := Lib.hid C1
              obtain rfl : y = s := by rcases HYS.out with h | h; exact h; exact absurd hq h.2
              have HX := Lib.hid (HGO.out _ (SmF.stop (.inr hq)))
              clear C1 hq
              go_wp2_with fail
              refine (C1'.out _ tr.oa.rd').mono ?_; rintro e w5 ⟨rfl, g5⟩
              go_wp2_with fail
              go_ret
              exact ⟨some y, y, rfl, HX, Lib.hid (fun y h => by cases h; rfl), tr.grows g5, GrownP.left G01.out (gr.right g5)⟩
            | some q =>
              obtain ⟨q1, q2⟩ := q
              rw [hq] at C1
              obtain ⟨⟨hq1, hq2, hq3, hq4⟩, hqn, _⟩ := (lst_LI R C T y.1).yes _ hq
              simp only at hq1 hq2 hq3 hq4 hqn
              have e1 : encR (some (q1, q2)) = (q1 : Int) := rfl
              have e2 : encC (some (q1, q2)) = (q2 : Int) := rfl
              rw [e1, e2] at C1
              have C1' := Lib.hid C1
              have HQ := Lib.hid hq
              have okr := Lib.hid (pivR_ok (q := (q1, q2)) OKY.out hTR hq2)
              have okp := Lib.hid (piv_ok (q := (q1, q2)) OKY.out hTR hTC hq2 hq4)
              have HPN := Lib.hid (show nth (piv R C T (q1, q2) y).1 (T * C + T) ≠ 0 by rw [piv_cell hTR hTC hq2 hq4]; exact hqn)
              have HSN := Lib.hid (show lst R C T s.1 ≠ none by
                rcases HYS.out with h | h
                · rw [← h, hq]; simp
                · exact h.1)
              clear C1 e1 e2 hq hqn
              obtain ⟨D1, hD1⟩ : ∃ x, x = ((q1 : Int) != (T : Int)) := ⟨_, rfl⟩
              obtain ⟨D2, hD2⟩ : ∃ x, x = ((q2 : Int) != (T : Int)) := ⟨_, rfl⟩
              have HD1 := Lib.hid hD1
              have HD2 := Lib.hid hD2
              clear hD1 hD2
              go_wp2_with fail
              refine (C1'.out _ tr.oa.rd').mono ?_; rintro e w5 ⟨rfl, g5⟩
              replace tr := tr.grows g5
              replace gr := gr.right g5
              clear a0 a1 a2 u0 u1 u2 v0 v1 v2 g5
              obtain ⟨a0, a1, a2⟩ := (MA.out w5 gr).cells
              obtain ⟨u0, u1, u2⟩ := (MU.out w5 gr).cells
              go_upto_if 32 with fail
              rw [← HD1.out]
              go_cut [] (fun wx => Tr wx B A U V n cap m cap2 k cap3 (pivR R C T (q1, q2) y) ∧ GrownP (TB A U V n cap m cap2 k cap3) w1 wx)
              case first =>
                cases hd : D1
                · have e : q1 = T := by have h := HD1.out; rw [hd] at h; have h2 := h.symm; simp at h2; omega
                  have HEP := Lib.hid (show pivR R C T (q1, q2) y = y by unfold pivR; rw [if_pos e])
                  clear e
                  go_wp2_with fail
                  go_meet
                  exact ⟨by rw [HEP.out]; exact tr, gr⟩
                · have e : ¬ q1 = T := by have h := HD1.out; rw [hd] at h; have h2 := h.symm; simp at h2; omega
                  have HEP := Lib.hid (show pivR R C T (q1, q2) y = swpR3 R C q1 T y by unfold pivR; rw [if_neg e])
                  have CS1 := Lib.hid fun W tr => CS.out q1 T y W hq2 hTR e OKY.out.mk3 tr
                  clear e
                  go_wp2_with fail
                  refine (CS1.out _ tr).mono ?_; rintro e w6 ⟨rfl, tr6, g6⟩
                  go_wp2_with fail
                  go_meet
                  exact ⟨by rw [HEP.out]; exact tr6, gr.trans g6⟩
              case rest =>
                clear tr gr a0 a1 a2 u0 u1 u2
                obtain ⟨tr, gr⟩ := hcut
                obtain ⟨w6, rfl⟩ : ∃ x : World, x = wc := ⟨_, rfl⟩
                obtain ⟨a0, a1, a2⟩ := (MA.out w6 gr).cells
                obtain ⟨v0, v1, v2⟩ := (MV.out w6 gr).cells
                go_upto_if 41 with fail
                rw [← HD2.out]
                go_cut [] (fun wx => Tr wx B A U V n cap m cap2 k cap3 (piv R C T (q1, q2) y) ∧ GrownP (TB A U V n cap m cap2 k cap3) w1 wx)
                case first =>
                  cases hd : D2
                  · have e : q2 = T := by have h := HD2.out; rw [hd] at h; have h2 := h.symm; simp at h2; omega
                    have HEP := Lib.hid (show piv R C T (q1, q2) y = pivR R C T (q1, q2) y by rw [piv_eq, if_pos e])
                    clear e
                    go_wp2_with fail
                    go_meet
                    exact ⟨by rw [HEP.out]; exact tr, gr⟩
                  · have e : ¬ q2 = T := by have h := HD2.out; rw [hd] at h; have h2 := h.symm; simp at h2; omega
                    have HEP := Lib.hid (show piv R C T (q1, q2) y = swpC3 R C q2 T (pivR R C T (q1, q2) y) by rw [piv_eq, if_neg e])
                    have CA1 := Lib.hid fun W tr => CA.out q2 T (pivR R C T (q1, q2) y) W hq4 hTC e okr.out.mk3 tr
                    have CV1 := Lib.hid fun a u W tr => CV.out q2 T (a, u, (pivR R C T (q1, q2) y).2.2) W hq4 hTC e okr.out.l3 tr
                    clear e
                    go_wp2_with fail
                    refine (CA1.out _ tr).mono ?_; rintro e w7 ⟨rfl, tr7, g7⟩
                    replace gr := gr.trans g7
                    clear g7 tr a0 a1 a2 v0 v1 v2
                    obtain ⟨v0, v1, v2⟩ := (MV.out w7 gr).cells
                    go_wp2_with fail
                    refine (CV1.out _ _ _ tr7).mono ?_; rintro e w8 ⟨rfl, tr8, g8⟩
                    go_wp2_with fail
                    go_meet
                    exact ⟨by rw [HEP.out]; exact tr8, gr.trans g8⟩
                case rest =>
                  clear tr gr a0 a1 a2 v0 v1 v2
                  obtain ⟨tr, gr⟩ := hcut
                  obtain ⟨w7, rfl⟩ : ∃ x : World, x = wc := ⟨_, rfl⟩
                  obtain ⟨a0, a1, a2⟩ := (MA.out w7 gr).cells
                  obtain ⟨u0, u1, u2⟩ := (MU.out w7 gr).cells
                  obtain ⟨v0, v1, v2⟩ := (MV.out w7 gr).cells
                  have CR1 := Lib.hid fun W tr => CR.out T (piv R C T (q1, q2) y) W okp.out hTR hTC HPN.out tr
                  rw [← smRound_eq HQ.out] at CR1
                  obtain ⟨o2, ho2⟩ : ∃ o2, o2 = smRound R C T y := ⟨_, rfl⟩
                  rw [← ho2] at CR1
                  have HO2 := Lib.hid ho2
                  clear ho2
                  go_wp2_with fail
                  refine (CR1.out _ tr).mono ?_; rintro e w8 ⟨x, b, rfl, HO, tr8, g8⟩
                  replace gr := gr.trans g8
                  clear g8 tr a0 a1 a2 u0 u1 u2 v0 v1 v2
                  obtain ⟨a0, a1, a2⟩ := (MA.out w8 gr).cells
                  obtain ⟨u0, u1, u2⟩ := (MU.out w8 gr).cells
                  obtain ⟨v0, v1, v2⟩ := (MV.out w8 gr).cells
                  have hbad := anyBad_three HO.out.1
                  have X1 := fun W h => B1.out x HO.out.1.1 W h
                  have X2 := fun W h => B2.out x HO.out.1.1 W h
                  have X3 := fun W h => B3.out x HO.out.1.1 W h
                  cases o2 with
                  | none =>
                    have HX := Lib.hid (HGO.out _ (SmF.bad hTR hTC HSN.out (HYG.out _ (SmT.bad HO2.out.symm))))
                    simp only [Option.map_none, Option.isSome_none, Bool.not_false] at hbad
                    cases hb1 : anyBad x.1 with
                    | true =>
                      rw [hb1] at X1
                      have X1' := Lib.hid X1
                      clear X1 X2 X3 hbad hb1
                      go_wp2_with fail
                      refine (X1'.out _ (tr8.oa.rd')).mono ?_; rintro e w9 ⟨rfl, rfl⟩
                      go_wp2_with fail
                      go_ret
                      exact ⟨none, x, rfl, HX, Lib.hid (fun y h => by cases h), tr8, GrownP.left G01.out gr⟩
                    | false =>
                      rw [hb1] at X1 hbad
                      rw [Bool.false_or] at hbad
                      cases hb2 : anyBad x.2.1 with
                      | true =>
                        rw [hb2] at X2
                        have X1' := Lib.hid X1
                        have X2' := Lib.hid X2
                        clear X1 X2 X3 hbad hb1 hb2
                        go_wp2_with fail
                        refine (X1'.out _ (tr8.oa.rd')).mono ?_; rintro e w9 ⟨rfl, rfl⟩
                        go_wp2_with fail
                        refine (X2'.out _ (tr8.ou.rd')).mono ?_; rintro e w9 ⟨rfl, rfl⟩
                        go_wp2_with fail
                        go_ret
                        exact ⟨none, x, rfl, HX, Lib.hid (fun y h => by cases h), tr8, GrownP.left G01.out gr⟩
                      | false =>
                        rw [hb2] at X2 hbad
                        rw [Bool.false_or] at hbad
                        rw [hbad] at X3
                        have X1' := Lib.hid X1
                        have X2' := Lib.hid X2
                        have X3' := Lib.hid X3
                        clear X1 X2 X3 hbad hb1 hb2
                        go_wp2_with fail
                        refine (X1'.out _ (tr8.oa.rd')).mono ?_; rintro e w9 ⟨rfl, rfl⟩
                        go_wp2_with fail
                        refine (X2'.out _ (tr8.ou.rd')).mono ?_; rintro e w9 ⟨rfl, rfl⟩
                        go_wp2_with fail
                        refine (X3'.out _ (tr8.ov.rd')).mono ?_; rintro e w9 ⟨rfl, rfl⟩
                        go_wp2_with fail
                        go_ret
                        exact ⟨none, x, rfl, HX, Lib.hid (fun y h => by cases h), tr8, GrownP.left G01.out gr⟩
                  | some zk =>
                    obtain ⟨z, kq⟩ := zk
                    obtain ⟨hz1, _⟩ := Stands3.some_eq HO.out.1
                    obtain rfl : x = z := hz1
                    obtain rfl : b = !kq := HO.out.2 _ _ rfl
                    simp only [Option.map_some, Option.isSome_some, Bool.not_true, Bool.or_eq_false_iff] at hbad
                    rw [hbad.1] at X1
                    rw [hbad.2.1] at X2
                    rw [hbad.2.2] at X3
                    have X1' := Lib.hid X1
                    have X2' := Lib.hid X2
                    have X3' := Lib.hid X3
                    clear X1 X2 X3 hbad HO
                    go_wp2_with fail
                    refine (X1'.out _ (tr8.oa.rd')).mono ?_; rintro e w9 ⟨rfl, rfl⟩
                    go_wp2_with fail
                    refine (X2'.out _ (tr8.ou.rd')).mono ?_; rintro e w9 ⟨rfl, rfl⟩
                    go_wp2_with fail
                    refine (X3'.out _ (tr8.ov.rd')).mono ?_; rintro e w9 ⟨rfl, rfl⟩
                    go_wp2_with fail
                    cases kq with
                    | true =>
                      obtain ⟨okz, hqz, hmz⟩ := round_again OKY.out hTR hTC HO2.out.symm
                      go_roundg (smu R C T x.1 + 2)
                      case measure => omega
                      case rel => exact ⟨false, x, rfl, Lib.hid ⟨okz, fun _ => ⟨fun r h => HYG.out r (SmT.again HO2.out.symm h), (by obtain ⟨q, hq⟩ := hqz; exact .inr ⟨HSN.out, by rw [hq]; simp⟩), Nat.le_refl _⟩, (fun h => by cases h)⟩, tr8, gr⟩
                    | false =>
                      have okz := round_done OKY.out hTR hTC HO2.out.symm
                      go_roundg 0
                      case measure => omega
                      case rel => exact ⟨true, x, rfl, Lib.hid ⟨okz, (fun h => by cases h), fun _ => ⟨HSN.out, HYG.out _ (SmT.done HO2.out.symm)⟩⟩, tr8, gr⟩
      · have HX := Lib.hid (HF.out.2 _ (SmF.stop (.inl (HMN.out T hlt))))
        have hmn : ¬ (T < R ∧ T < C) := HMN.out T hlt
        have hE : (C < R → ¬ (T : Int) < (C : Int)) ∧ (¬ C < R → ¬ (T : Int) < (R : Int)) := ⟨fun h => by omega, fun h => by omega⟩
        first | have hx := hE.1 hCR | have hx := hE.2 hCR
        clear hE hmn
        go_wp2_with fail
        go_ret
        exact ⟨some s, s, rfl, HX, Lib.hid (fun y h => by cases h; rfl), tr, GrownP.left G01.out gr⟩)
end
end Go.Proofs.Ytpgoefdeodoacaa

/- Contract: the Smith form, the reference's. -/
namespace Go.Proofs.Ytpgoefdeodoacaa
set_option linter.unusedSimpArgs false
set_option linter.unusedVariables false
open Go.RowKit

theorem three_boxes2 {W : World} {b b' b2 : Nat} {r c r' c' r2 c2 : Int} {v v' v2 : Value} (h : MBox W b r c v) (h' : MBox W b' r' c' v') (h2 : MBox W b2 r2 c2 v2) :
    W.cell? ⟨b, 0, none⟩ = some (.int .i64 r) ∧ W.cell? ⟨b, 1, none⟩ = some (.int .i64 c) ∧ W.cell? ⟨b, 2, none⟩ = some v ∧
    W.cell? ⟨b', 0, none⟩ = some (.int .i64 r') ∧ W.cell? ⟨b', 1, none⟩ = some (.int .i64 c') ∧ W.cell? ⟨b', 2, none⟩ = some v' ∧
    W.cell? ⟨b2, 0, none⟩ = some (.int .i64 r2) ∧ W.cell? ⟨b2, 1, none⟩ = some (.int .i64 c2) ∧ W.cell? ⟨b2, 2, none⟩ = some v2 := ⟨h.c0, h.c1, h.c2, h'.c0, h'.c1, h'.c2, h2.c0, h2.c1, h2.c2⟩
section
set_option maxHeartbeats 40000000
set_option maxRecDepth 100000
theorem sSmith_c (r c : Int) (A : Option Addr) (l : List Int) (n cap : Nat) (w : World) (hn : l.length = n) (ha : Rd w A l) (hl : n ≤ 1099511627776) :
    Calls Try.prog 142 #[.agg #[.int .i64 r, .int .i64 c, .slice A n cap]] w (SmRet (smD ⟨r, c, l⟩) w) := by
  have HS := fun w h => sIsMatrix_c r c A l n cap w hn h hl
  obtain ⟨w1, hw1, mg, m2, m3, m4, hs1, g01⟩ := four_mats w r c (.slice A n cap)
  have HW1 := Lib.hid hw1
  have HS1 := Lib.hid hs1
  have ha1 : Rd w1 A l := ha.grows g01
  clear hw1 hs1
  obtain ⟨RES, hRES⟩ : ∃ x, x = smD ⟨r, c, l⟩ := ⟨_, rfl⟩
  rw [← hRES]
  cases hq : isMat r c l
  · rw [smD_no (m := ⟨r, c, l⟩) hq] at hRES
    rw [hq] at HS
    have HS' := Lib.hid HS
    subst hRES
    clear HS hq hn
    go_enter Try.func142, Try.ntmps142
    go_wp2_with fail
    refine (HS'.out _ (by exact (Rd.grows ha (by exact bel0)))).mono ?_; rintro e w2 ⟨rfl, g2⟩
    rw [← HW1.out] at g2
    (have z2 := m2.grows (w' := w2) (by exact bel1 g2); have z3 := m3.grows (w' := w2) (by exact bel1 g2); have z4 := m4.grows (w' := w2) (by exact bel1 g2); obtain ⟨zr0, zr1, zr2⟩ := z2.cells; have zrf := z2.fz; have zrl := z2.lt; obtain ⟨yr0, yr1, yr2⟩ := z3.cells; have yrf := z3.fz; have yrl := z3.lt; obtain ⟨xr0, xr1, xr2⟩ := z4.cells; have xrf := z4.fz; have xrl := z4.lt; go_wp2_with fail; refine bodyPost_ret (v := .tuple #[.agg #[.int .i64 0, .int .i64 0, .slice none 0 0], .agg #[.int .i64 0, .int .i64 0, .slice none 0 0], .agg #[.int .i64 0, .int .i64 0, .slice none 0 0], .bool false]) ?_ rfl ?_; (simp [results, Try.results142, go_sem, zr0, zr1, zr2, zrf, zrl, yr0, yr1, yr2, yrf, yrl, xr0, xr1, xr2, xrf, xrl]); exact ⟨_, 0, 0, none, 0, 0, 0, 0, none, 0, 0, rfl, Own.nil _ _, by exact bel2 g2 g01⟩)
  · rw [hq] at HS
    have HS' := Lib.hid HS
    obtain ⟨R, C, rfl, rfl, hR, hC, hlen, hnum⟩ := isMat_nat hq
    rw [smD_nat hq] at hRES
    have HR := Lib.hid hRES
    have ok : Ok3 R C (l, idL R, idL C) := ⟨hlen, idL_length R, idL_length C, (allNum_iff _).2 hnum, idL_num R, idL_num C⟩
    have CP := Lib.hid fun W h => copyS_c R C A l n cap W hn h hl
    have CI := Lib.hid fun W => sIdent_c R W hR
    have CJ := Lib.hid fun W => sIdent_c C W hC
    have HLEN := Lib.hid hlen
    have HOK := Lib.hid ok
    clear HS hq hRES ok hlen hnum hn
    go_enter Try.func142, Try.ntmps142
    go_wp2_with fail
    refine (HS'.out _ (by exact (Rd.grows ha (by exact bel0)))).mono ?_; rintro e w2 ⟨rfl, g2⟩
    rw [← HW1.out] at g2
    obtain ⟨b0, b1, b2⟩ := (mg.grows g2).cells
    go_wp2_with fail
    refine (CP.out _ (by exact (Rd.grows ha1 (by exact bel1 g2)))).mono ?_; rintro e w3 hop; obtain ⟨v3, rfl, o3, g3⟩ := mat1_out hop; clear hop
    obtain ⟨A3, c3, rfl, _, _⟩ := o3.val
    simp only at o3 ⊢
    rw [HLEN.out] at o3 ⊢
    clear b0 b1 b2
    have g13 : Grows w1 w3 := by exact bel2 g3 g2
    obtain ⟨b0, b1, b2⟩ := (mg.grows g13).cells
    have bl := (mg.grows g13).lt
    have hs2 := Below.size g2
    have hs3 := Below.size g3
    go_wp2_with fail
    refine (CI.out _).mono ?_; rintro e w4 ⟨v4, rfl, o4, g4⟩
    obtain ⟨U, cu, rfl, _, _⟩ := o4.val
    rw [idL_length] at o4 ⊢
    clear b0 b1 b2 bl
    have hs4 := Below.size g4
    simp at hs4
    have g14 : Grows w1 w4 := by exact bel2 g4 g13
    obtain ⟨b0, b1, b2⟩ := (mg.grows g14).cells
    have bl := (mg.grows g14).lt
    have m5 : MBox w4 w3.heap.size R C (.slice A3 (R * C) c3) := (MBox.mk_ w3 R C (.slice A3 (R * C) c3) 28).grows g4
    have o4' : Own w4 (w3.heap.size + 1) (.slice U (R * R) cu) (idL R) := by have := o4; simpa using this
    go_wp2_with fail
    refine (CJ.out _).mono ?_; rintro e w5 ⟨v5, rfl, o5, g5⟩
    obtain ⟨V, cv, rfl, _, _⟩ := o5.val
    rw [idL_length] at o5 ⊢
    clear b0 b1 b2 bl
    have hs5 := Below.size g5
    simp at hs5
    have o5' : Own w5 (w4.heap.size + 1) (.slice V (C * C) cv) (idL C) := by have := o5; simpa using this
    have g45 : Grows w4 w5 := by exact bel1 g5
    have m6 : MBox w5 w4.heap.size R R (.slice U (R * R) cu) := (MBox.mk_ w4 R R (.slice U (R * R) cu) 28).grows g5
    have m5a := m5.grows g45
    obtain ⟨w6, hw6⟩ : ∃ w6, w6 = w5.alloc (.cells #[.int .i64 C, .int .i64 C, .slice V (C * C) cv] 28) := ⟨_, rfl⟩
    have HW6 := Lib.hid hw6
    have g56 : Grows w5 w6 := by rw [hw6]; exact bel0
    have n5 : MBox w6 w3.heap.size R C (.slice A3 (R * C) c3) := m5a.grows g56
    have n6 : MBox w6 w4.heap.size R R (.slice U (R * R) cu) := m6.grows g56
    have n7 : MBox w6 w5.heap.size C C (.slice V (C * C) cv) := by rw [hw6]; exact MBox.mk_ _ _ _ _ _
    have g16 : Grows w1 w6 := by exact bel3 g56 g45 g14
    have hA : ∀ g, (Value.slice A3 (R * C) c3).ownBlock = some g → w2.heap.size ≤ g ∧ g < w3.heap.size := fun g h => World.ownsRow.lt o3 g h
    have hU : ∀ g, (Value.slice U (R * R) cu).ownBlock = some g → w3.heap.size + 1 ≤ g ∧ g < w4.heap.size := fun g h => World.ownsRow.lt o4' g h
    have hV : ∀ g, (Value.slice V (C * C) cv).ownBlock = some g → w4.heap.size + 1 ≤ g ∧ g < w5.heap.size := fun g h => World.ownsRow.lt o5' g h
    have oA6 : Own w6 w1.heap.size (.slice A3 (R * C) c3) l := ((o3.grows (w' := w4) (by exact bel1 g4)).grows (w' := w6) (by exact bel2 g56 g45)).less (by omega)
    have oU6 : Own w6 w1.heap.size (.slice U (R * R) cu) (idL R) := (o4'.grows (w' := w6) (by exact bel2 g56 g45)).less (by omega)
    have oV6 : Own w6 w1.heap.size (.slice V (C * C) cv) (idL C) := (o5'.grows g56).less (by omega)
    have tr6 : Tr w6 w1.heap.size A3 U V (R * C) c3 (R * R) cu (C * C) cv (l, idL R, idL C) := ⟨oA6, oU6, oV6, fun g h h2 => by have := hA g h; have := hU g h2; omega, fun g h h2 => by have := hA g h; have := hV g h2; omega, fun g h h2 => by have := hU g h; have := hV g h2; omega⟩
    have CH := Lib.hid (l13Smith_c R C A3 U V (R * C) c3 (R * R) cu (C * C) cv w1.heap.size (l, idL R, idL C) w6 rfl rfl rfl hR hC HOK.out tr6)
    have NTB := Lib.hid fun b (hb : b = w3.heap.size ∨ b = w4.heap.size ∨ b = w5.heap.size) (h : TB A3 U V (R * C) c3 (R * R) cu (C * C) cv b) => (by
      rcases h with h | h | h
      · have := hA b h; omega
      · have := hU b h; omega
      · have := hV b h; omega : False)
    have LTB := Lib.hid fun g (h : TB A3 U V (R * C) c3 (R * R) cu (C * C) cv g) => (by
      rcases h with h | h | h
      · have := hA g h; omega
      · have := hU g h; omega
      · have := hV g h; omega : w1.heap.size ≤ g)
    obtain ⟨b0, b1, b2⟩ := m5a.cells
    have bl := m5a.lt
    obtain ⟨d0, d1, d2⟩ := m6.cells
    have dl := m6.lt
    clear hw6 m5 o3 o4 o4' o5 o5' hA hU hV tr6 oA6 oU6 oV6
    go_wp2_with fail
    rw [← HW6.out]
    refine CH.out.mono ?_; rintro e w7 ⟨o, x, rfl, HF, HX, tr7, g7⟩
    clear b0 b1 b2 bl d0 d1 d2 dl
    have mt5 := n5.farP g7 (NTB.out _ (.inl rfl))
    have mt6 := n6.farP g7 (NTB.out _ (.inr (.inl rfl)))
    have mt7 := n7.farP g7 (NTB.out _ (.inr (.inr rfl)))
    have b17 : Below w1.heap.size w6 w7 := g7.below (Below.size g16) LTB.out
    have g17 : Grows w1 w7 := Below.trans g16 b17
    have z2 := m2.grows g17; have z3 := m3.grows g17; have z4 := m4.grows g17
    obtain ⟨zr0, zr1, zr2⟩ := z2.cells; have zrf := z2.fz; have zrl := z2.lt
    obtain ⟨yr0, yr1, yr2⟩ := z3.cells; have yrf := z3.fz; have yrl := z3.lt
    obtain ⟨xr0, xr1, xr2⟩ := z4.cells; have xrf := z4.fz; have xrl := z4.lt
    cases o with
    | none =>
      obtain rfl : RES = none := by rw [HR.out, smF_eq HF.out]; rfl
      go_wp2_with fail
      refine bodyPost_ret (v := .tuple #[.agg #[.int .i64 0, .int .i64 0, .slice none 0 0], .agg #[.int .i64 0, .int .i64 0, .slice none 0 0], .agg #[.int .i64 0, .int .i64 0, .slice none 0 0], .bool false]) ?_ rfl ?_
      · simp [results, Try.results142, go_sem, zr0, zr1, zr2, zrf, zrl, yr0, yr1, yr2, yrf, yrl, xr0, xr1, xr2, xrf, xrl]
      · exact ⟨_, 0, 0, none, 0, 0, 0, 0, none, 0, 0, rfl, Own.nil _ _, by exact bel2 g17 g01⟩
    | some y =>
      have hxy := HX.out y rfl
      obtain rfl : RES = some ⟨R, C, y.1⟩ := by rw [HR.out, smF_eq HF.out]; rfl
      have hs1 := HS1.out
      have hs7 := g7.size
      have hs6 := Below.size g16
      have hs56 := Below.size g56
      clear HF HX
      go_wp2_with fail
      (refine wp_region_heldL (fun W => W.cell? ⟨w3.heap.size, 0, none⟩ = some (.int .i64 R) ∧ W.cell? ⟨w3.heap.size, 1, none⟩ = some (.int .i64 C) ∧ W.cell? ⟨w3.heap.size, 2, none⟩ = some (.slice A3 (R * C) c3) ∧ W.cell? ⟨w4.heap.size, 0, none⟩ = some (.int .i64 R) ∧ W.cell? ⟨w4.heap.size, 1, none⟩ = some (.int .i64 R) ∧ W.cell? ⟨w4.heap.size, 2, none⟩ = some (.slice U (R * R) cu) ∧ W.cell? ⟨w5.heap.size, 0, none⟩ = some (.int .i64 C) ∧ W.cell? ⟨w5.heap.size, 1, none⟩ = some (.int .i64 C) ∧ W.cell? ⟨w5.heap.size, 2, none⟩ = some (.slice V (C * C) cv)) (by kernel_rfl) (by ((try dsimp only); (exact three_boxes2 (v := .slice A3 (R * C) c3) (v' := .slice U (R * R) cu) (v2 := .slice V (C * C) cv) (by ((repeat' (first | with_reducible exact mt5 | with_reducible refine MBox.alloc ?_ _ | with_reducible refine MBox.drew_ ?_ | with_reducible refine MBox.far ?_ ?_ _)); all_goals (first | omega | (simp; done) | (simp; omega)))) (by ((repeat' (first | with_reducible exact mt6 | with_reducible refine MBox.alloc ?_ _ | with_reducible refine MBox.drew_ ?_ | with_reducible refine MBox.far ?_ ?_ _)); all_goals (first | omega | (simp; done) | (simp; omega)))) (by ((repeat' (first | with_reducible exact mt7 | with_reducible refine MBox.alloc ?_ _ | with_reducible refine MBox.drew_ ?_ | with_reducible refine MBox.far ?_ ?_ _)); all_goals (first | omega | (simp; done) | (simp; omega))))))) (fun hHeld => ?_); refine heldL_take (i := 0) (v := _) (by rfl) (by kernel_rfl) (by kernel_rfl) (by kernel_rfl) (fun _ _ _ h => h) (Or.inl ⟨by rfl, fun wS hSw => by ((try dsimp only at hSw); go_simp; (try with_reducible rfl))⟩) (by assumption) ?_; simp only [Act.put, List.setIfInBounds_toArray, List.set_cons_zero, List.set_cons_succ]; refine heldL_take (i := 1) (v := _) (by rfl) (by kernel_rfl) (by kernel_rfl) (by kernel_rfl) (fun _ _ _ h => h) (Or.inl ⟨by rfl, fun wS hSw => by ((try dsimp only at hSw); go_simp; (try with_reducible rfl))⟩) (by assumption) ?_; simp only [Act.put, List.setIfInBounds_toArray, List.set_cons_zero, List.set_cons_succ]; refine heldL_take (i := 2) (v := _) (by rfl) (by kernel_rfl) (by kernel_rfl) (by kernel_rfl) (fun _ _ _ h => h) (Or.inl ⟨by rfl, fun wS hSw => by ((try dsimp only at hSw); go_simp; (try with_reducible rfl))⟩) (by assumption) ?_; simp only [Act.put, List.setIfInBounds_toArray, List.set_cons_zero, List.set_cons_succ]; refine heldL_step (i := 3) (by kernel_rfl) (by rfl) (fun K hK => ?_); go_simp; refine hK.out _ _ (by ((try dsimp only); (exact three_boxes2 (v := .slice A3 (R * C) c3) (v' := .slice U (R * R) cu) (v2 := .slice V (C * C) cv) (by ((repeat' (first | with_reducible exact mt5 | with_reducible refine MBox.alloc ?_ _ | with_reducible refine MBox.drew_ ?_ | with_reducible refine MBox.far ?_ ?_ _)); all_goals (first | omega | (simp; done) | (simp; omega)))) (by ((repeat' (first | with_reducible exact mt6 | with_reducible refine MBox.alloc ?_ _ | with_reducible refine MBox.drew_ ?_ | with_reducible refine MBox.far ?_ ?_ _)); all_goals (first | omega | (simp; done) | (simp; omega)))) (by ((repeat' (first | with_reducible exact mt7 | with_reducible refine MBox.alloc ?_ _ | with_reducible refine MBox.drew_ ?_ | with_reducible refine MBox.far ?_ ?_ _)); all_goals (first | omega | (simp; done) | (simp; omega))))))) (fun hHeld => ?_); clear hK K; (try simp only [Act.put, List.setIfInBounds_toArray, List.set_cons_zero, List.set_cons_succ]); refine heldL_step (i := 4) (by kernel_rfl) (by rfl) (fun K hK => ?_); go_simp; refine hK.out _ _ (by ((try dsimp only); (exact three_boxes2 (v := .slice A3 (R * C) c3) (v' := .slice U (R * R) cu) (v2 := .slice V (C * C) cv) (by ((repeat' (first | with_reducible exact mt5 | with_reducible refine MBox.alloc ?_ _ | with_reducible refine MBox.drew_ ?_ | with_reducible refine MBox.far ?_ ?_ _)); all_goals (first | omega | (simp; done) | (simp; omega)))) (by ((repeat' (first | with_reducible exact mt6 | with_reducible refine MBox.alloc ?_ _ | with_reducible refine MBox.drew_ ?_ | with_reducible refine MBox.far ?_ ?_ _)); all_goals (first | omega | (simp; done) | (simp; omega)))) (by ((repeat' (first | with_reducible exact mt7 | with_reducible refine MBox.alloc ?_ _ | with_reducible refine MBox.drew_ ?_ | with_reducible refine MBox.far ?_ ?_ _)); all_goals (first | omega | (simp; done) | (simp; omega))))))) (fun hHeld => ?_); clear hK K; (try simp only [Act.put, List.setIfInBounds_toArray, List.set_cons_zero, List.set_cons_succ]); refine heldL_step (i := 5) (by kernel_rfl) (by rfl) (fun K hK => ?_); go_simp; refine hK.out _ _ (by ((try dsimp only); (exact three_boxes2 (v := .slice A3 (R * C) c3) (v' := .slice U (R * R) cu) (v2 := .slice V (C * C) cv) (by ((repeat' (first | with_reducible exact mt5 | with_reducible refine MBox.alloc ?_ _ | with_reducible refine MBox.drew_ ?_ | with_reducible refine MBox.far ?_ ?_ _)); all_goals (first | omega | (simp; done) | (simp; omega)))) (by ((repeat' (first | with_reducible exact mt6 | with_reducible refine MBox.alloc ?_ _ | with_reducible refine MBox.drew_ ?_ | with_reducible refine MBox.far ?_ ?_ _)); all_goals (first | omega | (simp; done) | (simp; omega)))) (by ((repeat' (first | with_reducible exact mt7 | with_reducible refine MBox.alloc ?_ _ | with_reducible refine MBox.drew_ ?_ | with_reducible refine MBox.far ?_ ?_ _)); all_goals (first | omega | (simp; done) | (simp; omega))))))) (fun hHeld => ?_); clear hK K; (try simp only [Act.put, List.setIfInBounds_toArray, List.set_cons_zero, List.set_cons_succ]); refine heldL_take (i := 6) (v := _) (by rfl) (by kernel_rfl) (by kernel_rfl) (by kernel_rfl) (fun _ _ _ h => h) (Or.inl ⟨by rfl, fun wS hSw => by ((try dsimp only at hSw); go_simp; (try with_reducible rfl))⟩) (by assumption) ?_; simp only [Act.put, List.setIfInBounds_toArray, List.set_cons_zero, List.set_cons_succ]; refine wpAnyH_done (by kernel_rfl) ?_ _; refine NoPanic.normal ?_)
      go_wp2_with fail
      refine bodyPost_ret (v := .tuple #[.agg #[.int .i64 R, .int .i64 C, .slice A3 (R * C) c3], .agg #[.int .i64 R, .int .i64 R, .slice U (R * R) cu], .agg #[.int .i64 C, .int .i64 C, .slice V (C * C) cv], .bool true]) ?_ rfl ?_
      · simp [results, Try.results142, go_sem, zr0, zr1, zr2, zrf, zrl, yr0, yr1, yr2, yrf, yrl, xr0, xr1, xr2, xrf, xrl]
      · have hoA : Own w7 w1.heap.size (.slice A3 (R * C) c3) (oM (some (⟨(R : Int), (C : Int), y.1⟩ : MX))).l := by rw [hxy]; exact tr7.oa
        exact ⟨_, _, _, _, _, _, _, _, _, _, _, rfl, by exact ownl hoA, by exact bel2 g17 g01⟩
end
end Go.Proofs.Ytpgoefdeodoacaa
