/- Contracts and lemmas, put together. -/
import Derived.Deep.CutBlock
import Derived.Deep.DeepCutAuto
import Derived.Test.YtbfkpfdkndnhkaaPkF
import Derived.Test.YtbfkpfdkndnhkaaPkSa
/- Contracts: an operation on the columns of a matrix, the reference's; on rows and columns of a form. -/
namespace Go.Proofs.Ytbfkpfdkndnhkaa
set_option linter.unusedSimpArgs false
set_option linter.unusedVariables false
open Go.RowKit

/-- the rows before K are as f says, the others as in l -/
def RowD (R C : Nat) (f : Nat → Nat → Int) (l : List Int) (K : Nat) (m : List Int) : Prop := m.length = R * C ∧ ∀ a b, a < R → b < C → nth m (a * C + b) = if a < K then f a b else nth l (a * C + b)
theorem RowD.zero {R C : Nat} {f : Nat → Nat → Int} {l : List Int} (hl : l.length = R * C) : RowD R C f l 0 l := ⟨hl, fun a b _ _ => by simp⟩
theorem RowD.cell {R C : Nat} {f : Nat → Nat → Int} {l m : List Int} {K b : Nat} (h : RowD R C f l K m) (hK : K < R) (hb : b < C) : nth m (K * C + b) = nth l (K * C + b) := by
  rw [h.2 K b hK hb, if_neg (by omega)]
theorem RowD.set2 {R C : Nat} {f : Nat → Nat → Int} {l m : List Int} {K i j : Nat} (h : RowD R C f l K m) (hi : i < C) (hj : j < C) (hK : K < R) (ho : ∀ b, b < C → b ≠ i → b ≠ j → f K b = nth l (K * C + b)) :
    RowD R C f l (K + 1) ((m.set (K * C + i) (f K i)).set (K * C + j) (f K j)) := by
  refine ⟨by rw [List.length_set, List.length_set]; exact h.1, fun a b ha hb => ?_⟩
  rw [nth_set _ _ _ _ (by rw [List.length_set, h.1]; exact idx_lt hK hj), nth_set _ _ _ _ (by rw [h.1]; exact idx_lt hK hi)]
  by_cases e1 : a * C + b = K * C + j
  · obtain ⟨rfl, rfl⟩ := idx_inj hb hj e1
    rw [if_pos rfl, if_pos (by omega)]
  · rw [if_neg e1]
    by_cases e2 : a * C + b = K * C + i
    · obtain ⟨rfl, rfl⟩ := idx_inj hb hi e2
      rw [if_pos rfl, if_pos (by omega)]
    · rw [if_neg e2, h.2 a b ha hb]
      by_cases e3 : a = K
      · subst e3
        rw [if_neg (by omega), if_pos (by omega), ho b hb (fun e => e2 (by rw [e])) (fun e => e1 (by rw [e]))]
      · by_cases e4 : a < K
        · rw [if_pos e4, if_pos (by omega)]
        · rw [if_neg e4, if_neg (by omega)]
theorem RowD.set1 {R C : Nat} {f : Nat → Nat → Int} {l m : List Int} {K i : Nat} (h : RowD R C f l K m) (hi : i < C) (hK : K < R) (ho : ∀ b, b < C → b ≠ i → f K b = nth l (K * C + b)) :
    RowD R C f l (K + 1) (m.set (K * C + i) (f K i)) := by
  have := h.set2 hi hi hK (fun b h1 h2 _ => ho b h1 h2)
  rwa [List.set_set] at this
theorem RowD.all {R C : Nat} {f : Nat → Nat → Int} {l m : List Int} (h : RowD R C f l R m) : m = tab R C f := tab_ext h.1 fun a b ha hb => by rw [h.2 a b ha hb, if_pos ha]
def addCF (C i j : Nat) (t : Int) (l : List Int) : Nat → Nat → Int := fun a b => if b = i then addB (nth l (a * C + i)) (mulB (nth l (a * C + j)) t) else nth l (a * C + b)
def swpCF (C i j : Nat) (l : List Int) : Nat → Nat → Int := fun a b => if b = i then nth l (a * C + j) else if b = j then nth l (a * C + i) else nth l (a * C + b)
theorem addCF_other {C i j a b : Nat} {t : Int} {l : List Int} (h : b ≠ i) : addCF C i j t l a b = nth l (a * C + b) := by unfold addCF; rw [if_neg h]
theorem addCF_same {C i j a : Nat} {t : Int} {l : List Int} : addCF C i j t l a i = addB (nth l (a * C + i)) (mulB (nth l (a * C + j)) t) := by unfold addCF; rw [if_pos rfl]
theorem swpCF_other {C i j a b : Nat} {l : List Int} (h : b ≠ i) (h2 : b ≠ j) : swpCF C i j l a b = nth l (a * C + b) := by unfold swpCF; rw [if_neg h, if_neg h2]
theorem swpCF_i {C i j a : Nat} {l : List Int} : swpCF C i j l a i = nth l (a * C + j) := by unfold swpCF; rw [if_pos rfl]
theorem swpCF_j {C i j a : Nat} {l : List Int} : swpCF C i j l a j = nth l (a * C + i) := by
  unfold swpCF
  split
  · rename_i h; rw [h]
  · rw [if_pos rfl]
theorem addCF_all {R C i j : Nat} {t : Int} {l : List Int} : tab R C (addCF C i j t l) = addCT R C i j t l := rfl
theorem swpCF_all {R C i j : Nat} {l : List Int} : tab R C (swpCF C i j l) = swpCT R C i j l := rfl

section
set_option maxHeartbeats 4000000
set_option maxRecDepth 100000
theorem l13Add_c (R C : Nat) (A : Option Addr) (l : List Int) (n cap i j B : Nat) (t : Int) (w : World) (hn : l.length = n) (hl : n = R * C) (hR : R ≤ 24) (hC : C ≤ 24) (ho : Own w B (.slice A n cap) l) (hm : mkd l) (hi : i < C) (hj : j < C) (ht : isNum t = true) :
    Calls Try.prog 187 #[.agg #[.int .i64 R, .int .i64 C, .slice A n cap], .agg #[.int .i64 2, .int .i64 i, .int .i64 j, .int .i64 t]] w fun e w' => e = .returned (.tuple #[]) ∧ Own w' B (.slice A n cap) (addCT R C i j t l) ∧ w.grownBy w' (Value.slice A n cap).ownBlock := by
  obtain ⟨w1, hw1, mb, ob, hs1, g01⟩ := mat_op w R C (.slice A n cap) 2 i j t
  have HW1 := Lib.hid hw1
  have HS1 := Lib.hid hs1
  have ho1 := ho.grows g01
  have hne : ∀ g, (Value.slice A n cap).ownBlock = some g → g < w.heap.size := fun g h => (World.ownsRow.lt ho g h).2
  have HNE := Lib.hid hne
  have HL := Lib.hid hl
  have HN := Lib.hid hn
  have HMK := Lib.hid fun a b ha hb => mkd_nth (R := R) (C := C) (a := a) (b := b) (hn.trans hl) hm ha hb
  have HT := Lib.hid ht
  have htb := (isNum_iff t).1 ht
  have hRC : R * C ≤ 576 := Nat.mul_le_mul hR hC
  have HI : ∀ a, a < R → a * C ≤ 576 := fun a ha => by have := Nat.mul_le_mul_right C (Nat.le_of_lt ha); omega
  have HII := Lib.hid HI
  have e1 := Lib.hid (RowD.zero (f := addCF C i j t l) (hn.trans hl))
  clear hw1 hs1 hl hn hm ht hne ho HI
  go_enter Try.func187, Try.ntmps187
  go_wp2_with fail
  rw [← HW1.out]
  go_loopw [4] (fun k wr => ∃ (J : Nat) (m : List Int), k = .int .i64 J ∧ J ≤ R ∧ RowD R C (addCF C i j t l) l J m ∧ Own wr B (.slice A n cap) m ∧ w1.grownBy wr (Value.slice A n cap).ownBlock) (fun k _ => R - (intOf k).toNat)
  case atStart => exact ⟨0, l, rfl, Nat.zero_le _, e1.out, ho1, World.grownBy.refl _ _⟩
  case round =>
    clear ho1
    obtain ⟨J, m, rfl, hJ, hd, ho, hg⟩ := hrel
    have mb2 := mb.own hg (fun g h => Nat.ne_of_lt (HNE.out g h))
    have ob2 := ob.own hg (fun g h => by have := HNE.out g h; omega)
    by_cases hlt : J < R
    · have hml := hd.1
      have hlen : R * C = n := HL.out.symm
      obtain ⟨g, cap', e, hgB, hgw⟩ := ho.form (by rw [hml]; have := idx_lt hlt hi; omega)
      simp only [Value.slice.injEq] at e
      obtain ⟨rfl, hnm, rfl⟩ := e
      clear hnm
      have hg2 : g < w.heap.size := HNE.out g (by simp [Value.ownBlock])
      have l1 := idx_lt hlt hi
      have l2 := idx_lt hlt hj
      have c1 := ho.cell (J * C + i) (by rw [hml]; exact l1)
      have c2 := ho.cell (J * C + j) (by rw [hml]; exact l2)
      have cf := ho.free (J * C + i)
      rw [hd.cell hlt hi] at c1
      rw [hd.cell hlt hj] at c2
      have hnx := hd.set1 hi hlt (fun a ha hne => addCF_other hne)
      rw [addCF_same] at hnx
      have HNX := Lib.hid hnx
      have HMX := HMK.out J i hlt hi
      have HMY := HMK.out J j hlt hj
      have HML := Lib.hid (hml.trans hlen)
      have CM := Lib.hid fun W => l1Mul_c (nth l (J * C + j)) t W HMY (.inr HT.out)
      have CA := Lib.hid fun W => l1Add_c (nth l (J * C + i)) (mulB (nth l (J * C + j)) t) W HMX (mulB_or' _ _)
      have HD := Lib.hid hd
      have p1 := castPos J C i; have p2 := castLt (n := R * C) l1; have p3 := castPos J C j; have p4 := castLt (n := R * C) l2
      rw [hlen] at p2 p4
      have q1 : (J : Int) < (R : Int) := by omega
      have k1 := castMul J C; have k2 := castMulLe (HII.out J hlt)
      have a1 := castIdx J C i
      have a2 := castIdx J C j
      clear hd hnx hml hlen l1 l2 HMX HMY
      obtain ⟨b0, b1, b2⟩ := mb2.cells
      obtain ⟨x0, x1, x2, x3⟩ := ob2.cells
      generalize mulB (nth l (J * C + j)) t = y at *
      generalize addB (nth l (J * C + i)) y = z at *
      generalize nth l (J * C + j) = y0 at *
      generalize nth l (J * C + i) = z0 at *
      go_wp2_with fail
      obtain ⟨d0, d1, d2⟩ := mb2.ext
      obtain ⟨f0, f1, f2, f3⟩ := ob2.ext
      ((refine wp_region_tail 16 (by kernel_rfl) (by kernel_rfl) ?_; simp only [List.take_succ_cons, List.take_zero, List.drop_succ_cons, List.drop_zero]); (repeat (go_big_quiet_step ((first | (go_at_call 144; with_reducible exact extS (CM.out _)) | (go_at_call 143; with_reducible exact extS (CA.out _)))))); refine wpQuiet_nil ?_; rintro w3 ⟨w30, hw30⟩; have g3 := grows_of_ext hw30; clear hw30 w30)
      have cf3 := (g3.frozen (p := ⟨g, J * C + i, none⟩) hgw).trans cf
      have c13 := (g3.cell (p := ⟨g, J * C + i, none⟩) hgw).trans c1
      clear d0 d1 d2 f0 f1 f2 f3 b0 b1 b2 x0 x1 x2 x3 c1 cf CM
      go_wp2_with fail
      go_round
      case rel => exact ⟨J + 1, _, by go_num, by omega, HNX.out, (ho.grows g3).put HML.out _ _, only_setCell (p := ⟨g, J * C + i, none⟩) (grown_right hg g3) rfl _⟩
      case measure => simp [intOf]; omega
    · obtain rfl : J = R := by omega
      obtain ⟨b0, b1, b2⟩ := mb2.cells
      go_wp2_with fail
      go_end0
      refine ⟨rfl, ?_, grown_left hg g01⟩
      have := hd.all
      subst this
      exact ho
theorem l13Swp_c (R C : Nat) (A : Option Addr) (l : List Int) (n cap i j B : Nat) (w : World) (hn : l.length = n) (hl : n = R * C) (hR : R ≤ 24) (hC : C ≤ 24) (ho : Own w B (.slice A n cap) l) (hi : i < C) (hj : j < C) (hij : i ≠ j) :
    Calls Try.prog 187 #[.agg #[.int .i64 R, .int .i64 C, .slice A n cap], .agg #[.int .i64 0, .int .i64 i, .int .i64 j, .int .i64 0]] w fun e w' => e = .returned (.tuple #[]) ∧ Own w' B (.slice A n cap) (swpCT R C i j l) ∧ w.grownBy w' (Value.slice A n cap).ownBlock := by
  obtain ⟨w1, hw1, mb, ob, hs1, g01⟩ := mat_op w R C (.slice A n cap) 0 i j 0
  have HW1 := Lib.hid hw1
  have HS1 := Lib.hid hs1
  have ho1 := ho.grows g01
  have hne : ∀ g, (Value.slice A n cap).ownBlock = some g → g < w.heap.size := fun g h => (World.ownsRow.lt ho g h).2
  have HNE := Lib.hid hne
  have HL := Lib.hid hl
  have HN := Lib.hid hn
  have hRC : R * C ≤ 576 := Nat.mul_le_mul hR hC
  have HI : ∀ a, a < R → a * C ≤ 576 := fun a ha => by have := Nat.mul_le_mul_right C (Nat.le_of_lt ha); omega
  have HII := Lib.hid HI
  have e1 := Lib.hid (RowD.zero (f := swpCF C i j l) (hn.trans hl))
  clear hw1 hs1 hl hn hne ho HI
  go_enter Try.func187, Try.ntmps187
  go_wp2_with fail
  rw [← HW1.out]
  go_loopw [4] (fun k wr => ∃ (J : Nat) (m : List Int), k = .int .i64 J ∧ J ≤ R ∧ RowD R C (swpCF C i j l) l J m ∧ Own wr B (.slice A n cap) m ∧ w1.grownBy wr (Value.slice A n cap).ownBlock) (fun k _ => R - (intOf k).toNat)
  case atStart => exact ⟨0, l, rfl, Nat.zero_le _, e1.out, ho1, World.grownBy.refl _ _⟩
  case round =>
    clear ho1
    obtain ⟨J, m, rfl, hJ, hd, ho, hg⟩ := hrel
    have mb2 := mb.own hg (fun g h => Nat.ne_of_lt (HNE.out g h))
    have ob2 := ob.own hg (fun g h => by have := HNE.out g h; omega)
    by_cases hlt : J < R
    · have hml := hd.1
      have hlen : R * C = n := HL.out.symm
      obtain ⟨g, cap', e, hgB, hgw⟩ := ho.form (by rw [hml]; have := idx_lt hlt hi; omega)
      simp only [Value.slice.injEq] at e
      obtain ⟨rfl, hnm, rfl⟩ := e
      clear hnm
      have hg2 : g < w.heap.size := HNE.out g (by simp [Value.ownBlock])
      have l1 := idx_lt hlt hi
      have l2 := idx_lt hlt hj
      have c1 := ho.cell (J * C + i) (by rw [hml]; exact l1)
      have c2 := ho.cell (J * C + j) (by rw [hml]; exact l2)
      have cf := ho.free (J * C + i)
      rw [hd.cell hlt hi] at c1
      rw [hd.cell hlt hj] at c2
      have hnx := hd.set2 hi hj hlt (fun a ha h1 h2 => swpCF_other h1 h2)
      rw [swpCF_i, swpCF_j] at hnx
      have HNX := Lib.hid hnx
      have ho1 : ¬ (J * C + i = J * C + j) := fun e => hij (idx_inj hi hj e).2
      have ho2 : ¬ (J * C + j = J * C + i) := fun e => ho1 e.symm
      have cf2 := ho.free (J * C + j)
      have HML := Lib.hid (hml.trans hlen)
      have HD := Lib.hid hd
      have p1 := castPos J C i; have p2 := castLt (n := R * C) l1; have p3 := castPos J C j; have p4 := castLt (n := R * C) l2
      rw [hlen] at p2 p4
      have q1 : (J : Int) < (R : Int) := by omega
      have k1 := castMul J C; have k2 := castMulLe (HII.out J hlt)
      have a1 := castIdx J C i
      have a2 := castIdx J C j
      clear hd hnx hml hlen l1 l2
      obtain ⟨b0, b1, b2⟩ := mb2.cells
      obtain ⟨x0, x1, x2, x3⟩ := ob2.cells
      generalize nth l (J * C + j) = y0 at *
      generalize nth l (J * C + i) = z0 at *
      go_wp2_with fail
      go_round
      case rel => exact ⟨J + 1, _, by go_num, by omega, HNX.out, (ho.put HML.out _ _).put (by rw [List.length_set]; exact HML.out) _ _, only_setCell (p := ⟨g, J * C + j, none⟩) (only_setCell (p := ⟨g, J * C + i, none⟩) hg rfl _) rfl _⟩
      case measure => simp [intOf]; omega
    · obtain rfl : J = R := by omega
      obtain ⟨b0, b1, b2⟩ := mb2.cells
      go_wp2_with fail
      go_end0
      refine ⟨rfl, ?_, grown_left hg g01⟩
      have := hd.all
      subst this
      exact ho
end
end Go.Proofs.Ytbfkpfdkndnhkaa

/- Contracts: an operation on the rows and the columns of a form, and on the rows of a matrix, the reference's. -/
namespace Go.Proofs.Ytbfkpfdkndnhkaa
set_option linter.unusedSimpArgs false
set_option linter.unusedVariables false
open Go.RowKit

theorem OBox.two {w w1 : World} {r1 r2 : Option Nat} {b : Nat} {k i j t : Int} (h : OBox w b k i j t) (g : Grown2 w w1 r1 r2) (h1 : ∀ g, r1 = some g → g ≠ b) (h2 : ∀ g, r2 = some g → g ≠ b) : OBox w1 b k i j t := by
  have hk := g.block b h.lt (fun e => h1 b e.symm rfl) (fun e => h2 b e.symm rfl)
  exact ⟨Nat.lt_of_lt_of_le h.lt g.size, (World.cell?_of_block hk).trans h.c0, (World.cell?_of_block hk).trans h.c1, (World.cell?_of_block hk).trans h.c2, (World.cell?_of_block hk).trans h.c3⟩
section
set_option maxHeartbeats 4000000
set_option maxRecDepth 100000
end
end Go.Proofs.Ytbfkpfdkndnhkaa

/- The reference's Smith form: three rows apart, and the steps of a round at marked lists. -/
namespace Go.Proofs.Ytbfkpfdkndnhkaa
set_option linter.unusedSimpArgs false
set_option linter.unusedVariables false
open Go.RowKit

/-- what a call has changed: blocks of P at most; what is new -/
structure GrownP (P : Nat → Prop) (w w' : World) : Prop where
  os : w'.os = w.os
  tape : w'.tape = w.tape
  output : w'.output = w.output
  size : w.heap.size ≤ w'.heap.size
  block : ∀ i, i < w.heap.size → ¬ P i → w'.heap[i]? = w.heap[i]?
section
variable {P : Nat → Prop} {w w1 w2 : World}
theorem GrownP.refl (w : World) : GrownP P w w := ⟨rfl, rfl, rfl, Nat.le_refl _, fun _ _ _ => rfl⟩
theorem GrownP.trans (h : GrownP P w w1) (k : GrownP P w1 w2) : GrownP P w w2 := ⟨k.os.trans h.os, k.tape.trans h.tape, k.output.trans h.output, Nat.le_trans h.size k.size, fun i hi h1 => (k.block i (Nat.lt_of_lt_of_le hi h.size) h1).trans (h.block i hi h1)⟩
theorem GrownP.left (h : Grows w w1) (k : GrownP P w1 w2) : GrownP P w w2 := ⟨k.os.trans h.os, k.tape.trans h.tape, k.output.trans h.output, Nat.le_trans h.size k.size, fun i hi h1 => (k.block i (Nat.lt_of_lt_of_le hi h.size) h1).trans (h.block i hi)⟩
theorem GrownP.right (h : GrownP P w w1) (k : Grows w1 w2) : GrownP P w w2 := ⟨k.os.trans h.os, k.tape.trans h.tape, k.output.trans h.output, Nat.le_trans h.size k.size, fun i hi h1 => (k.block i (Nat.lt_of_lt_of_le hi h.size)).trans (h.block i hi h1)⟩
theorem GrownP.of1 {r : Option Nat} (h : w.grownBy w1 r) (hr : ∀ g, r = some g → P g) : GrownP P w w1 := ⟨h.os, h.tape, h.output, h.size, fun i hi h1 => h.block i hi (fun e => h1 (hr i e.symm))⟩
theorem GrownP.of2 {r r2 : Option Nat} (h : Grown2 w w1 r r2) (hr : ∀ g, r = some g → P g) (hr2 : ∀ g, r2 = some g → P g) : GrownP P w w1 := ⟨h.os, h.tape, h.output, h.size, fun i hi h1 => h.block i hi (fun e => h1 (hr i e.symm)) (fun e => h1 (hr2 i e.symm))⟩
theorem GrownP.below {B : Nat} (h : GrownP P w w1) (hB : B ≤ w.heap.size) (h1 : ∀ g, P g → B ≤ g) : Below B w w1 :=
  ⟨h.os, h.tape, h.output, h.size, fun i hi => h.block i (by omega) (fun e => by have := h1 i e; omega)⟩
theorem MBox.farP {b : Nat} {r c : Int} {v : Value} (h : MBox w b r c v) (g : GrownP P w w1) (hb : ¬ P b) : MBox w1 b r c v := by
  have hk := g.block b h.lt hb
  exact ⟨Nat.lt_of_lt_of_le h.lt g.size, (World.cell?_of_block hk).trans h.c0, (World.cell?_of_block hk).trans h.c1, (World.cell?_of_block hk).trans h.c2, fun o => (World.frozen?_of_block hk).trans (h.fz o)⟩
theorem Own.far2 {B : Nat} {v : Value} {l : List Int} {r1 r2 : Option Nat} (h : Own w B v l) (g : Grown2 w w1 r1 r2) (h1 : ∀ g, v.ownBlock = some g → r1 ≠ some g) (h2 : ∀ g, v.ownBlock = some g → r2 ≠ some g) : Own w1 B v l := by
  refine ⟨h.1, ?_⟩
  rcases h.2 with hz | ⟨b, cap, cur, hv, hb, hg, k⟩
  · exact .inl hz
  · have hlt : b < w.heap.size := (Array.getElem?_eq_some_iff.1 hg).1
    have ho : v.ownBlock = some b := by rw [hv]; simp [Value.ownBlock]
    exact .inr ⟨b, cap, cur, hv, hb, (g.block b hlt (fun e => h1 b ho e.symm) (fun e => h2 b ho e.symm)).trans hg, k⟩
end
/-- three rows of the call's own, apart -/
structure Tr (w : World) (B : Nat) (A U V : Option Addr) (n cap m cap2 k cap3 : Nat) (x : L3) : Prop where
  oa : Own w B (.slice A n cap) x.1
  ou : Own w B (.slice U m cap2) x.2.1
  ov : Own w B (.slice V k cap3) x.2.2
  au : ∀ g, (Value.slice A n cap).ownBlock = some g → (Value.slice U m cap2).ownBlock ≠ some g
  av : ∀ g, (Value.slice A n cap).ownBlock = some g → (Value.slice V k cap3).ownBlock ≠ some g
  uv : ∀ g, (Value.slice U m cap2).ownBlock = some g → (Value.slice V k cap3).ownBlock ≠ some g
/-- the blocks of the three -/
def TB (A U V : Option Addr) (n cap m cap2 k cap3 : Nat) (g : Nat) : Prop := (Value.slice A n cap).ownBlock = some g ∨ (Value.slice U m cap2).ownBlock = some g ∨ (Value.slice V k cap3).ownBlock = some g
section
variable {w w' : World} {B : Nat} {A U V : Option Addr} {n cap m cap2 k cap3 : Nat} {x : L3}
theorem Tr.grows (h : Tr w B A U V n cap m cap2 k cap3 x) (g : Grows w w') : Tr w' B A U V n cap m cap2 k cap3 x := ⟨h.oa.grows g, h.ou.grows g, h.ov.grows g, h.au, h.av, h.uv⟩
theorem Tr.pr (h : Tr w B A U V n cap m cap2 k cap3 x) : Pr w B A U n cap m cap2 x.1 x.2.1 := ⟨h.oa, h.ou, h.au⟩
theorem Tr.rows (h : Tr w B A U V n cap m cap2 k cap3 x) {a u : List Int} (p : Pr w' B A U n cap m cap2 a u) (g : Grown2 w w' (Value.slice A n cap).ownBlock (Value.slice U m cap2).ownBlock) : Tr w' B A U V n cap m cap2 k cap3 (a, u, x.2.2) :=
  ⟨p.oa, p.ou, h.ov.far2 g (fun g h1 h2 => h.av g h2 h1) (fun g h1 h2 => h.uv g h2 h1), h.au, h.av, h.uv⟩
theorem Tr.setA (h : Tr w B A U V n cap m cap2 k cap3 x) {a : List Int} (o : Own w' B (.slice A n cap) a) (g : w.grownBy w' (Value.slice A n cap).ownBlock) : Tr w' B A U V n cap m cap2 k cap3 (a, x.2.1, x.2.2) :=
  ⟨o, h.ou.other g h.au, h.ov.other g h.av, h.au, h.av, h.uv⟩
theorem Tr.setV (h : Tr w B A U V n cap m cap2 k cap3 x) {v : List Int} (o : Own w' B (.slice V k cap3) v) (g : w.grownBy w' (Value.slice V k cap3).ownBlock) : Tr w' B A U V n cap m cap2 k cap3 (x.1, x.2.1, v) :=
  ⟨h.oa.other g (fun g h1 h2 => h.av g h2 h1), h.ou.other g (fun g h1 h2 => h.uv g h2 h1), o, h.au, h.av, h.uv⟩
theorem Tr.lo (h : Tr w B A U V n cap m cap2 k cap3 x) : ∀ g, TB A U V n cap m cap2 k cap3 g → B ≤ g ∧ g < w.heap.size := by
  rintro g (hg | hg | hg)
  · exact World.ownsRow.lt h.oa g hg
  · exact World.ownsRow.lt h.ou g hg
  · exact World.ownsRow.lt h.ov g hg
theorem TB.a : ∀ g, (Value.slice A n cap).ownBlock = some g → TB A U V n cap m cap2 k cap3 g := fun _ h => .inl h
theorem TB.u : ∀ g, (Value.slice U m cap2).ownBlock = some g → TB A U V n cap m cap2 k cap3 g := fun _ h => .inr (.inl h)
theorem TB.v : ∀ g, (Value.slice V k cap3).ownBlock = some g → TB A U V n cap m cap2 k cap3 g := fun _ h => .inr (.inr h)
end

/-! ### the steps at marked lists -/
theorem Mk3.pr2 {R C : Nat} {x : L3} (h : Mk3 R C x) : Mks R C (x.1, x.2.1) := ⟨h.l1, h.l2, h.m1, h.m2⟩
theorem Stands3.none_of {R C : Nat} {x : L3} (h : Stands3 R C none x) : fit3 x = none := h.2.symm
/-- a state that is lost stays lost -/
theorem Stands3.lostR {R C i j : Nat} {t : Int} {x : L3} (h : Stands3 R C none x) : Stands3 R C none (addR3 R C i j t x) := h.addR
theorem Stands3.lostC {R C i j : Nat} {t : Int} {x : L3} (h : Stands3 R C none x) : Stands3 R C none (addC3 R C i j t x) := h.addC
theorem smA_skip {R C t K : Nat} {s z : L3} (h : Stands3 R C (smA R C t s K) z) (hz : nth z.1 ((t + 1 + K) * C + t) = 0) : Stands3 R C (smA R C t s (K + 1)) z := by
  rw [smA]
  cases e : smA R C t s K with
  | none => rw [e] at h; exact h
  | some s' =>
    rw [e] at h
    obtain ⟨rfl, ok⟩ := h.some_eq
    simp only [Option.bind_some]
    rw [if_pos hz]; exact h
theorem smA_step {R C t K : Nat} {s z : L3} (hs : Ok3 R C s) (htR : t < R) (htC : t < C) (hk : t + 1 + K < R) (hne : nth s.1 (t * C + t) ≠ 0) (h : Stands3 R C (smA R C t s K) z) (hz : nth z.1 ((t + 1 + K) * C + t) ≠ 0) :
    Stands3 R C (smA R C t s (K + 1)) (addR3 R C (t + 1 + K) t (-(flQ (nth z.1 ((t + 1 + K) * C + t)) (nth s.1 (t * C + t)))) z) := by
  rw [smA]
  cases e : smA R C t s K with
  | none => rw [e] at h; exact h.lostR
  | some s' =>
    rw [e] at h
    obtain ⟨rfl, ok⟩ := h.some_eq
    simp only [Option.bind_some]
    rw [if_neg hz]
    have E := smA_AI hs htR htC (by omega) e
    have ep := E.same t t htR htC (.inl (Nat.le_refl _))
    have hn := (allNum_iff _).1 ok.n1
    have hn0 := (allNum_iff _).1 hs.n1
    rw [flQ_yes (hn _ (by rw [ok.l1]; exact idx_lt hk htC)) (hn0 _ (by rw [hs.l1]; exact idx_lt htR htC)) hne, ep]
    exact ok.stands.addR
theorem smB_skip {R C t K : Nat} {s z : L3} (h : Stands3 R C (smB R C t s K) z) (hz : nth z.1 (t * C + (t + 1 + K)) = 0) : Stands3 R C (smB R C t s (K + 1)) z := by
  rw [smB]
  cases e : smB R C t s K with
  | none => rw [e] at h; exact h
  | some s' =>
    rw [e] at h
    obtain ⟨rfl, ok⟩ := h.some_eq
    simp only [Option.bind_some]
    rw [if_pos hz]; exact h
theorem smB_bad {R C t K : Nat} {s z : L3} (htR : t < R) (hk : t + 1 + K < C) (h : Stands3 R C (smB R C t s K) z) (hz : nth z.1 (t * C + (t + 1 + K)) = bad) : Stands3 R C (smB R C t s (K + 1)) z := by
  rw [smB]
  cases e : smB R C t s K with
  | none => rw [e] at h; exact h
  | some s' =>
    rw [e] at h
    obtain ⟨rfl, ok⟩ := h.some_eq
    have hn := (allNum_iff _).1 ok.n1 _ (by rw [ok.l1]; exact idx_lt htR hk)
    rw [hz] at hn
    exact absurd hn (by decide)
theorem smB_step {R C t K : Nat} {s z : L3} (hs : Ok3 R C s) (htR : t < R) (htC : t < C) (hk : t + 1 + K < C) (hne : nth s.1 (t * C + t) ≠ 0) (h : Stands3 R C (smB R C t s K) z) (hz : nth z.1 (t * C + (t + 1 + K)) ≠ 0) :
    Stands3 R C (smB R C t s (K + 1)) (addC3 R C (t + 1 + K) t (-(flQ (nth z.1 (t * C + (t + 1 + K))) (nth s.1 (t * C + t)))) z) := by
  rw [smB]
  cases e : smB R C t s K with
  | none => rw [e] at h; exact h.lostC
  | some s' =>
    rw [e] at h
    obtain ⟨rfl, ok⟩ := h.some_eq
    simp only [Option.bind_some]
    rw [if_neg hz]
    have E := smB_BI hs htR htC (by omega) e
    have ep := E.same t t htR htC (.inl (Nat.le_refl _))
    have hn := (allNum_iff _).1 ok.n1
    have hn0 := (allNum_iff _).1 hs.n1
    rw [flQ_yes (hn _ (by rw [ok.l1]; exact idx_lt htR hk)) (hn0 _ (by rw [hs.l1]; exact idx_lt htR htC)) hne, ep]
    exact ok.stands.addC
theorem anyBad_three {R C : Nat} {s : Option L3} {x : L3} (h : Stands3 R C s x) : (anyBad x.1 || (anyBad x.2.1 || anyBad x.2.2)) = !s.isSome := by
  rw [anyBad_mkd h.1.m1, anyBad_mkd h.1.m2, anyBad_mkd h.1.m3, h.2]
  unfold fit3 thr
  cases allNum x.1 <;> cases allNum x.2.1 <;> cases allNum x.2.2 <;> rfl
end Go.Proofs.Ytbfkpfdkndnhkaa

/- The reference's Smith form: the operations on three rows; how a round ends. -/
namespace Go.Proofs.Ytbfkpfdkndnhkaa
set_option linter.unusedSimpArgs false
set_option linter.unusedVariables false
open Go.RowKit

section
variable {R C : Nat} {A U V : Option Addr} {n cap m cap2 k cap3 B : Nat} {w : World} {x : L3}
theorem opAdd3_c (hn : n = R * C) (hm : m = R * R) (hR : R ≤ 24) (hC : C ≤ 24) {i j : Nat} {t : Int} (hi : i < R) (hj : j < R) (ht : isNum t = true) (mk : Mk3 R C x) (tr : Tr w B A U V n cap m cap2 k cap3 x) :
    Calls Try.prog 160 #[.agg #[.int .i64 R, .int .i64 C, .slice A n cap], .agg #[.int .i64 R, .int .i64 R, .slice U m cap2], .agg #[.int .i64 2, .int .i64 i, .int .i64 j, .int .i64 t]] w fun e w' => e = .returned (.tuple #[]) ∧ Tr w' B A U V n cap m cap2 k cap3 (addR3 R C i j t x) ∧ GrownP (TB A U V n cap m cap2 k cap3) w w' :=
  (opAdd_c R C A U n cap m cap2 B i j t (x.1, x.2.1) w hn hm hR hC hi hj ht mk.pr2 tr.pr).mono fun e w' h => ⟨h.1, tr.rows h.2.1 h.2.2, GrownP.of2 h.2.2 TB.a TB.u⟩
theorem opSwp3_c (hn : n = R * C) (hm : m = R * R) (hR : R ≤ 24) (hC : C ≤ 24) {i j : Nat} (hi : i < R) (hj : j < R) (hij : i ≠ j) (mk : Mk3 R C x) (tr : Tr w B A U V n cap m cap2 k cap3 x) :
    Calls Try.prog 160 #[.agg #[.int .i64 R, .int .i64 C, .slice A n cap], .agg #[.int .i64 R, .int .i64 R, .slice U m cap2], .agg #[.int .i64 0, .int .i64 i, .int .i64 j, .int .i64 0]] w fun e w' => e = .returned (.tuple #[]) ∧ Tr w' B A U V n cap m cap2 k cap3 (swpR3 R C i j x) ∧ GrownP (TB A U V n cap m cap2 k cap3) w w' :=
  (opSwp_c R C A U n cap m cap2 B i j (x.1, x.2.1) w hn hm hR hC hi hj hij mk.pr2 tr.pr).mono fun e w' h => ⟨h.1, tr.rows h.2.1 h.2.2, GrownP.of2 h.2.2 TB.a TB.u⟩
theorem opNeg3_c (hn : n = R * C) (hm : m = R * R) (hR : R ≤ 24) (hC : C ≤ 24) {i : Nat} (hi : i < R) (mk : Mk3 R C x) (tr : Tr w B A U V n cap m cap2 k cap3 x) :
    Calls Try.prog 160 #[.agg #[.int .i64 R, .int .i64 C, .slice A n cap], .agg #[.int .i64 R, .int .i64 R, .slice U m cap2], .agg #[.int .i64 1, .int .i64 i, .int .i64 i, .int .i64 0]] w fun e w' => e = .returned (.tuple #[]) ∧ Tr w' B A U V n cap m cap2 k cap3 (negR3 R C i x) ∧ GrownP (TB A U V n cap m cap2 k cap3) w w' :=
  (opNeg_c R C A U n cap m cap2 B i (x.1, x.2.1) w hn hm hR hC hi mk.pr2 tr.pr).mono fun e w' h => ⟨h.1, tr.rows h.2.1 h.2.2, GrownP.of2 h.2.2 TB.a TB.u⟩
theorem colAddA_c (hn : n = R * C) (hR : R ≤ 24) (hC : C ≤ 24) {i j : Nat} {t : Int} (hi : i < C) (hj : j < C) (ht : isNum t = true) (hl : x.1.length = n) (hm : mkd x.1) (tr : Tr w B A U V n cap m cap2 k cap3 x) :
    Calls Try.prog 187 #[.agg #[.int .i64 R, .int .i64 C, .slice A n cap], .agg #[.int .i64 2, .int .i64 i, .int .i64 j, .int .i64 t]] w fun e w' => e = .returned (.tuple #[]) ∧ Tr w' B A U V n cap m cap2 k cap3 (addCT R C i j t x.1, x.2.1, x.2.2) ∧ GrownP (TB A U V n cap m cap2 k cap3) w w' :=
  (l13Add_c R C A x.1 n cap i j B t w hl hn hR hC tr.oa hm hi hj ht).mono fun e w' h => ⟨h.1, tr.setA h.2.1 h.2.2, GrownP.of1 h.2.2 TB.a⟩
theorem colAddV_c (hk : k = C * C) (hC : C ≤ 24) {i j : Nat} {t : Int} (hi : i < C) (hj : j < C) (ht : isNum t = true) (hl : x.2.2.length = k) (hm : mkd x.2.2) (tr : Tr w B A U V n cap m cap2 k cap3 x) :
    Calls Try.prog 187 #[.agg #[.int .i64 C, .int .i64 C, .slice V k cap3], .agg #[.int .i64 2, .int .i64 i, .int .i64 j, .int .i64 t]] w fun e w' => e = .returned (.tuple #[]) ∧ Tr w' B A U V n cap m cap2 k cap3 (x.1, x.2.1, addCT C C i j t x.2.2) ∧ GrownP (TB A U V n cap m cap2 k cap3) w w' :=
  (l13Add_c C C V x.2.2 k cap3 i j B t w hl hk hC hC tr.ov hm hi hj ht).mono fun e w' h => ⟨h.1, tr.setV h.2.1 h.2.2, GrownP.of1 h.2.2 TB.v⟩
theorem colSwpA_c (hn : n = R * C) (hR : R ≤ 24) (hC : C ≤ 24) {i j : Nat} (hi : i < C) (hj : j < C) (hij : i ≠ j) (hl : x.1.length = n) (tr : Tr w B A U V n cap m cap2 k cap3 x) :
    Calls Try.prog 187 #[.agg #[.int .i64 R, .int .i64 C, .slice A n cap], .agg #[.int .i64 0, .int .i64 i, .int .i64 j, .int .i64 0]] w fun e w' => e = .returned (.tuple #[]) ∧ Tr w' B A U V n cap m cap2 k cap3 (swpCT R C i j x.1, x.2.1, x.2.2) ∧ GrownP (TB A U V n cap m cap2 k cap3) w w' :=
  (l13Swp_c R C A x.1 n cap i j B w hl hn hR hC tr.oa hi hj hij).mono fun e w' h => ⟨h.1, tr.setA h.2.1 h.2.2, GrownP.of1 h.2.2 TB.a⟩
theorem colSwpV_c (hk : k = C * C) (hC : C ≤ 24) {i j : Nat} (hi : i < C) (hj : j < C) (hij : i ≠ j) (hl : x.2.2.length = k) (tr : Tr w B A U V n cap m cap2 k cap3 x) :
    Calls Try.prog 187 #[.agg #[.int .i64 C, .int .i64 C, .slice V k cap3], .agg #[.int .i64 0, .int .i64 i, .int .i64 j, .int .i64 0]] w fun e w' => e = .returned (.tuple #[]) ∧ Tr w' B A U V n cap m cap2 k cap3 (x.1, x.2.1, swpCT C C i j x.2.2) ∧ GrownP (TB A U V n cap m cap2 k cap3) w w' :=
  (l13Swp_c C C V x.2.2 k cap3 i j B w hl hk hC hC tr.ov hi hj hij).mono fun e w' h => ⟨h.1, tr.setV h.2.1 h.2.2, GrownP.of1 h.2.2 TB.v⟩
end
theorem OBox.farP {w w1 : World} {P : Nat → Prop} {b : Nat} {k i j t : Int} (h : OBox w b k i j t) (g : GrownP P w w1) (hb : ¬ P b) : OBox w1 b k i j t := by
  have hk := g.block b h.lt hb
  exact ⟨Nat.lt_of_lt_of_le h.lt g.size, (World.cell?_of_block hk).trans h.c0, (World.cell?_of_block hk).trans h.c1, (World.cell?_of_block hk).trans h.c2, (World.cell?_of_block hk).trans h.c3⟩

/-! ### how a round ends -/
/-- a round whose pivot is in place -/
def smE (R C t : Nat) (s : L3) : Option (L3 × Bool) := (smA R C t s (R - t - 1)).bind fun x => (smB R C t x (C - t - 1)).bind fun y => smEnd R C t y
/-- the first two loops -/
def smAB (R C t : Nat) (s : L3) (K : Nat) : Option L3 := (smA R C t s (R - t - 1)).bind fun x => smB R C t x K
theorem smE_eq {R C t : Nat} {s : L3} : smE R C t s = (smAB R C t s (C - t - 1)).bind fun y => smEnd R C t y := by
  unfold smE smAB; cases smA R C t s (R - t - 1) <;> rfl
theorem smRound_eq {R C t : Nat} {s : L3} {q : Pl} (h : lst R C t s.1 = some q) : smRound R C t s = smE R C t (piv R C t q s) := by
  unfold smRound smE; rw [h]
theorem smAB_zero {R C t : Nat} {s z : L3} (h : Stands3 R C (smA R C t s (R - t - 1)) z) : Stands3 R C (smAB R C t s 0) z := by
  unfold smAB; revert h; cases smA R C t s (R - t - 1) <;> exact fun h => h
theorem smAB_skip {R C t K : Nat} {s z : L3} (h : Stands3 R C (smAB R C t s K) z) (hz : nth z.1 (t * C + (t + 1 + K)) = 0) : Stands3 R C (smAB R C t s (K + 1)) z := by
  unfold smAB at *
  cases e : smA R C t s (R - t - 1) with
  | none => rw [e] at h; exact h
  | some x => rw [e] at h; exact smB_skip h hz
theorem smAB_bad {R C t K : Nat} {s z : L3} (htR : t < R) (hk : t + 1 + K < C) (h : Stands3 R C (smAB R C t s K) z) (hz : nth z.1 (t * C + (t + 1 + K)) = bad) : Stands3 R C (smAB R C t s (K + 1)) z := by
  unfold smAB at *
  cases e : smA R C t s (R - t - 1) with
  | none => rw [e] at h; exact h
  | some x => rw [e] at h; exact smB_bad htR hk h hz
theorem smAB_step {R C t K : Nat} {s z : L3} (hs : Ok3 R C s) (htR : t < R) (htC : t < C) (hk : t + 1 + K < C) (hne : nth s.1 (t * C + t) ≠ 0) (h : Stands3 R C (smAB R C t s K) z) (hz : nth z.1 (t * C + (t + 1 + K)) ≠ 0) :
    Stands3 R C (smAB R C t s (K + 1)) (addC3 R C (t + 1 + K) t (-(flQ (nth z.1 (t * C + (t + 1 + K))) (nth s.1 (t * C + t)))) z) := by
  unfold smAB at *
  cases e : smA R C t s (R - t - 1) with
  | none => rw [e] at h; exact h.lostC
  | some x =>
    rw [e] at h
    have E := smA_AI hs htR htC (by omega) e
    have ep := E.same t t htR htC (.inl (Nat.le_refl _))
    have := smB_step E.ok htR htC hk (by rw [ep]; exact hne) h hz
    rw [ep] at this
    exact this
theorem smAB_piv {R C t : Nat} {s y : L3} (hs : Ok3 R C s) (htR : t < R) (htC : t < C) (h : smAB R C t s (C - t - 1) = some y) : nth y.1 (t * C + t) = nth s.1 (t * C + t) := by
  unfold smAB at h
  obtain ⟨x, h1, h2⟩ := Option.bind_eq_some_iff.1 h
  have EA := smA_AI hs htR htC (by omega) h1
  have EB := smB_BI EA.ok htR htC (by omega) h2
  rw [EB.same t t htR htC (.inl (Nat.le_refl _)), EA.same t t htR htC (.inl (Nat.le_refl _))]
/-- what a round of the reference leaves -/
def RndO (R C : Nat) (o : Option (L3 × Bool)) (x : L3) (b : Bool) : Prop := Stands3 R C (o.map (·.1)) x ∧ ∀ y q, o = some (y, q) → b = !q
theorem end_left {R C t : Nat} {oB : Option L3} {z : L3} (h : Stands3 R C oB z) (hl : lf R C t z.1 = true) : RndO R C (oB.bind fun y => smEnd R C t y) z false := by
  cases oB with
  | none => exact ⟨h, fun y q e => by cases e⟩
  | some y =>
    obtain ⟨rfl, ok⟩ := h.some_eq
    have e : smEnd R C t z = some (z, true) := by unfold smEnd; rw [if_pos hl]
    simp only [Option.bind_some]
    rw [e]
    exact ⟨h, fun y q e => by cases e; rfl⟩
theorem end_clean {R C t : Nat} {oB : Option L3} {z : L3} (h : Stands3 R C oB z) (hl : lf R C t z.1 = false) (hn : ∀ y, oB = some y → ndI C t y.1 (R - t - 1) = none) : RndO R C (oB.bind fun y => smEnd R C t y) z true := by
  cases oB with
  | none => exact ⟨h, fun y q e => by cases e⟩
  | some y =>
    obtain ⟨rfl, ok⟩ := h.some_eq
    have e : smEnd R C t z = some (z, false) := by unfold smEnd; rw [hl, hn z rfl]; rfl
    simp only [Option.bind_some]
    rw [e]
    exact ⟨h, fun y q e => by cases e; rfl⟩
theorem end_found {R C t i : Nat} {oB : Option L3} {z : L3} (h : Stands3 R C oB z) (hl : lf R C t z.1 = false) (hn : ∀ y, oB = some y → ndI C t y.1 (R - t - 1) = some i) : RndO R C (oB.bind fun y => smEnd R C t y) (addR3 R C t i 1 z) false := by
  cases oB with
  | none => exact ⟨h.lostR, fun y q e => by cases e⟩
  | some y =>
    obtain ⟨rfl, ok⟩ := h.some_eq
    have e : smEnd R C t z = (fit3 (addR3 R C t i 1 z)).map fun z => (z, true) := by unfold smEnd; rw [hl, hn z rfl]; rfl
    simp only [Option.bind_some]
    rw [e]
    refine ⟨?_, fun y q e => ?_⟩
    · have := h.addR (i := t) (j := i) (t := 1)
      simp only [Option.bind_some] at this
      rw [Option.map_map]
      have e2 : (fit3 (addR3 R C t i 1 z)).map ((fun x : L3 × Bool => x.1) ∘ fun z => (z, true)) = fit3 (addR3 R C t i 1 z) := by cases fit3 (addR3 R C t i 1 z) <;> rfl
      rw [e2]; exact this
    · obtain ⟨z', _, h2⟩ := Option.map_eq_some_iff.1 e
      cases h2; rfl
theorem lfA_next {C t I : Nat} {a : List Int} (h : t + 1 ≤ I) : lfA C t a (I + 1 - (t + 1)) = (lfA C t a (I - (t + 1)) || decide (nth a (I * C + t) ≠ 0)) := by
  rw [show I + 1 - (t + 1) = (I - (t + 1)) + 1 by omega, lfA, show t + 1 + (I - (t + 1)) = I by omega]
theorem lfB_next {C t I : Nat} {a : List Int} (h : t + 1 ≤ I) : lfB C t a (I + 1 - (t + 1)) = (lfB C t a (I - (t + 1)) || decide (nth a (t * C + I) ≠ 0)) := by
  rw [show I + 1 - (t + 1) = (I - (t + 1)) + 1 by omega, lfB, show t + 1 + (I - (t + 1)) = I by omega]
theorem ndJ_next {C t i J : Nat} {a : List Int} (h : t + 1 ≤ J) (h0 : ndJ C t a i (J - (t + 1)) = false) : ndJ C t a i (J + 1 - (t + 1)) = decide (nth a (i * C + J) % nth a (t * C + t) ≠ 0) := by
  rw [show J + 1 - (t + 1) = (J - (t + 1)) + 1 by omega, ndJ, h0, show t + 1 + (J - (t + 1)) = J by omega, Bool.false_or]
end Go.Proofs.Ytbfkpfdkndnhkaa

/- Contract: the place of the least cell, the reference's. -/
namespace Go.Proofs.Ytbfkpfdkndnhkaa
set_option linter.unusedSimpArgs false
set_option linter.unusedVariables false
open Go.RowKit

section
set_option maxHeartbeats 4000000
set_option maxRecDepth 100000
theorem l13Least_c (R C t : Nat) (A : Option Addr) (a : List Int) (n cap : Nat) (w : World) (hn : a.length = n) (hl : n = R * C) (hR : R ≤ 24) (hC : C ≤ 24) (htR : t ≤ R) (htC : t ≤ C) (hnum : ∀ i, i < n → isNum (nth a i) = true) (ha : Rd w A a) :
    Calls Try.prog 186 #[.agg #[.int .i64 R, .int .i64 C, .slice A n cap], .int .i64 t] w fun e w' => e = .returned (.tuple #[.int .i64 (encR (lst R C t a)), .int .i64 (encC (lst R C t a))]) ∧ Grows w w' := by
  obtain ⟨w1, hw1⟩ : ∃ w1, w1 = w.alloc (.cells #[.int .i64 R, .int .i64 C, .slice A n cap] 26) := ⟨_, rfl⟩
  have mb1 : MBox w1 w.heap.size R C (.slice A n cap) := by rw [hw1]; exact MBox.mk_ _ _ _ _ _
  have g01 : Grows w w1 := by rw [hw1]; exact bel0
  have ha1 := ha.grows g01
  have HW1 := Lib.hid hw1
  obtain ⟨LR, hLR⟩ : ∃ x, x = lst R C t a := ⟨_, rfl⟩
  rw [← hLR]
  have HLR := Lib.hid hLR
  clear hLR
  have hRC : R * C ≤ 576 := Nat.mul_le_mul hR hC
  have HB : ∀ i, i < R → i * C ≤ 576 := fun i hi => by have := Nat.mul_le_mul_right C (Nat.le_of_lt hi); omega
  have CC := Lib.hid fun (i j : Nat) (hi : i < R) (hj : j < C) W h => l12Cell_c R C A a n cap i j W hn h (castMul i C) (by have := castMulLe (HB i hi); omega) (castPos i C j) (castLt (by rw [hn, hl]; exact idx_lt hi hj)) (by rw [hn, hl]; omega)
  have HNUM := Lib.hid fun i j (hi : i < R) (hj : j < C) => (isNum_iff _).1 (hnum (i * C + j) (by rw [hl]; exact idx_lt hi hj))
  have HP := Lib.hid fun I J q h1 h2 h3 h => lsJ_in (R := R) (C := C) (t := t) (I := I) (J := J) (a := a) (q := q) h1 h2 h3 h
  clear hw1 hn hl HB hnum
  go_enter Try.func186, Try.ntmps186
  go_wp2_with fail
  rw [← HW1.out]
  go_loopw [6, 7, 8] (fun p q i wr => ∃ (I : Nat), i = .int .i64 I ∧ t ≤ I ∧ I ≤ R ∧ p = .int .i64 (encR (lsI C t a (I - t))) ∧ q = .int .i64 (encC (lsI C t a (I - t))) ∧ Grows w1 wr) (fun _ _ i _ => R - (intOf i).toNat)
  case atStart => exact ⟨t, rfl, Nat.le_refl _, htR, by rw [Nat.sub_self]; rfl, by rw [Nat.sub_self]; rfl, by exact bel0⟩
  case round =>
    obtain ⟨I, rfl, hIt, hI, rfl, rfl, hgi⟩ := hrel
    obtain ⟨wo, rfl⟩ : ∃ wo : World, wo = wr := ⟨_, rfl⟩
    have mbi := mb1.grows hgi
    obtain ⟨b0, b1, b2⟩ := mbi.cells
    have bl := mbi.lt
    by_cases hlt : I < R
    · have hlt' : (I : Int) < (R : Int) := by omega
      have HNI := Lib.hid (lsI_next (C := C) (a := a) hIt)
      obtain ⟨o, ho⟩ : ∃ o, o = lsI C t a (I - t) := ⟨_, rfl⟩
      have HP' := Lib.hid fun J q h3 h => HP.out I J q hIt hlt h3 h
      rw [← ho] at HP' HNI ⊢
      clear ho
      go_wp2_with fail
      go_loopw [6, 7, 9] (fun p q j wr => ∃ (J : Nat), j = .int .i64 J ∧ t ≤ J ∧ J ≤ C ∧ p = .int .i64 (encR (lsJ C t a I o (J - t))) ∧ q = .int .i64 (encC (lsJ C t a I o (J - t))) ∧ Grows wo wr) (fun _ _ j _ => C - (intOf j).toNat)
      case atStart => exact ⟨t, rfl, Nat.le_refl _, htC, by rw [Nat.sub_self]; rfl, by rw [Nat.sub_self]; rfl, by exact bel0⟩
      case round =>
        clear b0 b1 b2 bl
        obtain ⟨J, rfl, hJt, hJ, rfl, rfl, hg⟩ := hrel
        have mb := mbi.grows hg
        have hd : Rd wr A a := (ha1.grows hgi).grows hg
        obtain ⟨b0, b1, b2⟩ := mb.cells
        have bl := mb.lt
        by_cases hltj : J < C
        · have hltj' : (J : Int) < (C : Int) := by omega
          have C1 := fun W h => CC.out I J hlt hltj W h
          have X1 := Lib.hid fun W => l1Abs_c (nth a (I * C + J)) W (by have := HNUM.out I J hlt hltj; omega) (by have := HNUM.out I J hlt hltj; omega)
          rw [castIdx] at C1
          have C1' := Lib.hid C1
          clear C1
          by_cases hx : nth a (I * C + J) = 0
          · have HX := Lib.hid (lsJ_zero (i := I) (o := o) hJt hx)
            rw [hx] at C1' X1
            rw [show absI 0 = 0 from rfl] at X1
            clear hx
            generalize lsJ C t a I o (J - t) = bb at *
            go_wp2_with fail
            refine (C1'.out _ (by exact (Rd.grows hd (by exact bel0)))).mono ?_; rintro e w3 ⟨rfl, g3⟩
            go_wp2_with fail
            refine (X1.out _).mono ?_; rintro e w' ⟨rfl, rfl⟩
            go_wp2_with fail
            go_round
            case rel => exact ⟨J + 1, by go_num, by omega, by omega, by rw [HX.out], by rw [HX.out], by exact bel2 g3 hg⟩
            case measure => simp [intOf]; omega
          · have hx' : (absI (nth a (I * C + J)) != 0) = true := by
              rw [bne_iff_ne]; unfold absI; split <;> omega
            obtain ⟨bb, hbb⟩ : ∃ bb, bb = encR (lsJ C t a I o (J - t)) := ⟨_, rfl⟩
            obtain ⟨cc, hcc⟩ : ∃ cc, cc = encC (lsJ C t a I o (J - t)) := ⟨_, rfl⟩
            rw [← hbb, ← hcc]
            cases hb : lsJ C t a I o (J - t) with
            | none =>
              rw [hb] at hbb hcc
              obtain rfl : bb = -1 := hbb
              obtain rfl : cc = -1 := hcc
              have HX := Lib.hid (lsJ_first hJt hx hb)
              clear hx hb
              generalize absI (nth a (I * C + J)) = x1 at *
              generalize nth a (I * C + J) = x at *
              go_wp2_with fail
              refine (C1'.out _ (by exact (Rd.grows hd (by exact bel0)))).mono ?_; rintro e w3 ⟨rfl, g3⟩
              go_wp2_with fail
              refine (X1.out _).mono ?_; rintro e w' ⟨rfl, rfl⟩
              go_wp2_with fail
              go_round
              case rel => exact ⟨J + 1, by go_num, by omega, by omega, by rw [HX.out]; rfl, by rw [HX.out]; rfl, by exact bel2 g3 hg⟩
              case measure => simp [intOf]; omega
            | some q =>
              obtain ⟨p1, p2⟩ := q
              rw [hb] at hbb hcc
              obtain rfl : bb = (p1 : Int) := hbb
              obtain rfl : cc = (p2 : Int) := hcc
              obtain ⟨h1, h2⟩ := HP'.out J (p1, p2) hJ hb
              simp only at h1 h2
              have hp0 : decide (((p1 : Nat) : Int) < 0) = false := by rw [decide_eq_false_iff_not]; omega
              have C2 := fun W h => CC.out p1 p2 h1 h2 W h
              have X2 := Lib.hid fun W => l1Abs_c (nth a (p1 * C + p2)) W (by have := HNUM.out p1 p2 h1 h2; omega) (by have := HNUM.out p1 p2 h1 h2; omega)
              rw [castIdx] at C2
              have C2' := Lib.hid C2
              clear C2 h1 h2
              by_cases hc : absI (nth a (I * C + J)) < absI (nth a (p1 * C + p2))
              · have HX := Lib.hid (lsJ_less hJt hx hb hc)
                clear hx hb
                generalize absI (nth a (I * C + J)) = x1 at *
                generalize absI (nth a (p1 * C + p2)) = y1 at *
                generalize nth a (I * C + J) = x at *
                generalize nth a (p1 * C + p2) = y at *
                go_wp2_with fail
                refine (C1'.out _ (by exact (Rd.grows hd (by exact bel0)))).mono ?_; rintro e w3 ⟨rfl, g3⟩
                clear b0 b1 b2 bl
                replace mb := mb.grows (w' := w3) (by exact bel1 g3)
                obtain ⟨b0, b1, b2⟩ := mb.cells
                replace hd : Rd w3 A a := hd.grows (by exact bel1 g3)
                go_wp2_with fail
                refine (X1.out _).mono ?_; rintro e w' ⟨rfl, rfl⟩
                go_wp2_with fail
                refine (C2'.out _ (by exact (Rd.grows hd (by exact bel0)))).mono ?_; rintro e w4 ⟨rfl, g4⟩
                go_wp2_with fail
                refine (X2.out _).mono ?_; rintro e w' ⟨rfl, rfl⟩
                go_wp2_with fail
                go_round
                case rel => exact ⟨J + 1, by go_num, by omega, by omega, by rw [HX.out]; rfl, by rw [HX.out]; rfl, by exact bel3 g4 g3 hg⟩
                case measure => simp [intOf]; omega
              · have HX := Lib.hid (lsJ_more hJt hx hb hc)
                clear hx hb
                generalize absI (nth a (I * C + J)) = x1 at *
                generalize absI (nth a (p1 * C + p2)) = y1 at *
                generalize nth a (I * C + J) = x at *
                generalize nth a (p1 * C + p2) = y at *
                go_wp2_with fail
                refine (C1'.out _ (by exact (Rd.grows hd (by exact bel0)))).mono ?_; rintro e w3 ⟨rfl, g3⟩
                clear b0 b1 b2 bl
                replace mb := mb.grows (w' := w3) (by exact bel1 g3)
                obtain ⟨b0, b1, b2⟩ := mb.cells
                replace hd : Rd w3 A a := hd.grows (by exact bel1 g3)
                go_wp2_with fail
                refine (X1.out _).mono ?_; rintro e w' ⟨rfl, rfl⟩
                go_wp2_with fail
                refine (C2'.out _ (by exact (Rd.grows hd (by exact bel0)))).mono ?_; rintro e w4 ⟨rfl, g4⟩
                go_wp2_with fail
                refine (X2.out _).mono ?_; rintro e w' ⟨rfl, rfl⟩
                go_wp2_with fail
                go_round
                case rel => exact ⟨J + 1, by go_num, by omega, by omega, by rw [HX.out]; rfl, by rw [HX.out]; rfl, by exact bel3 g4 g3 hg⟩
                case measure => simp [intOf]; omega
        · obtain rfl : J = C := by omega
          generalize lsJ J t a I o (J - t) = bb at *
          go_wp2_with fail
          go_round
          case rel => exact ⟨I + 1, by go_num, by omega, by omega, by rw [HNI.out], by rw [HNI.out], by exact bel2 hg hgi⟩
          case measure => simp [intOf]; omega
    · obtain rfl : I = R := by omega
      have HE := Lib.hid (show LR = lsI C t a (I - t) from HLR.out)
      generalize lsI C t a (I - t) = bb at *
      go_wp2_with fail
      go_ret2
      exact ⟨by rw [HE.out]; rfl, by exact bel2 hgi g01⟩
end
end Go.Proofs.Ytbfkpfdkndnhkaa

/- Contract: a round of the Smith form, the reference's. -/
namespace Go.Proofs.Ytbfkpfdkndnhkaa
set_option linter.unusedSimpArgs false
set_option linter.unusedVariables false
open Go.RowKit

/-- three Matrix variables -/
theorem three_box (w : World) (r c r' c' r2 c2 : Int) (u u' u2 : Value) : ∃ w1, w1 = ((w.alloc (.cells #[.int .i64 r, .int .i64 c, u] 26)).alloc (.cells #[.int .i64 r', .int .i64 c', u'] 26)).alloc (.cells #[.int .i64 r2, .int .i64 c2, u2] 26) ∧
    MBox w1 w.heap.size r c u ∧ MBox w1 (w.heap.size + 1) r' c' u' ∧ MBox w1 (w.heap.size + 1 + 1) r2 c2 u2 ∧ Grows w w1 :=
  ⟨_, rfl, (MBox.mk_ _ _ _ _ _).grows (by exact bel0), (MBox.new_ _ _ _ _ _ (by simp)).alloc _, MBox.new_ _ _ _ _ _ (by simp), by exact bel0⟩
/-- what a round answers -/
def RndS (R C B : Nat) (A U V : Option Addr) (n cap m cap2 k cap3 : Nat) (o : Option (L3 × Bool)) (w : World) (e : Ending) (w' : World) : Prop := ∃ (x : L3) (b : Bool), e = .returned (.bool b) ∧ RowKit.Hid (RndO R C o x b) ∧ Tr w' B A U V n cap m cap2 k cap3 x ∧ GrownP (TB A U V n cap m cap2 k cap3) w w'
section
set_option maxHeartbeats 40000000
set_option maxRecDepth 100000
theorem l13Round_c (R C t : Nat) (A U V : Option Addr) (n cap m cap2 k cap3 B : Nat) (s : L3) (w : World) (hn : n = R * C) (hm : m = R * R) (hk : k = C * C) (hR : R ≤ 24) (hC : C ≤ 24) (ok : Ok3 R C s) (htR : t < R) (htC : t < C) (hne : nth s.1 (t * C + t) ≠ 0) (tr : Tr w B A U V n cap m cap2 k cap3 s) :
    Calls Try.prog 188 #[.agg #[.int .i64 R, .int .i64 C, .slice A n cap], .agg #[.int .i64 R, .int .i64 R, .slice U m cap2], .agg #[.int .i64 C, .int .i64 C, .slice V k cap3], .int .i64 t] w (RndS R C B A U V n cap m cap2 k cap3 (smE R C t s) w) := by
  obtain ⟨w1, hw1, mbA1, mbU1, mbV1, g01⟩ := three_box w R C R R C C (.slice A n cap) (.slice U m cap2) (.slice V k cap3)
  have hlo := tr.lo
  have MA := Lib.hid fun wr (g : GrownP (TB A U V n cap m cap2 k cap3) w1 wr) => mbA1.farP g (fun h => by have := (hlo _ h).2; omega)
  have MU := Lib.hid fun wr (g : GrownP (TB A U V n cap m cap2 k cap3) w1 wr) => mbU1.farP g (fun h => by have := (hlo _ h).2; omega)
  have MV := Lib.hid fun wr (g : GrownP (TB A U V n cap m cap2 k cap3) w1 wr) => mbV1.farP g (fun h => by have := (hlo _ h).2; omega)
  have hsz1 := Below.size g01
  have HNB := Lib.hid fun b (hb : w1.heap.size ≤ b) (h : TB A U V n cap m cap2 k cap3 b) => (by have := (hlo _ h).2; omega : False)
  have tr1 := tr.grows g01
  have HW1 := Lib.hid hw1
  have G01 := Lib.hid g01
  obtain ⟨P, hP⟩ : ∃ P, P = TB A U V n cap m cap2 k cap3 := ⟨_, rfl⟩
  have HOK := Lib.hid ok
  have HNE := Lib.hid hne
  have hRC : R * C ≤ 576 := Nat.mul_le_mul hR hC
  have hIC : ∀ i, i < R → i * C ≤ 576 := fun i hi => by have := Nat.mul_le_mul_right C (Nat.le_of_lt hi); omega
  have CC := Lib.hid fun (z : L3) (mk : Mk3 R C z) (i J : Nat) (hi : i < R) (hJ : J < C) W h => l12Cell_c R C A z.1 n cap i J W (mk.l1.trans hn.symm) h (castMul i C) (by have := castMulLe (hIC i hi); omega) (castPos i C J) (castLt (by rw [mk.l1]; exact idx_lt hi hJ)) (by rw [mk.l1]; omega)
  have CO := Lib.hid fun i j q (z : L3) W (hi : i < R) (hj : j < R) (hq : isNum q = true) (mk : Mk3 R C z) (tr : Tr W B A U V n cap m cap2 k cap3 z) => opAdd3_c hn hm hR hC hi hj hq mk tr
  have CA := Lib.hid fun i j q (z : L3) W (hi : i < C) (hj : j < C) (hq : isNum q = true) (mk : Mk3 R C z) (tr : Tr W B A U V n cap m cap2 k cap3 z) => colAddA_c hn hR hC hi hj hq (mk.l1.trans hn.symm) mk.m1 tr
  have CV := Lib.hid fun i j q (z : L3) W (hi : i < C) (hj : j < C) (hq : isNum q = true) (h3 : z.2.2.length = C * C) (m3 : mkd z.2.2) (tr : Tr W B A U V n cap m cap2 k cap3 z) => colAddV_c hk hC hi hj hq (h3.trans hk.symm) m3 tr
  have CD := Lib.hid fun x y W => sDivF_c x y W
  have C0 := fun W h => CC.out s ok.mk3 t t htR htC W h
  rw [castIdx] at C0
  have hps : isNum (nth s.1 (t * C + t)) = true := (allNum_iff _).1 ok.n1 _ (by rw [ok.l1]; exact idx_lt htR htC)
  obtain ⟨p, hp⟩ : ∃ p, p = nth s.1 (t * C + t) := ⟨_, rfl⟩
  rw [← hp] at C0 hne hps
  have C0' := Lib.hid C0
  have HP := Lib.hid hp
  clear hw1 hn hm hk hlo mbA1 mbU1 mbV1 hIC hRC tr ok C0 g01 hsz1 hP hp hps
  go_enter Try.func188, Try.ntmps188
  go_wp2_with fail
  rw [← HW1.out]
  refine (C0'.out _ tr1.oa.rd').mono ?_; rintro e w2 ⟨rfl, g2⟩
  have tr2 := tr1.grows g2
  have gr2 : GrownP (TB A U V n cap m cap2 k cap3) w1 w2 := (GrownP.refl w1).right g2
  clear tr1 g2 C0'
  go_upto_block 0 with fail
  go_cut [] (fun wx => ∃ z, RowKit.Hid (Stands3 R C (smA R C t s (R - t - 1)) z) ∧ Tr wx B A U V n cap m cap2 k cap3 z ∧ GrownP (TB A U V n cap m cap2 k cap3) w1 wx)
  case first =>
    go_wp2_with fail
    go_loopw [11] (fun i wr => ∃ (I : Nat) (z : L3), i = .int .i64 I ∧ t + 1 ≤ I ∧ I ≤ R ∧ RowKit.Hid (Stands3 R C (smA R C t s (I - (t + 1))) z) ∧ Tr wr B A U V n cap m cap2 k cap3 z ∧ GrownP (TB A U V n cap m cap2 k cap3) w1 wr) (fun i _ => R - (intOf i).toNat)
    case atStart => exact ⟨t + 1, s, by first | rfl | simp, Nat.le_refl _, by omega, Lib.hid (by rw [Nat.sub_self]; exact HOK.out.stands), tr2, gr2⟩
    case round =>
      clear tr2 gr2
      obtain ⟨I, z, rfl, hI1, hI2, HS, tr, gr⟩ := hrel
      obtain ⟨a0, a1, a2⟩ := (MA.out wr gr).cells
      obtain ⟨u0, u1, u2⟩ := (MU.out wr gr).cells
      by_cases hlt : I < R
      · have hlt' : (I : Int) < (R : Int) := by omega
        have C2 := fun W h => CC.out z HS.out.1 I t hlt htC W h
        rw [castIdx] at C2
        by_cases hz : nth z.1 (I * C + t) = 0
        · have HX : RowKit.Hid (Stands3 R C (smA R C t s (I + 1 - (t + 1))) z) := Lib.hid (by
            rw [show I + 1 - (t + 1) = (I - (t + 1)) + 1 by omega]
            exact smA_skip HS.out (by rw [show t + 1 + (I - (t + 1)) = I by omega]; exact hz))
          rw [hz] at C2
          have C2' := Lib.hid C2
          clear C2 hz
          go_wp2_with fail
          refine (C2'.out _ tr.oa.rd').mono ?_; rintro e w5 ⟨rfl, g5⟩
          go_wp2_with fail
          go_round
          case rel => exact ⟨I + 1, z, by go_num, by omega, by omega, HX, tr.grows g5, gr.right g5⟩
          case measure => simp [intOf]; omega
        · have hz' : (nth z.1 (I * C + t) != 0) = true := by simpa using hz
          have HX : RowKit.Hid (Stands3 R C (smA R C t s (I + 1 - (t + 1))) (addR3 R C I t (-(flQ (nth z.1 (I * C + t)) p)) z)) := Lib.hid (by
            have h := smA_step HOK.out htR htC (K := I - (t + 1)) (by omega) HNE.out HS.out (by rw [show t + 1 + (I - (t + 1)) = I by omega]; exact hz)
            rw [show t + 1 + (I - (t + 1)) = I by omega, ← HP.out] at h
            rw [show I + 1 - (t + 1) = (I - (t + 1)) + 1 by omega]
            exact h)
          have CDV := fun W => CD.out (nth z.1 (I * C + t)) p W
          have hq := (isNum_iff _).1 (flQ_num (n := nth z.1 (I * C + t)) (d := p))
          have CO1 := fun W tr => CO.out I t (-(flQ (nth z.1 (I * C + t)) p)) z W hlt htR (by rw [isNum_iff]; omega) HS.out.1 tr
          have C2' := Lib.hid C2
          clear C2 hz
          generalize flQ (nth z.1 (I * C + t)) p = q at *
          generalize flR (nth z.1 (I * C + t)) p = q1 at *
          generalize flB (nth z.1 (I * C + t)) p = q2 at *
          generalize nth z.1 (I * C + t) = c1 at *
          have CDV' := Lib.hid CDV
          have CO1' := Lib.hid CO1
          clear CDV CO1
          go_wp2_with fail
          refine (C2'.out _ tr.oa.rd').mono ?_; rintro e w5 ⟨rfl, g5⟩
          replace tr := tr.grows g5
          replace gr := gr.right g5
          clear a0 a1 a2 u0 u1 u2 g5
          obtain ⟨a0, a1, a2⟩ := (MA.out w5 gr).cells
          obtain ⟨u0, u1, u2⟩ := (MU.out w5 gr).cells
          go_wp2_with fail
          refine (C2'.out _ tr.oa.rd').mono ?_; rintro e w6 ⟨rfl, g6⟩
          replace tr := tr.grows g6
          replace gr := gr.right g6
          clear a0 a1 a2 u0 u1 u2 g6
          obtain ⟨a0, a1, a2⟩ := (MA.out w6 gr).cells
          obtain ⟨u0, u1, u2⟩ := (MU.out w6 gr).cells
          go_wp2_with fail
          refine (CDV'.out _).mono ?_; rintro e w7 ⟨rfl, g7⟩
          replace tr := tr.grows g7
          replace gr := gr.right g7
          clear a0 a1 a2 u0 u1 u2 g7
          obtain ⟨a0, a1, a2⟩ := (MA.out w7 gr).cells
          obtain ⟨u0, u1, u2⟩ := (MU.out w7 gr).cells
          go_wp2_with fail
          refine (CO1'.out _ tr).mono ?_; rintro e w8 ⟨rfl, tr8, g8⟩
          replace gr := gr.trans g8
          clear tr g8 a0 a1 a2 u0 u1 u2
          go_wp2_with fail
          go_round
          case rel => exact ⟨I + 1, _, by go_num, by omega, by omega, HX, tr8, gr⟩
          case measure => simp [intOf]; omega
      · have eK : I = R := by omega
        have HX : RowKit.Hid (Stands3 R C (smA R C t s (R - t - 1)) z) := Lib.hid (by rw [show R - t - 1 = I - (t + 1) by omega]; exact HS.out)
        have hlt' : ¬ (I : Int) < (R : Int) := by omega
        clear eK
        go_wp2_with fail
        go_meet
        exact ⟨z, HX, tr, gr⟩
  case rest =>
    clear tr2 gr2
    obtain ⟨z1, HZ1, tr, gr⟩ := hcut
    obtain ⟨w3, rfl⟩ : ∃ x : World, x = wc := ⟨_, rfl⟩
    go_upto_block 2 with fail
    go_cut [] (fun wx => ∃ z, RowKit.Hid (Stands3 R C (smAB R C t s (C - t - 1)) z) ∧ Tr wx B A U V n cap m cap2 k cap3 z ∧ GrownP (TB A U V n cap m cap2 k cap3) w1 wx)
    case first =>
      go_wp2_with fail
      go_loopw [15] (fun i wr => ∃ (I : Nat) (z : L3), i = .int .i64 I ∧ t + 1 ≤ I ∧ I ≤ C ∧ RowKit.Hid (Stands3 R C (smAB R C t s (I - (t + 1))) z) ∧ Tr wr B A U V n cap m cap2 k cap3 z ∧ GrownP (TB A U V n cap m cap2 k cap3) w1 wr) (fun i _ => C - (intOf i).toNat)
      case atStart => exact ⟨t + 1, z1, by first | rfl | simp, Nat.le_refl _, by omega, Lib.hid (by rw [Nat.sub_self]; exact smAB_zero HZ1.out), tr, gr⟩
      case round =>
        clear tr gr
        obtain ⟨I, z, rfl, hI1, hI2, HS, tr, gr⟩ := hrel
        obtain ⟨a0, a1, a2⟩ := (MA.out wr gr).cells
        obtain ⟨u0, u1, u2⟩ := (MV.out wr gr).cells
        by_cases hlt : I < C
        · have hlt' : (I : Int) < (C : Int) := by omega
          have C2 := fun W h => CC.out z HS.out.1 t I htR hlt W h
          rw [castIdx] at C2
          by_cases hz : nth z.1 (t * C + I) = 0
          · have HX : RowKit.Hid (Stands3 R C (smAB R C t s (I + 1 - (t + 1))) z) := Lib.hid (by
              rw [show I + 1 - (t + 1) = (I - (t + 1)) + 1 by omega]
              exact smAB_skip HS.out (by rw [show t + 1 + (I - (t + 1)) = I by omega]; exact hz))
            rw [hz] at C2
            have C2' := Lib.hid C2
            clear C2 hz
            go_wp2_with fail
            refine (C2'.out _ tr.oa.rd').mono ?_; rintro e w5 ⟨rfl, g5⟩
            go_wp2_with fail
            go_round
            case rel => exact ⟨I + 1, z, by go_num, by omega, by omega, HX, tr.grows g5, gr.right g5⟩
            case measure => simp [intOf]; omega
          · by_cases hbd : nth z.1 (t * C + I) = bad
            · have HX : RowKit.Hid (Stands3 R C (smAB R C t s (I + 1 - (t + 1))) z) := Lib.hid (by
                rw [show I + 1 - (t + 1) = (I - (t + 1)) + 1 by omega]
                exact smAB_bad htR (by omega) HS.out (by rw [show t + 1 + (I - (t + 1)) = I by omega]; exact hbd))
              rw [hbd] at C2
              have C2' := Lib.hid C2
              clear C2 hz hbd
              go_wp2_with fail
              refine (C2'.out _ tr.oa.rd').mono ?_; rintro e w5 ⟨rfl, g5⟩
              replace tr := tr.grows g5
              replace gr := gr.right g5
              clear a0 a1 a2 u0 u1 u2 g5
              obtain ⟨a0, a1, a2⟩ := (MA.out w5 gr).cells
              go_wp2_with fail
              refine (C2'.out _ tr.oa.rd').mono ?_; rintro e w6 ⟨rfl, g6⟩
              go_wp2_with fail
              go_round
              case rel => exact ⟨I + 1, z, by go_num, by omega, by omega, HX, tr.grows g6, gr.right g6⟩
              case measure => simp [intOf]; omega
            · have hz' : (nth z.1 (t * C + I) != 0) = true := by simpa using hz
              have hb' : (nth z.1 (t * C + I) != bad) = true := by simpa using hbd
              have HX : RowKit.Hid (Stands3 R C (smAB R C t s (I + 1 - (t + 1))) (addC3 R C I t (-(flQ (nth z.1 (t * C + I)) p)) z)) := Lib.hid (by
                have h := smAB_step HOK.out htR htC (K := I - (t + 1)) (by omega) HNE.out HS.out (by rw [show t + 1 + (I - (t + 1)) = I by omega]; exact hz)
                rw [show t + 1 + (I - (t + 1)) = I by omega, ← HP.out] at h
                rw [show I + 1 - (t + 1) = (I - (t + 1)) + 1 by omega]
                exact h)
              have CDV := fun W => CD.out (nth z.1 (t * C + I)) p W
              have hq := (isNum_iff _).1 (flQ_num (n := nth z.1 (t * C + I)) (d := p))
              have CA1 := fun W tr => CA.out I t (-(flQ (nth z.1 (t * C + I)) p)) z W hlt htC (by rw [isNum_iff]; omega) HS.out.1 tr
              have CV1 := fun a u W tr => CV.out I t (-(flQ (nth z.1 (t * C + I)) p)) (a, u, z.2.2) W hlt htC (by rw [isNum_iff]; omega) HS.out.1.l3 HS.out.1.m3 tr
              have C2' := Lib.hid C2
              clear C2 hz hbd
              generalize flQ (nth z.1 (t * C + I)) p = q at *
              generalize flR (nth z.1 (t * C + I)) p = q1 at *
              generalize flB (nth z.1 (t * C + I)) p = q2 at *
              generalize nth z.1 (t * C + I) = c1 at *
              have CDV' := Lib.hid CDV
              have CA1' := Lib.hid CA1
              have CV1' := Lib.hid CV1
              clear CDV CA1 CV1
              unfold bad at hb'
              go_wp2_with fail
              refine (C2'.out _ tr.oa.rd').mono ?_; rintro e w5 ⟨rfl, g5⟩
              replace tr := tr.grows g5
              replace gr := gr.right g5
              clear a0 a1 a2 u0 u1 u2 g5
              obtain ⟨a0, a1, a2⟩ := (MA.out w5 gr).cells
              go_wp2_with fail
              refine (C2'.out _ tr.oa.rd').mono ?_; rintro e w6 ⟨rfl, g6⟩
              replace tr := tr.grows g6
              replace gr := gr.right g6
              clear a0 a1 a2 g6
              obtain ⟨a0, a1, a2⟩ := (MA.out w6 gr).cells
              go_wp2_with fail
              refine (C2'.out _ tr.oa.rd').mono ?_; rintro e w7 ⟨rfl, g7⟩
              replace tr := tr.grows g7
              replace gr := gr.right g7
              clear a0 a1 a2 g7
              go_wp2_with fail
              refine (CDV'.out _).mono ?_; rintro e w8 ⟨rfl, g8⟩
              replace tr := tr.grows g8
              replace gr := gr.right g8
              clear g8
              have mbA := MA.out w8 gr
              obtain ⟨a0, a1, a2⟩ := mbA.cells
              have al := mbA.lt
              obtain ⟨w9, hw9⟩ : ∃ w9, w9 = w8.alloc (.cells #[.int .i64 2, .int .i64 I, .int .i64 t, .int .i64 (-q)] 105) := ⟨_, rfl⟩
              have ob : OBox w9 w8.heap.size 2 I t (-q) := by rw [hw9]; exact OBox.new_ _ _ _ _ _ _ rfl
              have g9 : Grows w8 w9 := by rw [hw9]; exact bel0
              have hs18 := gr.size
              have HW9 := Lib.hid hw9
              clear hw9
              replace tr := tr.grows g9
              replace gr := gr.right g9
              go_wp2_with fail
              rw [← HW9.out]
              refine (CA1'.out _ tr).mono ?_; rintro e wa ⟨rfl, tra, ga⟩
              replace gr := gr.trans ga
              replace ob := ob.farP ga (fun h => HNB.out _ hs18 h)
              clear tr ga a0 a1 a2 al mbA g9
              obtain ⟨u0, u1, u2⟩ := (MV.out wa gr).cells
              obtain ⟨o0, o1, o2, o3⟩ := ob.cells
              go_wp2_with fail
              refine (CV1'.out _ _ _ tra).mono ?_; rintro e wb ⟨rfl, trb, gb⟩
              replace gr := gr.trans gb
              clear tra gb u0 u1 u2 o0 o1 o2 o3
              go_wp2_with fail
              go_round
              case rel => exact ⟨I + 1, _, by go_num, by omega, by omega, HX, trb, gr⟩
              case measure => simp [intOf]; omega
        · have HX : RowKit.Hid (Stands3 R C (smAB R C t s (C - t - 1)) z) := Lib.hid (by rw [show C - t - 1 = I - (t + 1) by omega]; exact HS.out)
          have hlt' : ¬ (I : Int) < (C : Int) := by omega
          go_wp2_with fail
          go_meet
          exact ⟨z, HX, tr, gr⟩
    case rest =>
      clear tr gr HZ1
      obtain ⟨z, HZ, tr, gr⟩ := hcut
      obtain ⟨w4, rfl⟩ : ∃ x : World, x = wc := ⟨_, rfl⟩
      have CZ := Lib.hid fun (i J : Nat) (hi : i < R) (hJ : J < C) W h => CC.out z HZ.out.1 i J hi hJ W h
      go_upto_block 4 with fail
      go_cut [10] (fun c10 wx => c10 = .bool (!lfA C t z.1 (R - t - 1)) ∧ Tr wx B A U V n cap m cap2 k cap3 z ∧ GrownP (TB A U V n cap m cap2 k cap3) w1 wx)
      case first =>
        go_wp2_with fail
        go_loopw [10, 20] (fun c10 i wr => ∃ (I : Nat), i = .int .i64 I ∧ t + 1 ≤ I ∧ I ≤ R ∧ c10 = .bool (!lfA C t z.1 (I - (t + 1))) ∧ Tr wr B A U V n cap m cap2 k cap3 z ∧ GrownP (TB A U V n cap m cap2 k cap3) w1 wr) (fun _ i _ => R - (intOf i).toNat)
        case atStart => exact ⟨t + 1, by first | rfl | simp, Nat.le_refl _, by omega, by rw [Nat.sub_self]; rfl, tr, gr⟩
        case round =>
          clear tr gr
          obtain ⟨I, rfl, hI1, hI2, rfl, tr, gr⟩ := hrel
          obtain ⟨a0, a1, a2⟩ := (MA.out wr gr).cells
          by_cases hlt : I < R
          · have hlt' : (I : Int) < (R : Int) := by omega
            have C2 := fun W h => CZ.out I t hlt htC W h
            rw [castIdx] at C2
            have HX := Lib.hid (lfA_next (C := C) (a := z.1) hI1)
            generalize nth z.1 (I * C + t) = c1 at *
            obtain ⟨L, hL⟩ : ∃ L, L = lfA C t z.1 (I - (t + 1)) := ⟨_, rfl⟩
            rw [← hL] at HX ⊢
            clear hL
            have C2' := Lib.hid C2
            clear C2
            cases L
            · go_wp2_with fail
              refine (C2'.out _ tr.oa.rd').mono ?_; rintro e w5 ⟨rfl, g5⟩
              go_wp2_with fail
              go_round
              case rel => exact ⟨I + 1, by go_num, by omega, by omega, by rw [HX.out]; by_cases h0 : c1 = 0 <;> simp [h0], tr.grows g5, gr.right g5⟩
              case measure => simp [intOf]; omega
            · go_wp2_with fail
              go_round
              case rel => exact ⟨I + 1, by go_num, by omega, by omega, by rw [HX.out]; rfl, tr, gr⟩
              case measure => simp [intOf]; omega
          · have HX := Lib.hid (show lfA C t z.1 (R - t - 1) = lfA C t z.1 (I - (t + 1)) by rw [show R - t - 1 = I - (t + 1) by omega])
            have hlt' : ¬ (I : Int) < (R : Int) := by omega
            generalize lfA C t z.1 (I - (t + 1)) = L at *
            go_wp2_with fail
            go_meet
            exact ⟨by rw [HX.out], tr, gr⟩
      case rest =>
        clear tr gr
        obtain ⟨rfl, tr, gr⟩ := hcut
        obtain ⟨w5, rfl⟩ : ∃ x : World, x = wc := ⟨_, rfl⟩
        obtain ⟨L1, hL1⟩ : ∃ L, L = lfA C t z.1 (R - t - 1) := ⟨_, rfl⟩
        have HL1 := Lib.hid hL1
        rw [← hL1]
        clear hL1
        go_upto_block 6 with fail
        go_cut [10] (fun c10 wx => c10 = .bool (!(L1 || lfB C t z.1 (C - t - 1))) ∧ Tr wx B A U V n cap m cap2 k cap3 z ∧ GrownP (TB A U V n cap m cap2 k cap3) w1 wx)
        case first =>
          go_wp2_with fail
          go_loopw [10, 21] (fun c10 i wr => ∃ (I : Nat), i = .int .i64 I ∧ t + 1 ≤ I ∧ I ≤ C ∧ c10 = .bool (!(L1 || lfB C t z.1 (I - (t + 1)))) ∧ Tr wr B A U V n cap m cap2 k cap3 z ∧ GrownP (TB A U V n cap m cap2 k cap3) w1 wr) (fun _ i _ => C - (intOf i).toNat)
          case atStart => exact ⟨t + 1, by first | rfl | simp, Nat.le_refl _, by omega, by rw [Nat.sub_self]; simp [lfB], tr, gr⟩
          case round =>
            clear tr gr
            obtain ⟨I, rfl, hI1, hI2, rfl, tr, gr⟩ := hrel
            obtain ⟨a0, a1, a2⟩ := (MA.out wr gr).cells
            by_cases hlt : I < C
            · have hlt' : (I : Int) < (C : Int) := by omega
              have C2 := fun W h => CZ.out t I htR hlt W h
              rw [castIdx] at C2
              have HX := Lib.hid (show (L1 || lfB C t z.1 (I + 1 - (t + 1))) = ((L1 || lfB C t z.1 (I - (t + 1))) || decide (nth z.1 (t * C + I) ≠ 0)) by rw [lfB_next hI1, Bool.or_assoc])
              generalize nth z.1 (t * C + I) = c1 at *
              obtain ⟨L, hL⟩ : ∃ L, L = (L1 || lfB C t z.1 (I - (t + 1))) := ⟨_, rfl⟩
              rw [← hL] at HX ⊢
              clear hL
              have C2' := Lib.hid C2
              clear C2
              cases L
              · go_wp2_with fail
                refine (C2'.out _ tr.oa.rd').mono ?_; rintro e w6 ⟨rfl, g6⟩
                go_wp2_with fail
                go_round
                case rel => exact ⟨I + 1, by go_num, by omega, by omega, by rw [HX.out]; by_cases h0 : c1 = 0 <;> simp [h0], tr.grows g6, gr.right g6⟩
                case measure => simp [intOf]; omega
              · go_wp2_with fail
                go_round
                case rel => exact ⟨I + 1, by go_num, by omega, by omega, by rw [HX.out]; rfl, tr, gr⟩
                case measure => simp [intOf]; omega
            · have HX := Lib.hid (show (L1 || lfB C t z.1 (C - t - 1)) = (L1 || lfB C t z.1 (I - (t + 1))) by rw [show C - t - 1 = I - (t + 1) by omega])
              have hlt' : ¬ (I : Int) < (C : Int) := by omega
              obtain ⟨L, hL⟩ : ∃ L, L = (L1 || lfB C t z.1 (I - (t + 1))) := ⟨_, rfl⟩
              rw [← hL] at HX ⊢
              clear hL
              go_wp2_with fail
              go_meet
              exact ⟨by rw [HX.out], tr, gr⟩
        case rest =>
          clear tr gr
          obtain ⟨rfl, tr, gr⟩ := hcut
          obtain ⟨w6, rfl⟩ : ∃ x : World, x = wc := ⟨_, rfl⟩
          have HLF := Lib.hid (show lf R C t z.1 = (L1 || lfB C t z.1 (C - t - 1)) by unfold lf; rw [HL1.out])
          obtain ⟨L, hL⟩ : ∃ L, L = (L1 || lfB C t z.1 (C - t - 1)) := ⟨_, rfl⟩
          rw [← hL] at HLF ⊢
          clear hL HL1
          obtain ⟨oB, hoB⟩ : ∃ oB, oB = smAB R C t s (C - t - 1) := ⟨_, rfl⟩
          have HE := Lib.hid (show smE R C t s = oB.bind fun y => smEnd R C t y by rw [smE_eq, hoB])
          have HPV := Lib.hid fun y (h : oB = some y) => (show y = z ∧ Ok3 R C z ∧ nth z.1 (t * C + t) = p by
            rw [hoB] at h
            have h2 := HZ.out
            rw [h] at h2
            obtain ⟨e1, e2⟩ := h2.some_eq
            exact ⟨e1.symm, e1 ▸ e2, by rw [HP.out, ← smAB_piv HOK.out htR htC h, e1]⟩)
          rw [← hoB] at HZ
          clear hoB
          cases L with
          | true =>
            have HF := Lib.hid (show RndO R C (smE R C t s) z false by rw [HE.out]; exact end_left HZ.out HLF.out)
            obtain ⟨a0, a1, a2⟩ := (MA.out w6 gr).cells
            go_wp2_with fail
            go_loopw [10, 22] (fun c10 i wr => ∃ (I : Nat), i = .int .i64 I ∧ c10 = .bool false ∧ Tr wr B A U V n cap m cap2 k cap3 z ∧ GrownP (TB A U V n cap m cap2 k cap3) w1 wr) (fun _ _ _ => 0)
            case atStart => exact ⟨t + 1, by first | rfl | simp, rfl, tr, gr⟩
            case round =>
              clear tr gr a0 a1 a2
              obtain ⟨I, rfl, rfl, tr, gr⟩ := hrel
              obtain ⟨a0, a1, a2⟩ := (MA.out wr gr).cells
              by_cases hlt : (I : Int) < (R : Int)
              · go_wp2_with fail
                go_ret
                exact ⟨z, false, rfl, HF, tr, GrownP.left G01.out gr⟩
              · go_wp2_with fail
                go_ret
                exact ⟨z, false, rfl, HF, tr, GrownP.left G01.out gr⟩
          | false =>
            have HFC := Lib.hid fun (hx : ∀ y, oB = some y → ndI C t y.1 (R - t - 1) = none) => (show RndO R C (smE R C t s) z true by rw [HE.out]; exact end_clean HZ.out HLF.out hx)
            have HFF := Lib.hid fun i (hx : ∀ y, oB = some y → ndI C t y.1 (R - t - 1) = some i) => (show RndO R C (smE R C t s) (addR3 R C t i 1 z) false by rw [HE.out]; exact end_found HZ.out HLF.out hx)
            have CO2 := Lib.hid fun I W (hI : I < R) tr => CO.out t I 1 z W htR hI (by decide) HZ.out.1 tr
            obtain ⟨a0, a1, a2⟩ := (MA.out w6 gr).cells
            go_wp2_with fail
            go_loopw [10, 22] (fun c10 i wr => ∃ (I : Nat) (cl : Bool) (z' : L3), i = .int .i64 I ∧ t + 1 ≤ I ∧ I ≤ R ∧ c10 = .bool cl ∧ RowKit.Hid ((cl = true → z' = z ∧ ∀ y, oB = some y → ndI C t y.1 (I - (t + 1)) = none) ∧ (cl = false → RndO R C (smE R C t s) z' false)) ∧ Tr wr B A U V n cap m cap2 k cap3 z' ∧ GrownP (TB A U V n cap m cap2 k cap3) w1 wr) (fun _ i _ => R - (intOf i).toNat)
            case atStart => exact ⟨t + 1, true, z, by first | rfl | simp, Nat.le_refl _, by omega, rfl, Lib.hid ⟨fun _ => ⟨rfl, fun y _ => by rw [Nat.sub_self]; rfl⟩, (fun h => by cases h)⟩, tr, gr⟩
            case round =>
              clear tr gr a0 a1 a2
              obtain ⟨I, cl, z', rfl, hI1, hI2, rfl, HR, tr, gr⟩ := hrel
              obtain ⟨wo, rfl⟩ : ∃ wo : World, wo = wr := ⟨_, rfl⟩
              obtain ⟨a0, a1, a2⟩ := (MA.out wo gr).cells
              cases cl with
              | false =>
                have HF : RowKit.Hid (RndO R C (smE R C t s) z' false) := Lib.hid (by first | exact HR.out.2 rfl | exact HR.out.2 trivial)
                by_cases hlt : (I : Int) < (R : Int)
                · go_wp2_with fail
                  go_ret
                  exact ⟨z', false, rfl, HF, tr, GrownP.left G01.out gr⟩
                · go_wp2_with fail
                  go_ret
                  exact ⟨z', false, rfl, HF, tr, GrownP.left G01.out gr⟩
              | true =>
                obtain ⟨hzz, hno⟩ := (by first | exact HR.out.1 rfl | exact HR.out.1 trivial : z' = z ∧ ∀ y, oB = some y → ndI C t y.1 (I - (t + 1)) = none)
                subst hzz
                have HNO := Lib.hid hno
                clear HR hno
                by_cases hltN : I < R
                · have hlt : (I : Int) < (R : Int) := by omega
                  go_wp2_with fail
                  go_loopw [10, 23] (fun c10 j wr => ∃ (J : Nat) (cl : Bool) (z2 : L3), j = .int .i64 J ∧ t + 1 ≤ J ∧ J ≤ C ∧ c10 = .bool cl ∧ RowKit.Hid ((cl = true → z2 = z' ∧ ∀ y, oB = some y → ndJ C t y.1 I (J - (t + 1)) = false) ∧ (cl = false → RndO R C (smE R C t s) z2 false)) ∧ Tr wr B A U V n cap m cap2 k cap3 z2 ∧ GrownP (TB A U V n cap m cap2 k cap3) w1 wr) (fun _ j _ => C - (intOf j).toNat)
                  case atStart => exact ⟨t + 1, true, z', by first | rfl | simp, Nat.le_refl _, by omega, rfl, Lib.hid ⟨fun _ => ⟨rfl, fun y _ => by rw [Nat.sub_self]; rfl⟩, (fun h => by cases h)⟩, tr, gr⟩
                  case round =>
                    clear tr gr a0 a1 a2
                    obtain ⟨J, cl, z2, rfl, hJ1, hJ2, rfl, HR, tr, gr⟩ := hrel
                    obtain ⟨a0, a1, a2⟩ := (MA.out wr gr).cells
                    cases cl with
                    | false =>
                      have HF : RowKit.Hid (RndO R C (smE R C t s) z2 false) := Lib.hid (by first | exact HR.out.2 rfl | exact HR.out.2 trivial)
                      by_cases hltj : (J : Int) < (C : Int)
                      · go_wp2_with fail
                        go_round
                        case rel => exact ⟨I + 1, false, z2, by go_num, by omega, by omega, rfl, Lib.hid ⟨(fun h => by cases h), fun _ => HF.out⟩, tr, gr⟩
                        case measure => simp [intOf]; omega
                      · go_wp2_with fail
                        go_round
                        case rel => exact ⟨I + 1, false, z2, by go_num, by omega, by omega, rfl, Lib.hid ⟨(fun h => by cases h), fun _ => HF.out⟩, tr, gr⟩
                        case measure => simp [intOf]; omega
                    | true =>
                      obtain ⟨hzz, hnj⟩ := (by first | exact HR.out.1 rfl | exact HR.out.1 trivial : z2 = z' ∧ ∀ y, oB = some y → ndJ C t y.1 I (J - (t + 1)) = false)
                      subst hzz
                      have HNJ := Lib.hid hnj
                      clear HR hnj
                      by_cases hltjN : J < C
                      · have hltj : (J : Int) < (C : Int) := by omega
                        have C2 := fun W h => CZ.out I J hltN hltjN W h
                        rw [castIdx] at C2
                        have HND := Lib.hid fun y (h : oB = some y) => (show ndJ C t y.1 I (J + 1 - (t + 1)) = decide (nth z2.1 (I * C + J) % p ≠ 0) by
                          obtain ⟨e1, _, e2⟩ := HPV.out y h
                          rw [ndJ_next hJ1 (HNJ.out y h), e1, e2])
                        by_cases hbd : nth z2.1 (I * C + J) = bad
                        · have HX := Lib.hid fun y (h : oB = some y) => (show ndJ C t y.1 I (J + 1 - (t + 1)) = false by
                            obtain ⟨e1, e2, _⟩ := HPV.out y h
                            have hnn := (allNum_iff _).1 e2.n1 (I * C + J) (by rw [e2.l1]; exact idx_lt hltN hltjN)
                            rw [hbd] at hnn
                            exact absurd hnn (by decide))
                          rw [hbd] at C2
                          have C2' := Lib.hid C2
                          clear C2 hbd HND
                          go_wp2_with fail
                          refine (C2'.out _ tr.oa.rd').mono ?_; rintro e w7 ⟨rfl, g7⟩
                          go_wp2_with fail
                          go_round
                          case rel => exact ⟨J + 1, true, z2, by go_num, by omega, by omega, rfl, Lib.hid ⟨fun _ => ⟨rfl, HX.out⟩, (fun h => by cases h)⟩, tr.grows g7, gr.right g7⟩
                          case measure => simp [intOf]; omega
                        · have hb' : (nth z2.1 (I * C + J) != bad) = true := by simpa using hbd
                          unfold bad at hb'
                          by_cases hmod : nth z2.1 (I * C + J) % p = 0
                          · have hm : (nth z2.1 (I * C + J)).tmod p = 0 := Int.tmod_eq_zero_of_dvd (Int.dvd_of_emod_eq_zero hmod)
                            have HX := Lib.hid fun y (h : oB = some y) => (show ndJ C t y.1 I (J + 1 - (t + 1)) = false by rw [HND.out y h, decide_eq_false (by simpa using hmod)])
                            have C2' := Lib.hid C2
                            clear C2 hbd hmod HND
                            generalize nth z2.1 (I * C + J) = x1 at *
                            go_wp2_with fail
                            refine (C2'.out _ tr.oa.rd').mono ?_; rintro e w7 ⟨rfl, g7⟩
                            replace tr := tr.grows g7
                            replace gr := gr.right g7
                            clear a0 a1 a2 g7
                            obtain ⟨a0, a1, a2⟩ := (MA.out w7 gr).cells
                            go_wp2_with fail
                            refine (C2'.out _ tr.oa.rd').mono ?_; rintro e w8 ⟨rfl, g8⟩
                            go_wp2_with fail
                            go_round
                            case rel => exact ⟨J + 1, true, z2, by go_num, by omega, by omega, rfl, Lib.hid ⟨fun _ => ⟨rfl, HX.out⟩, (fun h => by cases h)⟩, tr.grows g8, gr.right g8⟩
                            case measure => simp [intOf]; omega
                          · have hm : ((nth z2.1 (I * C + J)).tmod p != 0) = true := by rw [bne_iff_ne]; exact fun e => hmod (Int.emod_eq_zero_of_dvd (Int.dvd_of_tmod_eq_zero e))
                            have HX := Lib.hid fun y (h : oB = some y) => (show ndI C t y.1 (R - t - 1) = some I by
                              have h1 : ndJ C t y.1 I (C - t - 1) = true := ndJ_up (k := J + 1 - (t + 1)) (by rw [HND.out y h, decide_eq_true hmod]) (by omega)
                              have h2 := ndI_here (n := R - t - 1) (HNO.out y h) (by rw [show t + 1 + (I - (t + 1)) = I by omega]; exact h1) (by omega)
                              rwa [show t + 1 + (I - (t + 1)) = I by omega] at h2)
                            have HF := Lib.hid (HFF.out I HX.out)
                            have C2' := Lib.hid C2
                            clear C2 hbd hmod HND
                            generalize nth z2.1 (I * C + J) = x1 at *
                            go_wp2_with fail
                            refine (C2'.out _ tr.oa.rd').mono ?_; rintro e w7 ⟨rfl, g7⟩
                            replace tr := tr.grows g7
                            replace gr := gr.right g7
                            clear a0 a1 a2 g7
                            obtain ⟨a0, a1, a2⟩ := (MA.out w7 gr).cells
                            go_wp2_with fail
                            refine (C2'.out _ tr.oa.rd').mono ?_; rintro e w8 ⟨rfl, g8⟩
                            replace tr := tr.grows g8
                            replace gr := gr.right g8
                            clear a0 a1 a2 g8
                            obtain ⟨a0, a1, a2⟩ := (MA.out w8 gr).cells
                            obtain ⟨u0, u1, u2⟩ := (MU.out w8 gr).cells
                            go_wp2_with fail
                            refine (CO2.out I _ hltN tr).mono ?_; rintro e w9 ⟨rfl, tr9, g9⟩
                            replace gr := gr.trans g9
                            clear tr g9 a0 a1 a2 u0 u1 u2
                            go_wp2_with fail
                            go_round
                            case rel => exact ⟨J + 1, false, _, by go_num, by omega, by omega, rfl, Lib.hid ⟨(fun h => by cases h), fun _ => HF.out⟩, tr9, gr⟩
                            case measure => simp [intOf]; omega
                      · have hltj : ¬ (J : Int) < (C : Int) := by omega
                        have HX := Lib.hid fun y (h : oB = some y) => (show ndI C t y.1 (I + 1 - (t + 1)) = none by
                          rw [show I + 1 - (t + 1) = (I - (t + 1)) + 1 by omega]
                          refine ndI_next (HNO.out y h) ?_
                          rw [show t + 1 + (I - (t + 1)) = I by omega, show C - t - 1 = J - (t + 1) by omega]
                          exact HNJ.out y h)
                        go_wp2_with fail
                        go_round
                        case rel => exact ⟨I + 1, true, z2, by go_num, by omega, by omega, rfl, Lib.hid ⟨fun _ => ⟨rfl, HX.out⟩, (fun h => by cases h)⟩, tr, gr⟩
                        case measure => simp [intOf]; omega
                · have hlt : ¬ (I : Int) < (R : Int) := by omega
                  have HF := Lib.hid (HFC.out fun y h => by rw [show R - t - 1 = I - (t + 1) by omega]; exact HNO.out y h)
                  go_wp2_with fail
                  go_ret
                  exact ⟨z', true, rfl, HF, tr, GrownP.left G01.out gr⟩
end
end Go.Proofs.Ytbfkpfdkndnhkaa
