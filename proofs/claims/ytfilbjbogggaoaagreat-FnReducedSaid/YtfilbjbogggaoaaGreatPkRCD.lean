/- Contracts and lemmas, put together. -/
import Derived.Deep.CutBlock
import Derived.Test.YtfilbjbogggaoaaGreatPkF
import Derived.Test.YtfilbjbogggaoaaGreatPkID
import Derived.Test.YtfilbjbogggaoaaGreatPkRAD
import Derived.Test.YtfilbjbogggaoaaGreatPkRB
/- Contracts: an operation on the columns of a matrix, the reference's; on rows and columns of a form. -/
namespace Go.Proofs.YtfilbjbogggaoaaGreat
set_option linter.unusedSimpArgs false
set_option linter.unusedVariables false
open Go.RowKit

/-- the rows before K are as f says, the others as in l -/
def RowD (R C : Nat) (f : Nat → Nat → Int) (l : List Int) (K : Nat) (m : List Int) : Prop := m.length = R * C ∧ ∀ a b, a < R → b < C → nth m (a * C + b) = if a < K then f a b else nth l (a * C + b)
theorem RowD.zero {R C : Nat} {f : Nat → Nat → Int} {l : List Int} (hl : l.length = R * C) : RowD R C f l 0 l := ⟨hl, fun a b _ _ => by simp⟩
theorem RowD.cell {R C : Nat} {f : Nat → Nat → Int} {l m : List Int} {K b : Nat} (h : RowD R C f l K m) (hK : K < R) (hb : b < C) : nth m (K * C + b) = nth l (K * C + b) := by
  rw [h.2 K b hK hb, if_neg (by omega)]
theorem RowD.set2 {R C : Nat} {f : Nat → Nat → Int} {l m : List Int} {K i j : Nat} (h : RowD R C f l K m) (hi : i < C) (hj : j < C) (hK : K < R) (ho : ∀ b, b < C → b ≠ i → b ≠ j → f K b = nth l (K * C + b)) :
    RowD R C f l (K + 1) ((m.set (K * C + i) (f K i)).set (K * C + j) (f K j)) := by
  refine ⟨by rw [List.length_set, List.length_set]; exact h.1, fun a b ha hb => ?_⟩
  rw [nth_set _ _ _ _ (by rw [List.length_set, h.1]; exact idx_lt hK hj), nth_set _ _ _ _ (by rw [h.1]; exact idx_lt hK hi)]
  by_cases e1 : a * C + b = K * C + j
  · obtain ⟨rfl, rfl⟩ := idx_inj hb hj e1
    rw [if_pos rfl, if_pos (by omega)]
  · rw [if_neg e1]
    by_cases e2 : a * C + b = K * C + i
    · obtain ⟨rfl, rfl⟩ := idx_inj hb hi e2
      rw [if_pos rfl, if_pos (by omega)]
    · rw [if_neg e2, h.2 a b ha hb]
      by_cases e3 : a = K
      · subst e3
        rw [if_neg (by omega), if_pos (by omega), ho b hb (fun e => e2 (by rw [e])) (fun e => e1 (by rw [e]))]
      · by_cases e4 : a < K
        · rw [if_pos e4, if_pos (by omega)]
        · rw [if_neg e4, if_neg (by omega)]
theorem RowD.set1 {R C : Nat} {f : Nat → Nat → Int} {l m : List Int} {K i : Nat} (h : RowD R C f l K m) (hi : i < C) (hK : K < R) (ho : ∀ b, b < C → b ≠ i → f K b = nth l (K * C + b)) :
    RowD R C f l (K + 1) (m.set (K * C + i) (f K i)) := by
  have := h.set2 hi hi hK (fun b h1 h2 _ => ho b h1 h2)
  rwa [List.set_set] at this
theorem RowD.all {R C : Nat} {f : Nat → Nat → Int} {l m : List Int} (h : RowD R C f l R m) : m = tab R C f := tab_ext h.1 fun a b ha hb => by rw [h.2 a b ha hb, if_pos ha]
def addCF (C i j : Nat) (t : Int) (l : List Int) : Nat → Nat → Int := fun a b => if b = i then addB (nth l (a * C + i)) (mulB (nth l (a * C + j)) t) else nth l (a * C + b)
def swpCF (C i j : Nat) (l : List Int) : Nat → Nat → Int := fun a b => if b = i then nth l (a * C + j) else if b = j then nth l (a * C + i) else nth l (a * C + b)
theorem addCF_other {C i j a b : Nat} {t : Int} {l : List Int} (h : b ≠ i) : addCF C i j t l a b = nth l (a * C + b) := by unfold addCF; rw [if_neg h]
theorem addCF_same {C i j a : Nat} {t : Int} {l : List Int} : addCF C i j t l a i = addB (nth l (a * C + i)) (mulB (nth l (a * C + j)) t) := by unfold addCF; rw [if_pos rfl]
theorem swpCF_other {C i j a b : Nat} {l : List Int} (h : b ≠ i) (h2 : b ≠ j) : swpCF C i j l a b = nth l (a * C + b) := by unfold swpCF; rw [if_neg h, if_neg h2]
theorem swpCF_i {C i j a : Nat} {l : List Int} : swpCF C i j l a i = nth l (a * C + j) := by unfold swpCF; rw [if_pos rfl]
theorem swpCF_j {C i j a : Nat} {l : List Int} : swpCF C i j l a j = nth l (a * C + i) := by
  unfold swpCF
  split
  · rename_i h; rw [h]
  · rw [if_pos rfl]
theorem addCF_all {R C i j : Nat} {t : Int} {l : List Int} : tab R C (addCF C i j t l) = addCT R C i j t l := rfl
theorem swpCF_all {R C i j : Nat} {l : List Int} : tab R C (swpCF C i j l) = swpCT R C i j l := rfl

section
set_option maxHeartbeats 4000000
set_option maxRecDepth 100000
theorem l13Add_c (R C : Nat) (A : Option Addr) (l : List Int) (n cap i j B : Nat) (t : Int) (w : World) (hn : l.length = n) (hl : n = R * C) (hR : R ≤ 24) (hC : C ≤ 24) (ho : Own w B (.slice A n cap) l) (hm : mkd l) (hi : i < C) (hj : j < C) (ht : isNum t = true) :
    Calls Tryz.prog 150 #[.agg #[.int .i64 R, .int .i64 C, .slice A n cap], .agg #[.int .i64 2, .int .i64 i, .int .i64 j, .int .i64 t]] w fun e w' => e = .returned (.tuple #[]) ∧ Own w' B (.slice A n cap) (addCT R C i j t l) ∧ w.grownBy w' (Value.slice A n cap).ownBlock := by
  obtain ⟨w1, hw1, mb, ob, hs1, g01⟩ := mat_op w R C (.slice A n cap) 2 i j t
  have HW1 := Lib.hid hw1
  have HS1 := Lib.hid hs1
  have ho1 := ho.grows g01
  have hne : ∀ g, (Value.slice A n cap).ownBlock = some g → g < w.heap.size := fun g h => (World.ownsRow.lt ho g h).2
  have HNE := Lib.hid hne
  have HL := Lib.hid hl
  have HN := Lib.hid hn
  have HMK := Lib.hid fun a b ha hb => mkd_nth (R := R) (C := C) (a := a) (b := b) (hn.trans hl) hm ha hb
  have HT := Lib.hid ht
  have htb := (isNum_iff t).1 ht
  have hRC : R * C ≤ 576 := Nat.mul_le_mul hR hC
  have HI : ∀ a, a < R → a * C ≤ 576 := fun a ha => by have := Nat.mul_le_mul_right C (Nat.le_of_lt ha); omega
  have HII := Lib.hid HI
  have e1 := Lib.hid (RowD.zero (f := addCF C i j t l) (hn.trans hl))
  clear hw1 hs1 hl hn hm ht hne ho HI
  go_enter Tryz.func150, Tryz.ntmps150
  go_wp2_with fail
  rw [← HW1.out]
  go_loopw [4] (fun k wr => ∃ (J : Nat) (m : List Int), k = .int .i64 J ∧ J ≤ R ∧ RowD R C (addCF C i j t l) l J m ∧ Own wr B (.slice A n cap) m ∧ w1.grownBy wr (Value.slice A n cap).ownBlock) (fun k _ => R - (intOf k).toNat)
  case atStart => exact ⟨0, l, rfl, Nat.zero_le _, e1.out, ho1, World.grownBy.refl _ _⟩
  case round =>
    clear ho1
    obtain ⟨J, m, rfl, hJ, hd, ho, hg⟩ := hrel
    have mb2 := mb.own hg (fun g h => Nat.ne_of_lt (HNE.out g h))
    have ob2 := ob.own hg (fun g h => by have := HNE.out g h; omega)
    by_cases hlt : J < R
    · have hml := hd.1
      have hlen : R * C = n := HL.out.symm
      obtain ⟨g, cap', e, hgB, hgw⟩ := ho.form (by rw [hml]; have := idx_lt hlt hi; omega)
      simp only [Value.slice.injEq] at e
      obtain ⟨rfl, hnm, rfl⟩ := e
      clear hnm
      have hg2 : g < w.heap.size := HNE.out g (by simp [Value.ownBlock])
      have l1 := idx_lt hlt hi
      have l2 := idx_lt hlt hj
      have c1 := ho.cell (J * C + i) (by rw [hml]; exact l1)
      have c2 := ho.cell (J * C + j) (by rw [hml]; exact l2)
      have cf := ho.free (J * C + i)
      rw [hd.cell hlt hi] at c1
      rw [hd.cell hlt hj] at c2
      have hnx := hd.set1 hi hlt (fun a ha hne => addCF_other hne)
      rw [addCF_same] at hnx
      have HNX := Lib.hid hnx
      have HMX := HMK.out J i hlt hi
      have HMY := HMK.out J j hlt hj
      have HML := Lib.hid (hml.trans hlen)
      have CM := Lib.hid fun W => l1Mul_c (nth l (J * C + j)) t W HMY (.inr HT.out)
      have CA := Lib.hid fun W => l1Add_c (nth l (J * C + i)) (mulB (nth l (J * C + j)) t) W HMX (mulB_or' _ _)
      have HD := Lib.hid hd
      have p1 := castPos J C i; have p2 := castLt (n := R * C) l1; have p3 := castPos J C j; have p4 := castLt (n := R * C) l2
      rw [hlen] at p2 p4
      have q1 : (J : Int) < (R : Int) := by omega
      have k1 := castMul J C; have k2 := castMulLe (HII.out J hlt)
      have a1 := castIdx J C i
      have a2 := castIdx J C j
      clear hd hnx hml hlen l1 l2 HMX HMY
      obtain ⟨b0, b1, b2⟩ := mb2.cells
      obtain ⟨x0, x1, x2, x3⟩ := ob2.cells
      generalize mulB (nth l (J * C + j)) t = y at *
      generalize addB (nth l (J * C + i)) y = z at *
      generalize nth l (J * C + j) = y0 at *
      generalize nth l (J * C + i) = z0 at *
      go_wp2_with fail
      obtain ⟨d0, d1, d2⟩ := mb2.ext
      obtain ⟨f0, f1, f2, f3⟩ := ob2.ext
      ((refine wp_region_tail 16 (by kernel_rfl) (by kernel_rfl) ?_; simp only [List.take_succ_cons, List.take_zero, List.drop_succ_cons, List.drop_zero]); (repeat (go_big_quiet_step ((first | (go_at_call 122; with_reducible exact extS (CM.out _)) | (go_at_call 183; with_reducible exact extS (CA.out _)))))); refine wpQuiet_nil ?_; rintro w3 ⟨w30, hw30⟩; have g3 := grows_of_ext hw30; clear hw30 w30)
      have cf3 := (g3.frozen (p := ⟨g, J * C + i, none⟩) hgw).trans cf
      have c13 := (g3.cell (p := ⟨g, J * C + i, none⟩) hgw).trans c1
      clear d0 d1 d2 f0 f1 f2 f3 b0 b1 b2 x0 x1 x2 x3 c1 cf CM
      go_wp2_with fail
      go_round
      case rel => exact ⟨J + 1, _, by go_num, by omega, HNX.out, (ho.grows g3).put HML.out _ _, only_setCell (p := ⟨g, J * C + i, none⟩) (grown_right hg g3) rfl _⟩
      case measure => simp [intOf]; omega
    · obtain rfl : J = R := by omega
      obtain ⟨b0, b1, b2⟩ := mb2.cells
      go_wp2_with fail
      go_end0
      refine ⟨rfl, ?_, grown_left hg g01⟩
      have := hd.all
      subst this
      exact ho
theorem l13Swp_c (R C : Nat) (A : Option Addr) (l : List Int) (n cap i j B : Nat) (w : World) (hn : l.length = n) (hl : n = R * C) (hR : R ≤ 24) (hC : C ≤ 24) (ho : Own w B (.slice A n cap) l) (hi : i < C) (hj : j < C) (hij : i ≠ j) :
    Calls Tryz.prog 150 #[.agg #[.int .i64 R, .int .i64 C, .slice A n cap], .agg #[.int .i64 0, .int .i64 i, .int .i64 j, .int .i64 0]] w fun e w' => e = .returned (.tuple #[]) ∧ Own w' B (.slice A n cap) (swpCT R C i j l) ∧ w.grownBy w' (Value.slice A n cap).ownBlock := by
  obtain ⟨w1, hw1, mb, ob, hs1, g01⟩ := mat_op w R C (.slice A n cap) 0 i j 0
  have HW1 := Lib.hid hw1
  have HS1 := Lib.hid hs1
  have ho1 := ho.grows g01
  have hne : ∀ g, (Value.slice A n cap).ownBlock = some g → g < w.heap.size := fun g h => (World.ownsRow.lt ho g h).2
  have HNE := Lib.hid hne
  have HL := Lib.hid hl
  have HN := Lib.hid hn
  have hRC : R * C ≤ 576 := Nat.mul_le_mul hR hC
  have HI : ∀ a, a < R → a * C ≤ 576 := fun a ha => by have := Nat.mul_le_mul_right C (Nat.le_of_lt ha); omega
  have HII := Lib.hid HI
  have e1 := Lib.hid (RowD.zero (f := swpCF C i j l) (hn.trans hl))
  clear hw1 hs1 hl hn hne ho HI
  go_enter Tryz.func150, Tryz.ntmps150
  go_wp2_with fail
  rw [← HW1.out]
  go_loopw [4] (fun k wr => ∃ (J : Nat) (m : List Int), k = .int .i64 J ∧ J ≤ R ∧ RowD R C (swpCF C i j l) l J m ∧ Own wr B (.slice A n cap) m ∧ w1.grownBy wr (Value.slice A n cap).ownBlock) (fun k _ => R - (intOf k).toNat)
  case atStart => exact ⟨0, l, rfl, Nat.zero_le _, e1.out, ho1, World.grownBy.refl _ _⟩
  case round =>
    clear ho1
    obtain ⟨J, m, rfl, hJ, hd, ho, hg⟩ := hrel
    have mb2 := mb.own hg (fun g h => Nat.ne_of_lt (HNE.out g h))
    have ob2 := ob.own hg (fun g h => by have := HNE.out g h; omega)
    by_cases hlt : J < R
    · have hml := hd.1
      have hlen : R * C = n := HL.out.symm
      obtain ⟨g, cap', e, hgB, hgw⟩ := ho.form (by rw [hml]; have := idx_lt hlt hi; omega)
      simp only [Value.slice.injEq] at e
      obtain ⟨rfl, hnm, rfl⟩ := e
      clear hnm
      have hg2 : g < w.heap.size := HNE.out g (by simp [Value.ownBlock])
      have l1 := idx_lt hlt hi
      have l2 := idx_lt hlt hj
      have c1 := ho.cell (J * C + i) (by rw [hml]; exact l1)
      have c2 := ho.cell (J * C + j) (by rw [hml]; exact l2)
      have cf := ho.free (J * C + i)
      rw [hd.cell hlt hi] at c1
      rw [hd.cell hlt hj] at c2
      have hnx := hd.set2 hi hj hlt (fun a ha h1 h2 => swpCF_other h1 h2)
      rw [swpCF_i, swpCF_j] at hnx
      have HNX := Lib.hid hnx
      have ho1 : ¬ (J * C + i = J * C + j) := fun e => hij (idx_inj hi hj e).2
      have ho2 : ¬ (J * C + j = J * C + i) := fun e => ho1 e.symm
      have cf2 := ho.free (J * C + j)
      have HML := Lib.hid (hml.trans hlen)
      have HD := Lib.hid hd
      have p1 := castPos J C i; have p2 := castLt (n := R * C) l1; have p3 := castPos J C j; have p4 := castLt (n := R * C) l2
      rw [hlen] at p2 p4
      have q1 : (J : Int) < (R : Int) := by omega
      have k1 := castMul J C; have k2 := castMulLe (HII.out J hlt)
      have a1 := castIdx J C i
      have a2 := castIdx J C j
      clear hd hnx hml hlen l1 l2
      obtain ⟨b0, b1, b2⟩ := mb2.cells
      obtain ⟨x0, x1, x2, x3⟩ := ob2.cells
      generalize nth l (J * C + j) = y0 at *
      generalize nth l (J * C + i) = z0 at *
      go_wp2_with fail
      go_round
      case rel => exact ⟨J + 1, _, by go_num, by omega, HNX.out, (ho.put HML.out _ _).put (by rw [List.length_set]; exact HML.out) _ _, only_setCell (p := ⟨g, J * C + j, none⟩) (only_setCell (p := ⟨g, J * C + i, none⟩) hg rfl _) rfl _⟩
      case measure => simp [intOf]; omega
    · obtain rfl : J = R := by omega
      obtain ⟨b0, b1, b2⟩ := mb2.cells
      go_wp2_with fail
      go_end0
      refine ⟨rfl, ?_, grown_left hg g01⟩
      have := hd.all
      subst this
      exact ho
end
end Go.Proofs.YtfilbjbogggaoaaGreat

/- Contracts: an operation on the rows and the columns of a form, and on the rows of a matrix, the reference's. -/
namespace Go.Proofs.YtfilbjbogggaoaaGreat
set_option linter.unusedSimpArgs false
set_option linter.unusedVariables false
open Go.RowKit

theorem OBox.two {w w1 : World} {r1 r2 : Option Nat} {b : Nat} {k i j t : Int} (h : OBox w b k i j t) (g : Grown2 w w1 r1 r2) (h1 : ∀ g, r1 = some g → g ≠ b) (h2 : ∀ g, r2 = some g → g ≠ b) : OBox w1 b k i j t := by
  have hk := g.block b h.lt (fun e => h1 b e.symm rfl) (fun e => h2 b e.symm rfl)
  exact ⟨Nat.lt_of_lt_of_le h.lt g.size, (World.cell?_of_block hk).trans h.c0, (World.cell?_of_block hk).trans h.c1, (World.cell?_of_block hk).trans h.c2, (World.cell?_of_block hk).trans h.c3⟩
section
set_option maxHeartbeats 4000000
set_option maxRecDepth 100000
theorem both_c (R : Nat) (A U : Option Addr) (n cap m cap2 B : Nat) (k i j t : Int) (a u a1 u1 a2 : List Int) (w : World) (pr : Pr w B A U n cap m cap2 a u)
    (HO : ∀ W, Pr W B A U n cap m cap2 a u → Calls Tryz.prog 149 #[.agg #[.int .i64 R, .int .i64 R, .slice A n cap], .agg #[.int .i64 R, .int .i64 R, .slice U m cap2], .agg #[.int .i64 k, .int .i64 i, .int .i64 j, .int .i64 t]] W fun e w' => e = .returned (.tuple #[]) ∧ Pr w' B A U n cap m cap2 a1 u1 ∧ Grown2 W w' (Value.slice A n cap).ownBlock (Value.slice U m cap2).ownBlock)
    (HC : ∀ W, Own W B (.slice A n cap) a1 → Calls Tryz.prog 150 #[.agg #[.int .i64 R, .int .i64 R, .slice A n cap], .agg #[.int .i64 k, .int .i64 i, .int .i64 j, .int .i64 t]] W fun e w' => e = .returned (.tuple #[]) ∧ Own w' B (.slice A n cap) a2 ∧ W.grownBy w' (Value.slice A n cap).ownBlock) :
    Calls Tryz.prog 78 #[.agg #[.int .i64 R, .int .i64 R, .slice A n cap], .agg #[.int .i64 R, .int .i64 R, .slice U m cap2], .agg #[.int .i64 k, .int .i64 i, .int .i64 j, .int .i64 t]] w fun e w' => e = .returned (.tuple #[]) ∧ Pr w' B A U n cap m cap2 a2 u1 ∧ Grown2 w w' (Value.slice A n cap).ownBlock (Value.slice U m cap2).ownBlock := by
  obtain ⟨w1, hw1⟩ : ∃ w1, w1 = ((w.alloc (.cells #[.int .i64 R, .int .i64 R, .slice A n cap] 26)).alloc (.cells #[.int .i64 R, .int .i64 R, .slice U m cap2] 26)).alloc (.cells #[.int .i64 k, .int .i64 i, .int .i64 j, .int .i64 t] 99) := ⟨_, rfl⟩
  have g01 : Grows w w1 := by rw [hw1]; exact bel0
  have ma : MBox w1 w.heap.size R R (.slice A n cap) := by rw [hw1]; exact (MBox.mk_ _ _ _ _ _).grows (by exact bel0)
  have ob : OBox w1 (w.heap.size + 1 + 1) k i j t := by rw [hw1]; exact OBox.new_ _ _ _ _ _ _ (by simp)
  have hb1 : ∀ g, (Value.slice A n cap).ownBlock = some g → g < w.heap.size := fun g h => (World.ownsRow.lt pr.oa g h).2
  have hb2 : ∀ g, (Value.slice U m cap2).ownBlock = some g → g < w.heap.size := fun g h => (World.ownsRow.lt pr.ou g h).2
  have HB1 := Lib.hid hb1
  have HB2 := Lib.hid hb2
  have HW1 := Lib.hid hw1
  have HO' := Lib.hid HO
  have HC' := Lib.hid HC
  have pr1 := pr.grows g01
  clear hw1 HO HC hb1 hb2
  go_enter Tryz.func78, Tryz.ntmps78
  go_wp2_with fail
  rw [← HW1.out]
  refine (HO'.out _ pr1).mono ?_; rintro e w2 ⟨rfl, pr2, g2⟩
  have ma2 := ma.two g2 (fun g h => by have := HB1.out g h; omega) (fun g h => by have := HB2.out g h; omega)
  have ob2 := ob.two g2 (fun g h => by have := HB1.out g h; omega) (fun g h => by have := HB2.out g h; omega)
  obtain ⟨c0, c1, c2⟩ := ma2.cells
  obtain ⟨d0, d1, d2, d3⟩ := ob2.cells
  have G2 := Lib.hid g2
  clear g2
  go_wp2_with fail
  refine (HC'.out _ pr2.oa).mono ?_; rintro e w3 ⟨rfl, o3, g3⟩
  have pr3 := pr2.setA o3 g3
  have gg := Grown2.trans (Grown2.left g01 G2.out) (Grown2.of12 g3 (World.grownBy.refl w3 (Value.slice U m cap2).ownBlock))
  clear g3 c0 c1 c2 d0 d1 d2 d3
  go_wp2_with fail
  go_end0
  exact ⟨rfl, pr3, gg⟩
/-- both, at marked lists -/
theorem bothAdd_c (R : Nat) (A U : Option Addr) (n cap m cap2 B : Nat) (i j : Nat) (t : Int) (a u : List Int) (w : World) (pr : Pr w B A U n cap m cap2 a u) (hal : a.length = n) (hul : u.length = m) (hn : n = R * R) (hm : m = R * R) (hR : R ≤ 24) (mka : mkd a) (mku : mkd u) (hi : i < R) (hj : j < R) (ht : isNum t = true) :
    Calls Tryz.prog 78 #[.agg #[.int .i64 R, .int .i64 R, .slice A n cap], .agg #[.int .i64 R, .int .i64 R, .slice U m cap2], .agg #[.int .i64 2, .int .i64 i, .int .i64 j, .int .i64 t]] w fun e w' => e = .returned (.tuple #[]) ∧ Pr w' B A U n cap m cap2 (addCT R R i j t (addT R R i j t a)) (addT R R i j t u) ∧ Grown2 w w' (Value.slice A n cap).ownBlock (Value.slice U m cap2).ownBlock :=
  both_c R A U n cap m cap2 B 2 i j t a u (addT R R i j t a) (addT R R i j t u) (addCT R R i j t (addT R R i j t a)) w pr
    (fun W p => l12Ops_c R R A U n cap m cap2 B 2 i j t a u _ _ W p (fun W o => l5Add_c R R A a n cap i j B t W hal hn hR hR o mka hi hj ht) (fun W o => l5Add_c R R U u m cap2 i j B t W hul hm hR hR o mku hi hj ht))
    (fun W o => l13Add_c R R A (addT R R i j t a) n cap i j B t W (by rw [addT_length, hn]) hn hR hR o (addT_mkd (hal.trans hn) mka) hi hj ht)
theorem bothSwp_c (R : Nat) (A U : Option Addr) (n cap m cap2 B : Nat) (i j : Nat) (a u : List Int) (w : World) (pr : Pr w B A U n cap m cap2 a u) (hal : a.length = n) (hul : u.length = m) (hn : n = R * R) (hm : m = R * R) (hR : R ≤ 24) (hi : i < R) (hj : j < R) (hij : i ≠ j) :
    Calls Tryz.prog 78 #[.agg #[.int .i64 R, .int .i64 R, .slice A n cap], .agg #[.int .i64 R, .int .i64 R, .slice U m cap2], .agg #[.int .i64 0, .int .i64 i, .int .i64 j, .int .i64 0]] w fun e w' => e = .returned (.tuple #[]) ∧ Pr w' B A U n cap m cap2 (swpCT R R i j (swpT R R i j a)) (swpT R R i j u) ∧ Grown2 w w' (Value.slice A n cap).ownBlock (Value.slice U m cap2).ownBlock :=
  both_c R A U n cap m cap2 B 0 i j 0 a u (swpT R R i j a) (swpT R R i j u) (swpCT R R i j (swpT R R i j a)) w pr
    (fun W p => l12Ops_c R R A U n cap m cap2 B 0 i j 0 a u _ _ W p (fun W o => l5Swp_c R R A a n cap i j B W hal hn hR hR o hi hj hij) (fun W o => l5Swp_c R R U u m cap2 i j B W hul hm hR hR o hi hj hij))
    (fun W o => l13Swp_c R R A (swpT R R i j a) n cap i j B W (by rw [swpT_length, hn]) hn hR hR o hi hj hij)
end
end Go.Proofs.YtfilbjbogggaoaaGreat

/- Contract: a form is reduced, the reference's. -/
namespace Go.Proofs.YtfilbjbogggaoaaGreat
set_option linter.unusedSimpArgs false
set_option linter.unusedVariables false
open Go.RowKit

theorem rdg_none {R F : Nat} {x : RS} {f : LL → MX × MX} {o : Option (MX × MX)} (h : o = (rdgF R F x).map f) (h2 : rdgF R F x = none) : o = none := by rw [h, h2]; rfl
theorem redS_none_next {R F : Nat} {x : RS} {mu : List (List Q2) × List Q2} (h : x.2 < R) (h2 : accF R x.1.1 R = some mu) (h3 : redS R mu x = none) : rdgF R (F + 1) x = none := by rw [rdgF_step h h2, h3]; rfl
theorem redS_some_next {R F : Nat} {x y : RS} {mu : List (List Q2) × List Q2} (h : x.2 < R) (h2 : accF R x.1.1 R = some mu) (h3 : redS R mu x = some y) : rdgF R (F + 1) x = rdgF R F y := by rw [rdgF_step h h2, h3]; rfl
theorem pr_two {w : World} {B n m c d : Nat} {A U : Option Addr} {a u : List Int} (pr : Pr w B A U n c m d a u) : (∀ g, (Value.slice A n c).ownBlock = some g → B ≤ g ∧ g < w.heap.size) ∧ ∀ g, (Value.slice U m d).ownBlock = some g → B ≤ g ∧ g < w.heap.size := ⟨fun g h => World.ownsRow.lt pr.oa g h, fun g h => World.ownsRow.lt pr.ou g h⟩
section
set_option maxHeartbeats 40000000
set_option maxRecDepth 100000
theorem sRg_c (r c : Int) (A : Option Addr) (l : List Int) (n cap : Nat) (w : World) (hn : l.length = n) (ha : Rd w A l) (hl : n ≤ 1099511627776) :
    Calls Tryz.prog 19 #[.agg #[.int .i64 r, .int .i64 c, .slice A n cap]] w (Mat2Ret (rdgO ⟨r, c, l⟩) w) := by
  have CDf := fun W h => sIsDef_c r c A l n cap W hn h hl
  obtain ⟨w1, hw1, mg, m2, m3, hs1, g01⟩ := three_mats w r c (.slice A n cap)
  have HW1 := Lib.hid hw1
  have HS1 := Lib.hid hs1
  have ha1 : Rd w1 A l := ha.grows g01
  clear hw1 hs1
  obtain ⟨RES, hRES⟩ : ∃ x, x = rdgO ⟨r, c, l⟩ := ⟨_, rfl⟩
  rw [← hRES]
  cases hq : isDef r c l
  · rw [rdgO_no (g := ⟨r, c, l⟩) hq] at hRES
    rw [hq] at CDf
    have CDf' := Lib.hid CDf
    subst hRES
    clear CDf hq hn
    go_enter Tryz.func19, Tryz.ntmps19
    go_wp2_with fail
    rw [← HW1.out]
    refine (CDf'.out _ (by exact (Rd.grows ha1 (by exact bel0)))).mono ?_; rintro e w2 ⟨rfl, g2⟩
    (have z2 := m2.grows (w' := w2) (by exact bel1 g2); have z3 := m3.grows (w' := w2) (by exact bel1 g2); obtain ⟨zr0, zr1, zr2⟩ := z2.cells; have zrf := z2.fz; have zrl := z2.lt; obtain ⟨yr0, yr1, yr2⟩ := z3.cells; have yrf := z3.fz; have yrl := z3.lt; go_wp2_with fail; refine bodyPost_ret (v := .tuple #[.agg #[.int .i64 0, .int .i64 0, .slice none 0 0], .agg #[.int .i64 0, .int .i64 0, .slice none 0 0], .bool false]) ?_ rfl ?_; (simp [results, Tryz.results19, go_sem, zr0, zr1, zr2, zrf, zrl, yr0, yr1, yr2, yrf, yrl]); exact ⟨_, _, rfl, Own.nil _ _, Own.nil _ _, by simp [Value.ownBlock], by exact bel2 g2 g01⟩)
  · rw [hq] at CDf
    have CDf' := Lib.hid CDf
    obtain ⟨hmt, R, rfl, rfl, hR6, hlen, hnum⟩ := isSq_nat (isDef_sq hq)
    rw [rdgO_yes hq] at hRES
    have HR := Lib.hid hRES
    have hR : R ≤ 24 := by omega
    have ok0 : Ok2 R R ((l, idL R) : LL) := ⟨hlen, idL_length R, (allNum_iff _).2 hnum, idL_num R⟩
    have OK0 := Lib.hid ok0
    have hRR : R * R ≤ 36 := Nat.mul_le_mul hR6 hR6
    have CP := Lib.hid fun W h => copyS_c R R A l n cap W hn h hl
    have CI := Lib.hid fun W => sIdent_c R W hR
    have HLEN := Lib.hid hlen
    clear CDf hq hRES ok0 hlen hnum hn hmt
    go_enter Tryz.func19, Tryz.ntmps19
    go_wp2_with fail
    rw [← HW1.out]
    refine (CDf'.out _ (by exact (Rd.grows ha1 (by exact bel0)))).mono ?_; rintro e w2 ⟨rfl, g2⟩
    obtain ⟨b0, b1, b2⟩ := (mg.grows g2).cells
    go_wp2_with fail
    refine (CP.out _ (by exact (Rd.grows ha1 (by exact bel1 g2)))).mono ?_; rintro e w3 hop; obtain ⟨v3, rfl, o3, g3⟩ := mat1_out hop; clear hop
    obtain ⟨A3, c3, rfl, _, _⟩ := o3.val
    simp only at o3 ⊢
    rw [HLEN.out] at o3 ⊢
    clear b0 b1 b2
    have g13 : Grows w1 w3 := by exact bel2 g3 g2
    obtain ⟨b0, b1, b2⟩ := (mg.grows g13).cells
    have bl := (mg.grows g13).lt
    have hs2 := Below.size g2
    have hs3 := Below.size g3
    go_wp2_with fail
    refine (CI.out _).mono ?_; rintro e w4 ⟨v4, rfl, o4, g4⟩
    obtain ⟨U, cu, rfl, _, _⟩ := o4.val
    rw [idL_length] at o4 ⊢
    clear b0 b1 b2 bl
    have hs4 := Below.size g4
    simp at hs4
    have m5 : MBox w4 w3.heap.size R R (.slice A3 (R * R) c3) := (MBox.mk_ w3 R R (.slice A3 (R * R) c3) 26).grows g4
    have o4' : Own w4 (w3.heap.size + 1) (.slice U (R * R) cu) (idL R) := by have := o4; simpa using this
    obtain ⟨w5, hw5⟩ : ∃ w5, w5 = w4.alloc (.cells #[.int .i64 R, .int .i64 R, .slice U (R * R) cu] 26) := ⟨_, rfl⟩
    have HW5 := Lib.hid hw5
    have m5' : MBox w5 w3.heap.size R R (.slice A3 (R * R) c3) := by rw [hw5]; exact m5.alloc _
    have m6' : MBox w5 w4.heap.size R R (.slice U (R * R) cu) := by rw [hw5]; exact MBox.mk_ _ _ _ _ _
    have g15 : Grows w1 w5 := by rw [hw5]; exact bel2 g4 g13
    have hA : ∀ g, (Value.slice A3 (R * R) c3).ownBlock = some g → w2.heap.size ≤ g ∧ g < w3.heap.size := fun g h => World.ownsRow.lt o3 g h
    have hU : ∀ g, (Value.slice U (R * R) cu).ownBlock = some g → w3.heap.size + 1 ≤ g ∧ g < w4.heap.size := fun g h => World.ownsRow.lt o4' g h
    have pr5 : Pr w5 w1.heap.size A3 U (R * R) c3 (R * R) cu l (idL R) := ⟨by rw [hw5]; exact ((o3.grows (w' := w4) (by exact bel1 g4)).alloc _).less (by omega), by rw [hw5]; exact (o4'.alloc _).less (by omega), fun g h h2 => by have := hA g h; have := hU g h2; omega⟩
    have HA := Lib.hid hA
    have HU := Lib.hid hU
    clear hw5 m5 o3 o4 o4' hA hU
    have hs1 := HS1.out
    go_wp2_with fail
    rw [← HW5.out]
    go_loopw [8, 9] (fun k st wr => ∃ (K S : Nat) (s : LL), k = .int .i64 K ∧ st = .int .i64 S ∧ 1 ≤ K ∧ (K ≤ R ∨ K ≤ 1) ∧ S ≤ 200 ∧ Ok2 R R s ∧ RES = (rdgF R (200 - S) (s, K)).map (fun s => ((⟨R, R, s.1⟩ : MX), (⟨R, R, s.2⟩ : MX))) ∧ Pr wr w1.heap.size A3 U (R * R) c3 (R * R) cu s.1 s.2 ∧ MBox wr w3.heap.size R R (.slice A3 (R * R) c3) ∧ MBox wr w4.heap.size R R (.slice U (R * R) cu) ∧ Grows w1 wr ∧ w5.heap.size ≤ wr.heap.size) (fun _ st _ => 201 - (intOf st).toNat)
    case atStart => exact ⟨1, 0, (l, idL R), rfl, rfl, Nat.le_refl _, .inr (Nat.le_refl _), Nat.zero_le _, OK0.out, HR.out, pr5, m5', m6', g15, Nat.le_refl _⟩
    case round =>
      clear pr5 m5' m6'
      obtain ⟨K, S, s, rfl, rfl, hK1, hKR, hS, ok, hF, pr, mA, mU, hg, hsz⟩ := hrel
      have HF := Lib.hid hF
      have HOK := Lib.hid ok
      have HPR := Lib.hid pr
      clear hF
      by_cases hlt : K < R
      · have hlt' : (K : Int) < (R : Int) := by omega
        have CM := Lib.hid fun W h => sAcc_c R A3 s.1 (R * R) c3 W ok.l1 ok.l1 hR h
        obtain ⟨b0, b1, b2⟩ := mA.cells
        have hrA := pr.oa.rd'
        clear ok
        go_wp2_with fail
        refine (CM.out _ (by exact (Rd.grows hrA (by exact bel0)))).mono ?_; rintro e w7 hmr
        obtain ⟨Am, cm, As, cs, mu, sq, rfl, rdm, rds, hx, g7⟩ := muRet_out hmr
        clear hmr b0 b1 b2
        have G17 : Grows w1 w7 := by exact bel2 g7 hg
        cases hacc : accF R s.1 R with
        | none =>
          obtain rfl : RES = none := rdg_none HF.out (rdgF_acc hlt hacc)
          clear hacc hx
          (have z2 := m2.grows (w' := w7) (by exact bel1 G17); have z3 := m3.grows (w' := w7) (by exact bel1 G17); obtain ⟨zr0, zr1, zr2⟩ := z2.cells; have zrf := z2.fz; have zrl := z2.lt; obtain ⟨yr0, yr1, yr2⟩ := z3.cells; have yrf := z3.fz; have yrl := z3.lt; go_wp2_with fail; refine bodyPost_ret (v := .tuple #[.agg #[.int .i64 0, .int .i64 0, .slice none 0 0], .agg #[.int .i64 0, .int .i64 0, .slice none 0 0], .bool false]) ?_ rfl ?_; (simp [results, Tryz.results19, go_sem, zr0, zr1, zr2, zrf, zrl, yr0, yr1, yr2, yrf, yrl]); exact ⟨_, _, rfl, Own.nil _ _, Own.nil _ _, by simp [Value.ownBlock], by exact bel2 G17 g01⟩)
        | some ms =>
          have hms := hx ms hacc
          have hinv := accF_inv hacc
          rw [hms] at hacc hinv
          have HACC := Lib.hid hacc
          have hI1 : mu.length = R := hinv.l1
          have hI2 : sq.length = R := hinv.l2
          have hI3 : ∀ j, j < R → (mu.getD j []).length = j := hinv.row
          clear hx hms hacc hinv
          have hI4 := hI3 K hlt
          by_cases hS2 : S = 200
          · subst hS2
            obtain rfl : RES = none := rdg_none HF.out (rdgF_out hlt)
            (have z2 := m2.grows (w' := w7) (by exact bel1 G17); have z3 := m3.grows (w' := w7) (by exact bel1 G17); obtain ⟨zr0, zr1, zr2⟩ := z2.cells; have zrf := z2.fz; have zrl := z2.lt; obtain ⟨yr0, yr1, yr2⟩ := z3.cells; have yrf := z3.fz; have yrl := z3.lt; go_wp2_with fail; refine bodyPost_ret (v := .tuple #[.agg #[.int .i64 0, .int .i64 0, .slice none 0 0], .agg #[.int .i64 0, .int .i64 0, .slice none 0 0], .bool false]) ?_ rfl ?_; (simp [results, Tryz.results19, go_sem, zr0, zr1, zr2, zrf, zrl, yr0, yr1, yr2, yrf, yrl]); exact ⟨_, _, rfl, Own.nil _ _, Own.nil _ _, by simp [Value.ownBlock], by exact bel2 G17 g01⟩)
          · have hS3 : ¬ (200 : Int) ≤ (S : Int) := by omega
            have hS4 : (S : Int) < 200 := by omega
            obtain ⟨P, hP⟩ : ∃ P, K = P + 1 := ⟨K - 1, by omega⟩
            obtain ⟨F, hFu⟩ : ∃ F, 200 - S = F + 1 := ⟨200 - S - 1, by omega⟩
            have HFE : RowKit.Hid (200 - (S + 1) = F) := Lib.hid (by omega)
            have hF2 := HF.out
            rw [hFu] at hF2
            have HF2 := Lib.hid hF2
            have HP := Lib.hid hP
            have k0 : IntKind.i64.wrap ((K : Int) - 1) = (P : Int) := by rw [show (K : Int) - 1 = (P : Int) by omega]; exact IntWalk.i64_in _ (by omega)
            have hPK : (P : Int) < (K : Int) := by omega
            have hr7 := rdm
            obtain ⟨bm, om, Ar, cr, rfl, hbm, hcm, rdr, _⟩ := rdm.rowQ K (by rw [hI1]; exact hlt)
            rw [hI4] at hcm
            have hmK : (K : Int) < (mu.length : Int) := by rw [hI1]; exact hlt'
            have HROW := Lib.hid (show mu.getD K [] = mu.getD K [] from rfl)
            obtain ⟨row, hrow⟩ : ∃ x, x = mu.getD K [] := ⟨_, rfl⟩
            rw [← hrow] at rdr hI4
            have HRW := Lib.hid hrow
            clear hF2 hFu hP HROW hrow hI3
            have CIR := Lib.hid fun (q : Q2) W => sIsRatio_c q.1 q.2 W
            change RowKit.Hid (∀ (q : Q2) W, Calls Tryz.prog 76 #[.agg #[.int .i64 q.1, .int .i64 q.2]] W fun e w' => e = .returned (.bool (okQ q)) ∧ Grows W w') at CIR
            have CRQ := Lib.hid fun (q : Q2) W => sRoundQ_c q W
            go_upto_block 2 with fail
            go_cut [13] (fun j wx => ∃ jj : Int, j = .int .i64 jj ∧ ((jj = -1 ∧ fstJ row K = none) ∨ (∃ J : Nat, jj = (J : Int) ∧ fstJ row K = some J)) ∧ Grows w7 wx)
            case first =>
              go_wp2_with fail
              go_loopw [13] (fun j wr => ∃ q : Nat, j = .int .i64 ((q : Int) - 1) ∧ q ≤ K ∧ fstJ row K = fstJ row q ∧ Grows w7 wr) (fun j _ => (intOf j + 1).toNat)
              case atStart => exact ⟨K, by rw [show (P : Int) = (K : Int) - 1 by (have := HP.out; omega)], Nat.le_refl _, rfl, by exact bel0⟩
              case round =>
                obtain ⟨q, rfl, hqK, hfq, hg8⟩ := hrel
                have HFQ := Lib.hid hfq
                clear hfq
                rcases q with _ | p
                · have e0 : ((0 : Nat) : Int) - 1 = -1 := rfl
                  have HQ0 := Lib.hid (HFQ.out.trans (show fstJ row 0 = none from rfl))
                  rw [e0]
                  go_wp2_with fail
                  go_meet
                  exact ⟨-1, rfl, .inl ⟨rfl, HQ0.out⟩, hg8⟩
                · have e0 : ((p + 1 : Nat) : Int) - 1 = (p : Int) := by omega
                  rw [e0]
                  have hpr : p < row.length := by rw [hI4]; omega
                  have hpi : (p : Int) < (K : Int) := by omega
                  have hp0 : (0 : Int) ≤ (p : Int) := by omega
                  have hpr' : (p : Int) < (row.length : Int) := by omega
                  obtain ⟨br, orr, rfl, hbr, y0, y1⟩ := (rdr.grows hg8) p hpr
                  have hcm8 := (hg8.cell (p := ⟨bm, om + K, none⟩) hbm).trans hcm
                  have HB1 := Lib.hid fun h => fstJ_bad (row := row) (j := p) h
                  have HB2 := Lib.hid fun h h2 => fstJ_next (row := row) (j := p) h h2
                  have HB3 := Lib.hid fun h h2 => fstJ_here (row := row) (j := p) h h2
                  have C1 := CIR.out (nthQ row p)
                  have C2 := Lib.hid fun W => CRQ.out (nthQ row p) W
                  have k1 : IntKind.i64.wrap ((p : Int) - 1) = (p : Int) - 1 := IntWalk.i64_in _ (by omega)
                  generalize nthQ row p = qq at *
                  have HI4 := Lib.hid hI4
                  cases hok : okQ qq
                  · have HT := Lib.hid (HFQ.out.trans (HB1.out hok))
                    rw [hok] at C1
                    have C1' := Lib.hid C1
                    clear C1 hok hI4
                    go_wp2_with fail
                    refine (C1'.out _).mono ?_; rintro e w9 ⟨rfl, g9⟩
                    go_wp2_with fail
                    go_meet
                    exact ⟨(p : Int), rfl, .inr ⟨p, rfl, HT.out⟩, by exact bel2 g9 hg8⟩
                  · rw [hok] at C1
                    have C1' := Lib.hid C1
                    by_cases hz : roundQ qq = 0
                    · have HT := Lib.hid (HFQ.out.trans (HB2.out hok hz))
                      have C2' := C2.out
                      rw [hz] at C2'
                      have C2'' := Lib.hid C2'
                      clear C1 C2' hok hz hI4
                      go_wp2_with fail
                      refine (C1'.out _).mono ?_; rintro e w9 ⟨rfl, g9⟩
                      have y09 := (g9.cell (p := ⟨br, orr + p * 2, none⟩) (by omega)).trans y0
                      have y19 := (g9.cell (p := ⟨br, orr + p * 2 + 1, none⟩) (by omega)).trans y1
                      have hcm9 := (g9.cell (p := ⟨bm, om + K, none⟩) (Nat.lt_of_lt_of_le hbm (Below.size hg8))).trans hcm8
                      go_wp2_with fail
                      refine (C2''.out _).mono ?_; rintro e w10 ⟨rfl, g10⟩
                      go_wp2_with fail
                      go_round
                      case rel => exact ⟨p, rfl, by omega, HT.out, by exact bel3 g10 g9 hg8⟩
                      case measure => simp [intOf]
                    · have HT := Lib.hid (HFQ.out.trans (HB3.out hok hz))
                      have hzb : (roundQ qq == 0) = false := by simpa using hz
                      generalize roundQ qq = rq at *
                      clear C1 hok hI4
                      go_wp2_with fail
                      refine (C1'.out _).mono ?_; rintro e w9 ⟨rfl, g9⟩
                      have y09 := (g9.cell (p := ⟨br, orr + p * 2, none⟩) (by omega)).trans y0
                      have y19 := (g9.cell (p := ⟨br, orr + p * 2 + 1, none⟩) (by omega)).trans y1
                      have hcm9 := (g9.cell (p := ⟨bm, om + K, none⟩) (Nat.lt_of_lt_of_le hbm (Below.size hg8))).trans hcm8
                      go_wp2_with fail
                      refine (C2.out _).mono ?_; rintro e w10 ⟨rfl, g10⟩
                      go_wp2_with fail
                      go_meet
                      exact ⟨(p : Int), rfl, .inr ⟨p, rfl, HT.out⟩, by exact bel3 g10 g9 hg8⟩
            case rest =>
              obtain ⟨jj, rfl, hj, g78⟩ := hcut
              obtain ⟨w8, rfl⟩ : ∃ x : World, x = wc := ⟨_, rfl⟩
              have G18 : Grows w1 w8 := by exact bel2 g78 G17
              have pr8 := (HPR.out.grows (w' := w8) (by exact bel2 g78 g7))
              have mA8 := mA.grows (w' := w8) (by exact bel2 g78 g7)
              have mU8 := mU.grows (w' := w8) (by exact bel2 g78 g7)
              rcases hj with ⟨rfl, hfj⟩ | ⟨J, rfl, hfj⟩
              · -- all before are nearest to 0: the order
                obtain ⟨as_, os_, rfl, has, u0, u1⟩ := (rds.grows g78) P (by rw [hI2]; omega)
                obtain ⟨as2, os2, e2, _, v0, v1⟩ := (rds.grows g78) K (by rw [hI2]; exact hlt)
                simp only [Option.some.injEq, Addr.mk.injEq, and_true] at e2
                obtain ⟨rfl, rfl⟩ := e2
                obtain ⟨br, orr, rfl, hbr, y0, y1⟩ := (rdr.grows g78) P (by rw [hI4]; omega)
                have hcm8 := (g78.cell (p := ⟨bm, om + K, none⟩) hbm).trans hcm
                have x0 := ext_is y0; have x1 := ext_is y1; have x2 := ext_is u0; have x3 := ext_is u1; have x4 := ext_is v0; have x5 := ext_is v1; have x6 := ext_is hcm8
                have hsK : (K : Int) < (sq.length : Int) := by rw [hI2]; exact hlt'
                have hsP : (P : Int) < (sq.length : Int) := by omega
                have hp0 : (0 : Int) ≤ (P : Int) := by omega
                have hPr : (P : Int) < (row.length : Int) := by rw [hI4]; exact hPK
                have hoS : ordS (mu, sq) K = ordQ (nthQ row P) (nthQ sq P) (nthQ sq K) := by
                  unfold ordS
                  simp only
                  rw [← HRW.out, show K - 1 = P by (have := HP.out; omega)]
                have CG := fun W => l19Good_c (nthQ row P) (nthQ sq P) (nthQ sq K) W
                rw [← hoS] at CG
                have hR1 := Lib.hid fun (h : fstJ row K = none) h2 => redS_unknown (R := R) (s := s) (mu := (mu, sq)) (k := K) (by simp only; rw [← HRW.out]; exact h) h2
                have hR2 := Lib.hid fun (h : fstJ row K = none) h2 => redS_good (R := R) (s := s) (mu := (mu, sq)) (k := K) (by simp only; rw [← HRW.out]; exact h) h2
                have hR3 := Lib.hid fun (h : fstJ row K = none) h2 h3 => redS_swap (R := R) (s := s) (mu := (mu, sq)) (k := K) (by simp only; rw [← HRW.out]; exact h) h2 h3
                have HFJ := Lib.hid hfj
                generalize nthQ row P = qa at *
                generalize nthQ sq P = qb at *
                generalize nthQ sq K = qc at *
                have hI4' := Lib.hid hI4
                generalize ordS (mu, sq) K = OO at *
                clear hoS hfj hI4
                by_cases h2 : OO = 2
                · have hgd : (OO == 0 || OO == 1) = false := by rw [h2]; rfl
                  have hkn : (OO != 2) = false := by rw [h2]; rfl
                  rw [hgd, hkn] at CG
                  have CG' := Lib.hid CG
                  obtain rfl : RES = none := rdg_none HF2.out (redS_none_next hlt HACC.out (hR1.out HFJ.out h2))
                  clear CG hgd hkn h2
                  go_wp2_with fail
                  ((refine wp_region_ext (by kernel_rfl) (by kernel_rfl) ?_); (repeat (go_big_quiet_step ((go_at_call 79; with_reducible exact extC (CG'.out _))))); refine wpQuiet_nil ?_; rintro w9 ⟨w90, hw90⟩; have g9 := grows_of_ext hw90; clear hw90 w90)
                  (have z2 := m2.grows (w' := w9) (by exact bel2 g9 G18); have z3 := m3.grows (w' := w9) (by exact bel2 g9 G18); obtain ⟨zr0, zr1, zr2⟩ := z2.cells; have zrf := z2.fz; have zrl := z2.lt; obtain ⟨yr0, yr1, yr2⟩ := z3.cells; have yrf := z3.fz; have yrl := z3.lt; go_wp2_with fail; refine bodyPost_ret (v := .tuple #[.agg #[.int .i64 0, .int .i64 0, .slice none 0 0], .agg #[.int .i64 0, .int .i64 0, .slice none 0 0], .bool false]) ?_ rfl ?_; (simp [results, Tryz.results19, go_sem, zr0, zr1, zr2, zrf, zrl, yr0, yr1, yr2, yrf, yrl]); exact ⟨_, _, rfl, Own.nil _ _, Own.nil _ _, by simp [Value.ownBlock], by exact bel3 g9 G18 g01⟩)
                · by_cases h3 : OO = 0 ∨ OO = 1
                  · have hgd : (OO == 0 || OO == 1) = true := by rcases h3 with h | h <;> rw [h] <;> rfl
                    have hkn : (OO != 2) = true := by simpa using h2
                    rw [hgd, hkn] at CG
                    have CG' := Lib.hid CG
                    have HNX := Lib.hid (redS_some_next (F := F) hlt HACC.out (hR2.out HFJ.out h3))
                    have hok := HOK.out
                    have CBa := fun W h => l1Bads_c A3 s.1 (R * R) c3 W hok.l1 h (by omega)
                    have CBu := fun W h => l1Bads_c U s.2 (R * R) cu W hok.l2 h (by omega)
                    rw [anyBad_mkd (mkd_of hok.n1), hok.n1] at CBa
                    rw [anyBad_mkd (mkd_of hok.n2), hok.n2] at CBu
                    have CBa' := Lib.hid CBa
                    have CBu' := Lib.hid CBu
                    clear CG hgd hkn h2 h3 CBa CBu hok
                    go_wp2_with fail
                    ((refine wp_region_ext (by kernel_rfl) (by kernel_rfl) ?_); (repeat (go_big_quiet_step ((go_at_call 79; with_reducible exact extC (CG'.out _))))); refine wpQuiet_nil ?_; rintro w9 ⟨w90, hw90⟩; have g9 := grows_of_ext hw90; clear hw90 w90)
                    have pr9 := pr8.grows g9
                    have mA9 := mA8.grows g9
                    have mU9 := mU8.grows g9
                    obtain ⟨b0, b1, b2⟩ := mA9.cells
                    obtain ⟨d0, d1, d2⟩ := mU9.cells
                    go_wp2_with fail
                    refine (CBa'.out _ pr9.oa.rd').mono ?_; rintro e w' ⟨rfl, rfl⟩
                    go_wp2_with fail
                    refine (CBu'.out _ pr9.ou.rd').mono ?_; rintro e w' ⟨rfl, rfl⟩
                    go_wp2_with fail
                    go_round
                    case rel => exact ⟨K + 1, S + 1, s, by go_num, by go_num, by omega, .inl (by omega), by omega, HOK.out, by rw [HFE.out, HF2.out, HNX.out], pr9, mA9, mU9, by exact bel2 g9 G18, by have := Below.size g9; have := Below.size g78; have := Below.size g7; omega⟩
                    case measure => simp [intOf]; omega
                  · have hgd : (OO == 0 || OO == 1) = false := by simpa using h3
                    have hkn : (OO != 2) = true := by simpa using h2
                    rw [hgd, hkn] at CG
                    have CG' := Lib.hid CG
                    have HNX := Lib.hid (redS_some_next (F := F) hlt HACC.out (hR3.out HFJ.out h2 h3))
                    have hok := HOK.out
                    have hok2 := bothW_ok hok hlt (show K - 1 < R by omega)
                    have HOK2 := Lib.hid hok2
                    have CBW := Lib.hid fun W pr => bothSwp_c R A3 U (R * R) c3 (R * R) cu w1.heap.size K P s.1 s.2 W pr hok.l1 hok.l2 rfl rfl hR hlt (by have := HP.out; omega) (by have := HP.out; omega)
                    have hPK1 : K - 1 = P := by have := HP.out; omega
                    rw [hPK1] at HNX HOK2 hok2
                    have CBa := fun W h => l1Bads_c A3 (bothW R K P s).1 (R * R) c3 W hok2.l1 h (by omega)
                    have CBu := fun W h => l1Bads_c U (bothW R K P s).2 (R * R) cu W hok2.l2 h (by omega)
                    rw [anyBad_mkd (mkd_of hok2.n1), hok2.n1] at CBa
                    rw [anyBad_mkd (mkd_of hok2.n2), hok2.n2] at CBu
                    have CBa' := Lib.hid CBa
                    have CBu' := Lib.hid CBu
                    have HPK1 := Lib.hid hPK1
                    clear CG hgd hkn h2 h3 CBa CBu hok hok2 hPK1
                    go_wp2_with fail
                    ((refine wp_region_ext (by kernel_rfl) (by kernel_rfl) ?_); (repeat (go_big_quiet_step ((go_at_call 79; with_reducible exact extC (CG'.out _))))); refine wpQuiet_nil ?_; rintro w9 ⟨w90, hw90⟩; have g9 := grows_of_ext hw90; clear hw90 w90)
                    have pr9 := pr8.grows g9
                    have mA9 := mA8.grows g9
                    have mU9 := mU8.grows g9
                    obtain ⟨b0, b1, b2⟩ := mA9.cells
                    obtain ⟨d0, d1, d2⟩ := mU9.cells
                    have hs79 : w5.heap.size ≤ w9.heap.size := by have := Below.size g9; have := Below.size g78; have := Below.size g7; omega
                    go_wp2_with fail
                    refine (CBW.out _ pr9).mono ?_; rintro e w10 ⟨rfl, pr10, g10⟩
                    have mA10 := mA9.two g10 (fun g h => by have := HA.out g h; omega) (fun g h => by have := HU.out g h; omega)
                    have mU10 := mU9.two g10 (fun g h => by have := HA.out g h; omega) (fun g h => by have := HU.out g h; omega)
                    have b10 : Below w1.heap.size w9 w10 := g10.below (Below.size (show Grows w1 w9 by exact bel2 g9 G18)) (fun g h => by have := HA.out g h; omega) (fun g h => by have := HU.out g h; omega)
                    have g110 : Grows w1 w10 := Below.trans (show Grows w1 w9 by exact bel2 g9 G18) b10
                    have hs910 := g10.size
                    clear b0 b1 b2 d0 d1 d2 g10
                    obtain ⟨b0, b1, b2⟩ := mA10.cells
                    obtain ⟨d0, d1, d2⟩ := mU10.cells
                    have HPV := Lib.hid (show P < R by have := HP.out; omega)
                    go_wp2_with fail
                    all_goals
                      refine (CBa'.out _ pr10.oa.rd').mono ?_; rintro e w' ⟨rfl, rfl⟩
                      go_wp2_with fail
                      refine (CBu'.out _ pr10.ou.rd').mono ?_; rintro e w' ⟨rfl, rfl⟩
                      go_wp2_with fail
                      go_round
                      case rel => exact ⟨max 1 P, S + 1, bothW R K P s, by (have hpv := HPV.out; first | rfl | (congr 1; omega) | (simp; omega)), by go_num, by omega, .inl (by have := HPV.out; omega), by omega, HOK2.out, by rw [HFE.out, HF2.out, HNX.out], pr10, mA10, mU10, g110, by omega⟩
                      case measure => simp [intOf]; omega
              · -- the last one that is not
                have hJK := fstJ_lt hfj
                have hJP : J < row.length := by rw [hI4]; exact hJK
                obtain ⟨br, orr, rfl, hbr, y0, y1⟩ := (rdr.grows g78) J hJP
                have hcm8 := (g78.cell (p := ⟨bm, om + K, none⟩) hbm).trans hcm
                have hj0 : (0 : Int) ≤ (J : Int) := by omega
                have hjr : (J : Int) < (row.length : Int) := by omega
                have hjk : (J : Int) < (K : Int) := by omega
                have C1 := CIR.out (nthQ row J)
                have C2 := Lib.hid fun W => CRQ.out (nthQ row J) W
                have hR1 := Lib.hid fun h2 => redS_bad (R := R) (s := s) (mu := (mu, sq)) (k := K) (j := J) (by simp only; rw [← HRW.out]; exact hfj) h2
                have hR2 := Lib.hid fun h2 => redS_add (R := R) (s := s) (mu := (mu, sq)) (k := K) (j := J) (by simp only; rw [← HRW.out]; exact hfj) h2
                simp only at hR1 hR2
                rw [← HRW.out] at hR1 hR2
                have HRN := Lib.hid fun h => round_num (q := nthQ row J) h
                generalize nthQ row J = qq at *
                have HI4 := Lib.hid hI4
                clear hfj hI4
                cases hok : okQ qq
                · obtain rfl : RES = none := rdg_none HF2.out (redS_none_next hlt HACC.out (hR1.out hok))
                  rw [hok] at C1
                  have C1' := Lib.hid C1
                  clear C1 hok
                  go_wp2_with fail
                  refine (C1'.out _).mono ?_; rintro e w9 ⟨rfl, g9⟩
                  (have z2 := m2.grows (w' := w9) (by exact bel2 g9 G18); have z3 := m3.grows (w' := w9) (by exact bel2 g9 G18); obtain ⟨zr0, zr1, zr2⟩ := z2.cells; have zrf := z2.fz; have zrl := z2.lt; obtain ⟨yr0, yr1, yr2⟩ := z3.cells; have yrf := z3.fz; have yrl := z3.lt; go_wp2_with fail; refine bodyPost_ret (v := .tuple #[.agg #[.int .i64 0, .int .i64 0, .slice none 0 0], .agg #[.int .i64 0, .int .i64 0, .slice none 0 0], .bool false]) ?_ rfl ?_; (simp [results, Tryz.results19, go_sem, zr0, zr1, zr2, zrf, zrl, yr0, yr1, yr2, yrf, yrl]); exact ⟨_, _, rfl, Own.nil _ _, Own.nil _ _, by simp [Value.ownBlock], by exact bel3 g9 G18 g01⟩)
                · have HS2 := hR2.out hok
                  have hrn := HRN.out hok
                  rw [hok] at C1
                  have C1' := Lib.hid C1
                  clear C1 hok HRN hR1 hR2
                  generalize roundQ qq = rq at *
                  have hnb := (isNum_iff rq).1 hrn
                  have hnn : isNum (-rq) = true := (isNum_iff _).2 (by omega)
                  have kn : IntKind.i64.wrap (-rq) = -rq := IntWalk.i64_in _ (by omega)
                  have hsk := HOK.out
                  rw [bothA_two hsk] at HS2
                  have CBA := Lib.hid fun W pr => bothAdd_c R A3 U (R * R) c3 (R * R) cu w1.heap.size K J (-rq) s.1 s.2 W pr hsk.l1 hsk.l2 rfl rfl hR (mkd_of hsk.n1) (mkd_of hsk.n2) hlt (by omega) hnn
                  have hml1 := addCT_mkd (i := K) (j := J) (t := -rq) (addT_length R R K J (-rq) s.1) (addT_mkd hsk.l1 (mkd_of hsk.n1))
                  have hml2 := addT_mkd (i := K) (j := J) (t := -rq) hsk.l2 (mkd_of hsk.n2)
                  have CBa := fun W h => l1Bads_c A3 (addCT R R K J (-rq) (addT R R K J (-rq) s.1)) (R * R) c3 W (addCT_length _ _ _ _ _ _) h (by omega)
                  have CBu := fun W h => l1Bads_c U (addT R R K J (-rq) s.2) (R * R) cu W (addT_length _ _ _ _ _ _) h (by omega)
                  rw [anyBad_mkd hml1] at CBa
                  rw [anyBad_mkd hml2] at CBu
                  have HAL := Lib.hid (addCT_length R R K J (-rq) (addT R R K J (-rq) s.1))
                  have HUL := Lib.hid (addT_length R R K J (-rq) s.2)
                  generalize addCT R R K J (-rq) (addT R R K J (-rq) s.1) = a2 at *
                  generalize addT R R K J (-rq) s.2 = u2 at *
                  have HS2' := Lib.hid HS2
                  clear HS2 hml1 hml2 hsk hrn hnn
                  go_wp2_with fail
                  refine (C1'.out _).mono ?_; rintro e w9 ⟨rfl, g9⟩
                  have y09 := (g9.cell (p := ⟨br, orr + J * 2, none⟩) hbr).trans y0
                  have y19 := (g9.cell (p := ⟨br, orr + J * 2 + 1, none⟩) hbr).trans y1
                  have hcm9 := (g9.cell (p := ⟨bm, om + K, none⟩) (Nat.lt_of_lt_of_le hbm (Below.size g78))).trans hcm8
                  have pr9 := pr8.grows g9
                  have mA9 := mA8.grows g9
                  have mU9 := mU8.grows g9
                  have hs79 : w5.heap.size ≤ w9.heap.size := by have := Below.size g9; have := Below.size g78; have := Below.size g7; omega
                  have x0 := ext_is y09; have x1 := ext_is y19; have x6 := ext_is hcm9
                  have e0 := mA9.ext.1; have e1 := mA9.ext.2.1; have e2 := mA9.ext.2.2
                  have f0 := mU9.ext.1; have f1 := mU9.ext.2.1; have f2 := mU9.ext.2.2
                  go_wp2_with fail
                  ((refine wp_region_tail 14 (by kernel_rfl) (by kernel_rfl) ?_; simp only [List.take_succ_cons, List.take_zero, List.drop_succ_cons, List.drop_zero]); (repeat (go_big_quiet_step ((go_at_call 77; with_reducible exact extC (C2.out _))))); refine wpQuiet_nil ?_; rintro w10 ⟨w100, hw100⟩; have g10 := grows_of_ext hw100; clear hw100 w100)
                  have pr10 := pr9.grows g10
                  have mA10 := mA9.grows g10
                  have mU10 := mU9.grows g10
                  have hs910 := Below.size g10
                  have G110 : Grows w1 w10 := by exact bel3 g10 g9 G18
                  clear x0 x1 x6 e0 e1 e2 f0 f1 f2 y09 y19 hcm9
                  go_wp2_with fail
                  refine (CBA.out _ pr10).mono ?_; rintro e w11 ⟨rfl, pr11, g11⟩
                  have mA11 := mA10.two g11 (fun g h => by have := HA.out g h; omega) (fun g h => by have := HU.out g h; omega)
                  have mU11 := mU10.two g11 (fun g h => by have := HA.out g h; omega) (fun g h => by have := HU.out g h; omega)
                  have b11 : Below w1.heap.size w10 w11 := g11.below (Below.size G110) (fun g h => by have := HA.out g h; omega) (fun g h => by have := HU.out g h; omega)
                  have g111 : Grows w1 w11 := Below.trans G110 b11
                  have hs1011 := g11.size
                  clear g11 y0 y1 hcm8
                  obtain ⟨b0, b1, b2⟩ := mA11.cells
                  obtain ⟨d0, d1, d2⟩ := mU11.cells
                  cases hn1 : allNum a2
                  · obtain rfl : RES = none := rdg_none HF2.out (redS_none_next hlt HACC.out (by rw [HS2'.out, none_two (.inl hn1)]; rfl))
                    rw [hn1] at CBa
                    have CBa' := Lib.hid CBa
                    clear CBa CBu hn1
                    go_wp2_with fail
                    refine (CBa'.out _ pr11.oa.rd').mono ?_; rintro e w' ⟨rfl, rfl⟩
                    (have z2 := m2.grows (w' := w11) (by exact bel1 g111); have z3 := m3.grows (w' := w11) (by exact bel1 g111); obtain ⟨zr0, zr1, zr2⟩ := z2.cells; have zrf := z2.fz; have zrl := z2.lt; obtain ⟨yr0, yr1, yr2⟩ := z3.cells; have yrf := z3.fz; have yrl := z3.lt; go_wp2_with fail; refine bodyPost_ret (v := .tuple #[.agg #[.int .i64 0, .int .i64 0, .slice none 0 0], .agg #[.int .i64 0, .int .i64 0, .slice none 0 0], .bool false]) ?_ rfl ?_; (simp [results, Tryz.results19, go_sem, zr0, zr1, zr2, zrf, zrl, yr0, yr1, yr2, yrf, yrl]); exact ⟨_, _, rfl, Own.nil _ _, Own.nil _ _, by simp [Value.ownBlock], by exact bel2 g111 g01⟩)
                  · cases hn2 : allNum u2
                    · obtain rfl : RES = none := rdg_none HF2.out (redS_none_next hlt HACC.out (by rw [HS2'.out, none_two (.inr hn2)]; rfl))
                      rw [hn1] at CBa
                      rw [hn2] at CBu
                      have CBa' := Lib.hid CBa
                      have CBu' := Lib.hid CBu
                      clear CBa CBu hn1 hn2
                      go_wp2_with fail
                      refine (CBa'.out _ pr11.oa.rd').mono ?_; rintro e w' ⟨rfl, rfl⟩
                      go_wp2_with fail
                      refine (CBu'.out _ pr11.ou.rd').mono ?_; rintro e w' ⟨rfl, rfl⟩
                      (have z2 := m2.grows (w' := w11) (by exact bel1 g111); have z3 := m3.grows (w' := w11) (by exact bel1 g111); obtain ⟨zr0, zr1, zr2⟩ := z2.cells; have zrf := z2.fz; have zrl := z2.lt; obtain ⟨yr0, yr1, yr2⟩ := z3.cells; have yrf := z3.fz; have yrl := z3.lt; go_wp2_with fail; refine bodyPost_ret (v := .tuple #[.agg #[.int .i64 0, .int .i64 0, .slice none 0 0], .agg #[.int .i64 0, .int .i64 0, .slice none 0 0], .bool false]) ?_ rfl ?_; (simp [results, Tryz.results19, go_sem, zr0, zr1, zr2, zrf, zrl, yr0, yr1, yr2, yrf, yrl]); exact ⟨_, _, rfl, Own.nil _ _, Own.nil _ _, by simp [Value.ownBlock], by exact bel2 g111 g01⟩)
                    · have HNX := Lib.hid (redS_some_next (F := F) (y := ((a2, u2), K)) hlt HACC.out (by rw [HS2'.out]; unfold two; rw [hn1, hn2]; rfl))
                      have HOK2 := Lib.hid (show Ok2 R R ((a2, u2) : LL) from ⟨HAL.out, HUL.out, hn1, hn2⟩)
                      rw [hn1] at CBa
                      rw [hn2] at CBu
                      have CBa' := Lib.hid CBa
                      have CBu' := Lib.hid CBu
                      clear CBa CBu hn1 hn2
                      go_wp2_with fail
                      refine (CBa'.out _ pr11.oa.rd').mono ?_; rintro e w' ⟨rfl, rfl⟩
                      go_wp2_with fail
                      refine (CBu'.out _ pr11.ou.rd').mono ?_; rintro e w' ⟨rfl, rfl⟩
                      go_wp2_with fail
                      go_round
                      case rel => exact ⟨K, S + 1, (a2, u2), rfl, by go_num, hK1, hKR, by omega, HOK2.out, by rw [HFE.out, HF2.out, HNX.out], pr11, mA11, mU11, g111, by omega⟩
                      case measure => simp [intOf]; omega
      · obtain rfl : RES = some ((⟨R, R, s.1⟩ : MX), (⟨R, R, s.2⟩ : MX)) := by rw [HF.out, rdgF_end (x := (s, K)) hlt]; rfl
        have hle : (R : Int) ≤ (K : Int) := by omega
        have z2 := m2.grows hg; have z3 := m3.grows hg
        obtain ⟨zr0, zr1, zr2⟩ := z2.cells; have zrf := z2.fz; have zrl := z2.lt
        obtain ⟨yr0, yr1, yr2⟩ := z3.cells; have yrf := z3.fz; have yrl := z3.lt
        have hs5 := Below.size g15
        obtain ⟨b0, b1, b2⟩ := mA.cells
        clear HOK ok HF
        go_wp2_with fail
        (refine wp_region_heldL (fun W => W.cell? ⟨w3.heap.size, 0, none⟩ = some (.int .i64 R) ∧ W.cell? ⟨w3.heap.size, 1, none⟩ = some (.int .i64 R) ∧ W.cell? ⟨w3.heap.size, 2, none⟩ = some (.slice A3 (R * R) c3) ∧ W.cell? ⟨w4.heap.size, 0, none⟩ = some (.int .i64 R) ∧ W.cell? ⟨w4.heap.size, 1, none⟩ = some (.int .i64 R) ∧ W.cell? ⟨w4.heap.size, 2, none⟩ = some (.slice U (R * R) cu)) (by kernel_rfl) (by ((try dsimp only); (exact two_boxes2 (v := .slice A3 (R * R) c3) (v' := .slice U (R * R) cu) (by ((repeat' (first | with_reducible exact mA | with_reducible refine MBox.alloc ?_ _ | with_reducible refine MBox.drew_ ?_ | with_reducible refine MBox.far ?_ ?_ _)); all_goals (first | omega | (simp; done) | (simp; omega)))) (by ((repeat' (first | with_reducible exact mU | with_reducible refine MBox.alloc ?_ _ | with_reducible refine MBox.drew_ ?_ | with_reducible refine MBox.far ?_ ?_ _)); all_goals (first | omega | (simp; done) | (simp; omega))))))) (fun hHeld => ?_); refine heldL_take (i := 0) (v := _) (by rfl) (by kernel_rfl) (by kernel_rfl) (by kernel_rfl) (fun _ _ _ h => h) (Or.inl ⟨by rfl, fun wS hSw => by ((try dsimp only at hSw); go_simp; (try with_reducible rfl))⟩) (by assumption) ?_; simp only [Act.put, List.setIfInBounds_toArray, List.set_cons_zero, List.set_cons_succ]; refine heldL_take (i := 1) (v := _) (by rfl) (by kernel_rfl) (by kernel_rfl) (by kernel_rfl) (fun _ _ _ h => h) (Or.inl ⟨by rfl, fun wS hSw => by ((try dsimp only at hSw); go_simp; (try with_reducible rfl))⟩) (by assumption) ?_; simp only [Act.put, List.setIfInBounds_toArray, List.set_cons_zero, List.set_cons_succ]; refine heldL_step (i := 2) (by kernel_rfl) (by rfl) (fun K hK => ?_); go_simp; refine hK.out _ _ (by ((try dsimp only); (exact two_boxes2 (v := .slice A3 (R * R) c3) (v' := .slice U (R * R) cu) (by ((repeat' (first | with_reducible exact mA | with_reducible refine MBox.alloc ?_ _ | with_reducible refine MBox.drew_ ?_ | with_reducible refine MBox.far ?_ ?_ _)); all_goals (first | omega | (simp; done) | (simp; omega)))) (by ((repeat' (first | with_reducible exact mU | with_reducible refine MBox.alloc ?_ _ | with_reducible refine MBox.drew_ ?_ | with_reducible refine MBox.far ?_ ?_ _)); all_goals (first | omega | (simp; done) | (simp; omega))))))) (fun hHeld => ?_); clear hK K; (try simp only [Act.put, List.setIfInBounds_toArray, List.set_cons_zero, List.set_cons_succ]); refine heldL_step (i := 3) (by kernel_rfl) (by rfl) (fun K hK => ?_); go_simp; refine hK.out _ _ (by ((try dsimp only); (exact two_boxes2 (v := .slice A3 (R * R) c3) (v' := .slice U (R * R) cu) (by ((repeat' (first | with_reducible exact mA | with_reducible refine MBox.alloc ?_ _ | with_reducible refine MBox.drew_ ?_ | with_reducible refine MBox.far ?_ ?_ _)); all_goals (first | omega | (simp; done) | (simp; omega)))) (by ((repeat' (first | with_reducible exact mU | with_reducible refine MBox.alloc ?_ _ | with_reducible refine MBox.drew_ ?_ | with_reducible refine MBox.far ?_ ?_ _)); all_goals (first | omega | (simp; done) | (simp; omega))))))) (fun hHeld => ?_); clear hK K; (try simp only [Act.put, List.setIfInBounds_toArray, List.set_cons_zero, List.set_cons_succ]); refine heldL_take (i := 4) (v := _) (by rfl) (by kernel_rfl) (by kernel_rfl) (by kernel_rfl) (fun _ _ _ h => h) (Or.inl ⟨by rfl, fun wS hSw => by ((try dsimp only at hSw); go_simp; (try with_reducible rfl))⟩) (by assumption) ?_; simp only [Act.put, List.setIfInBounds_toArray, List.set_cons_zero, List.set_cons_succ]; refine wpAnyH_done (by kernel_rfl) ?_ _; refine NoPanic.normal ?_)
        go_wp2_with fail
        refine bodyPost_ret (v := .tuple #[.agg #[.int .i64 R, .int .i64 R, .slice A3 (R * R) c3], .agg #[.int .i64 R, .int .i64 R, .slice U (R * R) cu], .bool true]) ?_ rfl ?_
        · simp [results, Tryz.results19, go_sem, zr0, zr1, zr2, zrf, zrl, yr0, yr1, yr2, yrf, yrl]
        · have hoA : Own wr w1.heap.size (.slice A3 (R * R) c3) (oM2 (some ((⟨(R : Int), (R : Int), s.1⟩ : MX), (⟨(R : Int), (R : Int), s.2⟩ : MX)))).1.l := pr.oa
          have hoU : Own wr w1.heap.size (.slice U (R * R) cu) (oM2 (some ((⟨(R : Int), (R : Int), s.1⟩ : MX), (⟨(R : Int), (R : Int), s.2⟩ : MX)))).2.l := pr.ou
          exact ⟨_, _, rfl, by exact ownl hoA, by exact ownl hoU, pr.ne, by exact bel2 hg g01⟩
end
end Go.Proofs.YtfilbjbogggaoaaGreat

/- Contract: a form is reduced, the program's. -/
namespace Go.Proofs.YtfilbjbogggaoaaGreat
set_option linter.unusedSimpArgs false
set_option linter.unusedVariables false
open Go.RowKit

theorem rdgO_len1 {g : MX} : (oM2 (rdgO g)).1.l.length ≤ 576 := by
  cases h : rdgO g with
  | none => exact Nat.zero_le _
  | some x =>
    obtain ⟨R, s, _, _, hR, rfl, ok⟩ := rdgO_ok h
    show s.1.length ≤ 576
    rw [ok.l1]; exact Nat.mul_le_mul hR hR
theorem rdgO_len2 {g : MX} : (oM2 (rdgO g)).2.l.length ≤ 576 := by
  cases h : rdgO g with
  | none => exact Nat.zero_le _
  | some x =>
    obtain ⟨R, s, _, _, hR, rfl, ok⟩ := rdgO_ok h
    show s.2.length ≤ 576
    rw [ok.l2]; exact Nat.mul_le_mul hR hR
theorem wkF_start {w w4 : World} {B b R n ca cu cv : Nat} {A U V : Option Addr} {l : List Int} (wk : Wk w B b R R n (R * R) (R * R) A U V ca cu cv l (idL R) (idL R) false) (hn : n = R * R) (g : Grows w w4) : WkF w4 B b R w.heap.size (l, idL R) := by
  subst hn
  have hb := wk.bx.lt
  refine ⟨A, U, V, ca, cu, cv, by simp only; rw [trL_id]; exact wk.grows g, by omega, fun h => ?_, fun h => ?_, fun h => ?_⟩
  · have := (World.ownsRow.lt wk.oa _ h).2; omega
  · have := (World.ownsRow.lt wk.ou _ h).2; omega
  · have := (World.ownsRow.lt wk.ov _ h).2; omega
section
set_option maxHeartbeats 40000000
set_option maxRecDepth 100000
theorem iRg_c (r c : Int) (A : Option Addr) (l : List Int) (n cap : Nat) (w : World) (hn : l.length = n) (hcap : n ≤ cap) (hcap2 : cap ≤ 9223372036854775807) (ha : Rd w A l) (hl : n ≤ 1099511627776) :
    Calls Tryz.prog 18 #[.agg #[.int .i64 r, .int .i64 c, .slice A n cap]] w (Mat2Ret (rdgO ⟨r, c, l⟩) w) := by
  have HS := fun W h => iIsDef_c r c A l n cap W hn hcap hcap2 h hl
  obtain ⟨w1, hw1, mg, m2, m3, hs1, g01⟩ := three_mats w r c (.slice A n cap)
  have HW1 := Lib.hid hw1
  have HS1 := Lib.hid hs1
  have ha1 : Rd w1 A l := ha.grows g01
  clear hw1 hs1
  obtain ⟨RES, hRES⟩ : ∃ x, x = rdgO ⟨r, c, l⟩ := ⟨_, rfl⟩
  rw [← hRES]
  cases hq : isDef r c l
  · rw [rdgO_no (g := ⟨r, c, l⟩) hq] at hRES
    rw [hq] at HS
    have HS' := Lib.hid HS
    subst hRES
    clear HS hq hn
    go_enter Tryz.func18, Tryz.ntmps18
    go_wp2_with fail
    rw [← HW1.out]
    refine (HS'.out _ (by exact (Rd.grows ha1 (by exact bel0)))).mono ?_; rintro e w2 ⟨rfl, g2⟩
    (have z2 := m2.grows (w' := w2) (by exact bel1 g2); have z3 := m3.grows (w' := w2) (by exact bel1 g2); obtain ⟨zr0, zr1, zr2⟩ := z2.cells; have zrf := z2.fz; have zrl := z2.lt; obtain ⟨yr0, yr1, yr2⟩ := z3.cells; have yrf := z3.fz; have yrl := z3.lt; go_wp2_with fail; refine bodyPost_ret (v := .tuple #[.agg #[.int .i64 0, .int .i64 0, .slice none 0 0], .agg #[.int .i64 0, .int .i64 0, .slice none 0 0], .bool false]) ?_ rfl ?_; (simp [results, Tryz.results18, go_sem, zr0, zr1, zr2, zrf, zrl, yr0, yr1, yr2, yrf, yrl]); exact ⟨_, _, rfl, Own.nil _ _, Own.nil _ _, by simp [Value.ownBlock], by exact bel2 g2 g01⟩)
  · rw [hq] at HS
    have HS' := Lib.hid HS
    obtain ⟨hmt, R, rfl, rfl, hR6, hlen, hnum⟩ := isSq_nat (isDef_sq hq)
    rw [rdgO_yes hq] at hRES
    have HR := Lib.hid hRES
    have hR : R ≤ 24 := by omega
    have ok0 : Ok2 R R ((l, idL R) : LL) := ⟨hlen, idL_length R, (allNum_iff _).2 hnum, idL_num R⟩
    have OK0 := Lib.hid ok0
    have HNR := Lib.hid (hn.symm.trans hlen)
    have CW := Lib.hid fun W h => newWork_c R R n A l cap W hn hR hR h hl
    clear HS hq hRES ok0 hlen hnum hn hmt
    go_enter Tryz.func18, Tryz.ntmps18
    go_wp2_with fail
    rw [← HW1.out]
    refine (HS'.out _ (by exact (Rd.grows ha1 (by exact bel0)))).mono ?_; rintro e w2 ⟨rfl, g2⟩
    obtain ⟨a0, a1, a2⟩ := (mg.grows g2).cells
    go_wp2_with fail
    refine (CW.out _ (by exact (Rd.grows ha1 (by exact bel1 g2)))).mono ?_; rintro e w3 ⟨b, A', U, V, ca, cu, cv, rfl, wk3, g3⟩
    have hs2 := Below.size g2
    have HS2 := Lib.hid hs2
    have MG := Lib.hid fun wr (h : Below w2.heap.size w2 wr) => (mg.grows g2).keep h (mg.grows g2).lt
    have M2 := Lib.hid fun wr (h : Below w2.heap.size w2 wr) => (m2.grows g2).keep h (m2.grows g2).lt
    have M3 := Lib.hid fun wr (h : Below w2.heap.size w2 wr) => (m3.grows g2).keep h (m3.grows g2).lt
    have hs3 := Below.size g3
    obtain ⟨w4, hw4⟩ : ∃ w4, w4 = w3.alloc (.cells #[.int .i64 1] 3) := ⟨_, rfl⟩
    have g34 : Grows w3 w4 := by rw [hw4]; exact bel0
    have ck4 : w4.cell? ⟨w3.heap.size, 0, none⟩ = some (.int .i64 ((1 : Nat) : Int)) := by rw [hw4]; simp [go_sem]
    have fk4 : w4.frozen? ⟨w3.heap.size, 0, none⟩ = false := by rw [hw4]; simp [go_sem]
    have hk4 : w3.heap.size < w4.heap.size := by rw [hw4]; simp
    have wf4 := wkF_start wk3 HNR.out g34
    have hb4 : Below w2.heap.size w2 w4 := by exact bel2 g34 g3
    have HW4 := Lib.hid hw4
    clear a0 a1 a2 mg m2 m3 wk3 hs2 CW ha1 hw4
    go_wp2_with fail
    rw [← HW4.out]
    go_loopw [7] (fun st wr => ∃ (S K : Nat) (s : LL), st = .int .i64 S ∧ S ≤ 200 ∧ 1 ≤ K ∧ (K ≤ R ∨ K ≤ 1) ∧ Ok2 R R s ∧ RES = (rdgF R (200 - S) (s, K)).map (fun s => ((⟨R, R, s.1⟩ : MX), (⟨R, R, s.2⟩ : MX))) ∧ WkF wr w2.heap.size b R w3.heap.size s ∧ wr.cell? ⟨w3.heap.size, 0, none⟩ = some (.int .i64 K) ∧ wr.frozen? ⟨w3.heap.size, 0, none⟩ = false ∧ w3.heap.size < wr.heap.size ∧ Below w2.heap.size w2 wr) (fun j _ => (200 - intOf j).toNat)
    case atStart => exact ⟨0, 1, (l, idL R), rfl, Nat.zero_le _, Nat.le_refl _, .inr (Nat.le_refl _), OK0.out, HR.out, wf4, ck4, fk4, hk4, hb4⟩
    case round =>
      clear wf4 ck4 fk4 hk4 hb4
      obtain ⟨S, K, s, rfl, hS, hK1, hKR, ok, hF, wf, ck, fk, hk, hb⟩ := hrel
      have HF := Lib.hid hF
      have HOK := Lib.hid ok
      have hwf := wf
      obtain ⟨A2, U2, V2, ca2, cu2, cv2, wk, hn1, hn2, hn3, hn4⟩ := hwf
      obtain ⟨b0, b1, b2, b3, b4, b5, b6, b7, b8, b9⟩ := wk.bx.cells
      have bl := wk.bx.lt
      obtain ⟨a0, a1, a2⟩ := (MG.out wr hb).cells
      clear hF hn1 hn2 hn3 hn4
      by_cases hlt : K < R
      · have hlt' : (K : Int) < (R : Int) := by omega
        have CM := Lib.hid fun W h => (iAcc_c R A2 s.1 (R * R) ca2 W ok.l1 ok.l1 hR h).mono fun _ _ h => accRet_out h
        have hrA := wk.oa.rd'
        clear ok
        go_wp2_with fail
        refine (CM.out _ (by exact (Rd.grows hrA (by exact bel0)))).mono ?_; rintro e w6 ⟨Am, cm, As, cs, rfl, rdm, rds, g6⟩
        have hb6 : Below w2.heap.size w2 w6 := by exact bel2 g6 hb
        cases hacc : accF R s.1 R with
        | none =>
          obtain rfl : RES = none := rdg_none HF.out (rdgF_acc hlt hacc)
          rw [hacc] at rdm rds
          have e1 : (oA none).1 = [] := rfl
          (have z2 := M2.out w6 hb6; have z3 := M3.out w6 hb6; obtain ⟨zr0, zr1, zr2⟩ := z2.cells; have zrf := z2.fz; have zrl := z2.lt; obtain ⟨yr0, yr1, yr2⟩ := z3.cells; have yrf := z3.fz; have yrl := z3.lt; go_wp2_with fail; refine bodyPost_ret (v := .tuple #[.agg #[.int .i64 0, .int .i64 0, .slice none 0 0], .agg #[.int .i64 0, .int .i64 0, .slice none 0 0], .bool false]) ?_ rfl ?_; (simp [results, Tryz.results18, go_sem, zr0, zr1, zr2, zrf, zrl, yr0, yr1, yr2, yrf, yrl]); exact ⟨_, _, rfl, Own.nil _ _, Own.nil _ _, by simp [Value.ownBlock], by exact bel3 hb6 g2 g01⟩)
        | some ms =>
          have hinv := accF_inv hacc
          obtain ⟨mu, sq⟩ := ms
          have HACC := Lib.hid hacc
          rw [hacc] at rdm rds
          have hI1 : mu.length = R := hinv.l1
          have hI2 : sq.length = R := hinv.l2
          have hI3 : ∀ j, j < R → (mu.getD j []).length = j := hinv.row
          have e1 : (oA (some (mu, sq))).1 = mu := rfl
          have e2 : (oA (some (mu, sq))).2 = sq := rfl
          rw [e1] at rdm
          rw [e2] at rds
          rw [e1, e2, hI1, hI2]
          clear e1 e2 hacc hinv
          have hsb := Below.size hb
          have hs6 := Below.size g6
          obtain ⟨w7, hw7⟩ : ∃ w7, w7 = w6.alloc (.cells #[.slice Am R cm, .slice As R cs] 71) := ⟨_, rfl⟩
          have g67 : Grows w6 w7 := by rw [hw7]; exact bel0
          have HW7 := Lib.hid hw7
          have G7 : Grows wr w7 := by exact bel2 g67 g6
          have hb7 : Below w2.heap.size w2 w7 := by exact bel3 g67 g6 hb
          have HI1 := Lib.hid hI1
          have HI2 := Lib.hid hI2
          clear hw7
          by_cases hS2 : S = 200
          · subst hS2
            obtain rfl : RES = none := rdg_none HF.out (rdgF_out hlt)
            clear hI1 hI2
            clear hb7 G7 g67
            (have z2 := M2.out w6 hb6; have z3 := M3.out w6 hb6; obtain ⟨zr0, zr1, zr2⟩ := z2.cells; have zrf := z2.fz; have zrl := z2.lt; obtain ⟨yr0, yr1, yr2⟩ := z3.cells; have yrf := z3.fz; have yrl := z3.lt; go_wp2_with fail; refine bodyPost_ret (v := .tuple #[.agg #[.int .i64 0, .int .i64 0, .slice none 0 0], .agg #[.int .i64 0, .int .i64 0, .slice none 0 0], .bool false]) ?_ rfl ?_; (simp [results, Tryz.results18, go_sem, zr0, zr1, zr2, zrf, zrl, yr0, yr1, yr2, yrf, yrl]); exact ⟨_, _, rfl, Own.nil _ _, Own.nil _ _, by simp [Value.ownBlock], by exact bel3 hb6 g2 g01⟩)
          · have hSn : ¬ (S : Int) = 200 := by omega
            have hSb : ((S : Int) == 200) = false := by rw [beq_eq_false_iff_ne]; omega
            obtain ⟨F, hFu⟩ : ∃ F, 200 - S = F + 1 := ⟨200 - S - 1, by omega⟩
            have HFE : RowKit.Hid (200 - (S + 1) = F) := Lib.hid (by omega)
            have hF2 := HF.out
            rw [hFu] at hF2
            have HF2 := Lib.hid hF2
            have CS := Lib.hid (step_c R w2.heap.size b w3.heap.size K s mu sq Am As cm cs w7 hR (wf.grows G7) HOK.out hK1 hlt (by have := Below.size G7; omega) hs3 ((G7.cell (p := ⟨w3.heap.size, 0, none⟩) hk).trans ck) ((G7.frozen (p := ⟨w3.heap.size, 0, none⟩) hk).trans fk) hI1 hI2 hI3 (rdm.grows RSQ.good g67) (rds.grows g67))
            clear hI1 hI2 hI3 hFu hF2
            go_wp2_with fail
            rw [← HW7.out]
            refine CS.out.mono ?_; rintro e w8 ⟨rfl, b8', h8⟩
            have hb8 : Below w2.heap.size w2 w8 := Below.trans hb7 b8'
            cases hred : redS R (mu, sq) (s, K) with
            | none =>
              obtain rfl : RES = none := rdg_none HF2.out (redS_none_next hlt HACC.out hred)
              clear hred h8
              (have z2 := M2.out w8 hb8; have z3 := M3.out w8 hb8; obtain ⟨zr0, zr1, zr2⟩ := z2.cells; have zrf := z2.fz; have zrl := z2.lt; obtain ⟨yr0, yr1, yr2⟩ := z3.cells; have yrf := z3.fz; have yrl := z3.lt; go_wp2_with fail; refine bodyPost_ret (v := .tuple #[.agg #[.int .i64 0, .int .i64 0, .slice none 0 0], .agg #[.int .i64 0, .int .i64 0, .slice none 0 0], .bool false]) ?_ rfl ?_; (simp [results, Tryz.results18, go_sem, zr0, zr1, zr2, zrf, zrl, yr0, yr1, yr2, yrf, yrl]); exact ⟨_, _, rfl, Own.nil _ _, Own.nil _ _, by simp [Value.ownBlock], by exact bel3 hb8 g2 g01⟩)
            | some y =>
              obtain ⟨s', K'⟩ := y
              obtain ⟨wf8, ck8, fk8, hk8⟩ := h8 _ hred
              obtain ⟨ok8, hK8, hR8⟩ := redS_ok HOK.out hK1 hlt hred
              have HNX := Lib.hid (redS_some_next (F := F) hlt HACC.out hred)
              have HOK8 := Lib.hid ok8
              clear hred h8 ok8
              go_wp2_with fail
              go_round
              case rel => exact ⟨S + 1, K', s', by go_num, by omega, hK8, .inl hR8, HOK8.out, by rw [HFE.out, HF2.out, HNX.out], wf8, ck8, fk8, hk8, hb8⟩
              case measure => simp [intOf]; omega
      · obtain rfl : RES = some ((⟨R, R, s.1⟩ : MX), (⟨R, R, s.2⟩ : MX)) := by rw [HF.out, rdgF_end (x := (s, K)) hlt]; rfl
        have hle : ¬ (K : Int) < (R : Int) := by omega
        have z2 := M2.out wr hb; have z3 := M3.out wr hb
        obtain ⟨zr0, zr1, zr2⟩ := z2.cells; have zrf := z2.fz; have zrl := z2.lt
        obtain ⟨yr0, yr1, yr2⟩ := z3.cells; have yrf := z3.fz; have yrl := z3.lt
        have hbB := wk.lo
        have hsB := HS1.out
        have hs2 := HS2.out
        clear HOK ok HF
        go_wp2_with fail
        (refine wp_region_heldL (fun W => W.cell? ⟨b, 0, none⟩ = some (.int .i64 R) ∧ W.cell? ⟨b, 1, none⟩ = some (.int .i64 R) ∧ W.cell? ⟨b, 2, none⟩ = some (.slice A2 (R * R) ca2) ∧ W.cell? ⟨b, 3, none⟩ = some (.int .i64 R) ∧ W.cell? ⟨b, 4, none⟩ = some (.int .i64 R) ∧ W.cell? ⟨b, 5, none⟩ = some (.slice U2 (R * R) cu2)) (by kernel_rfl) (by ((try dsimp only); (refine wk6 (A := .slice A2 (R * R) ca2) (U := .slice U2 (R * R) cu2) (V := .slice V2 (R * R) cv2) (bd := false) ?_; ((repeat' (first | with_reducible exact wk.bx | with_reducible refine WBox.drew_ ?_ | with_reducible refine WBox.far ?_ ?_ _)); all_goals (first | omega | (simp; done) | (simp; omega)))))) (fun hHeld => ?_); refine heldL_take (i := 0) (v := _) (by rfl) (by kernel_rfl) (by kernel_rfl) (by kernel_rfl) (fun _ _ _ h => h) (Or.inl ⟨by rfl, fun wS hSw => by ((try dsimp only at hSw); go_simp; (try with_reducible rfl))⟩) (by assumption) ?_; simp only [Act.put, List.setIfInBounds_toArray, List.set_cons_zero, List.set_cons_succ]; refine heldL_take (i := 1) (v := _) (by rfl) (by kernel_rfl) (by kernel_rfl) (by kernel_rfl) (fun _ _ _ h => h) (Or.inl ⟨by rfl, fun wS hSw => by ((try dsimp only at hSw); go_simp; (try with_reducible rfl))⟩) (by assumption) ?_; simp only [Act.put, List.setIfInBounds_toArray, List.set_cons_zero, List.set_cons_succ]; refine heldL_take (i := 2) (v := _) (by rfl) (by kernel_rfl) (by kernel_rfl) (by kernel_rfl) (fun _ _ _ h => h) (Or.inl ⟨by rfl, fun wS hSw => by ((try dsimp only at hSw); go_simp; (try with_reducible rfl))⟩) (by assumption) ?_; simp only [Act.put, List.setIfInBounds_toArray, List.set_cons_zero, List.set_cons_succ]; refine heldL_take (i := 3) (v := _) (by rfl) (by kernel_rfl) (by kernel_rfl) (by kernel_rfl) (fun _ _ _ h => h) (Or.inl ⟨by rfl, fun wS hSw => by ((try dsimp only at hSw); go_simp; (try with_reducible rfl))⟩) (by assumption) ?_; simp only [Act.put, List.setIfInBounds_toArray, List.set_cons_zero, List.set_cons_succ]; refine heldL_take (i := 4) (v := _) (by rfl) (by kernel_rfl) (by kernel_rfl) (by kernel_rfl) (fun _ _ _ h => h) (Or.inl ⟨by rfl, fun wS hSw => by ((try dsimp only at hSw); go_simp; (try with_reducible rfl))⟩) (by assumption) ?_; simp only [Act.put, List.setIfInBounds_toArray, List.set_cons_zero, List.set_cons_succ]; refine heldL_take (i := 5) (v := _) (by rfl) (by kernel_rfl) (by kernel_rfl) (by kernel_rfl) (fun _ _ _ h => h) (Or.inl ⟨by rfl, fun wS hSw => by ((try dsimp only at hSw); go_simp; (try with_reducible rfl))⟩) (by assumption) ?_; simp only [Act.put, List.setIfInBounds_toArray, List.set_cons_zero, List.set_cons_succ]; refine heldL_take (i := 6) (v := _) (by rfl) (by kernel_rfl) (by kernel_rfl) (by kernel_rfl) (fun _ _ _ h => h) (Or.inl ⟨by rfl, fun wS hSw => by ((try dsimp only at hSw); go_simp; (try with_reducible rfl))⟩) (by assumption) ?_; simp only [Act.put, List.setIfInBounds_toArray, List.set_cons_zero, List.set_cons_succ]; refine heldL_take (i := 7) (v := _) (by rfl) (by kernel_rfl) (by kernel_rfl) (by kernel_rfl) (fun _ _ _ h => h) (Or.inl ⟨by rfl, fun wS hSw => by ((try dsimp only at hSw); go_simp; (try with_reducible rfl))⟩) (by assumption) ?_; simp only [Act.put, List.setIfInBounds_toArray, List.set_cons_zero, List.set_cons_succ]; refine heldL_step (i := 8) (by kernel_rfl) (by rfl) (fun K hK => ?_); go_simp; refine hK.out _ _ (by ((try dsimp only); (refine wk6 (A := .slice A2 (R * R) ca2) (U := .slice U2 (R * R) cu2) (V := .slice V2 (R * R) cv2) (bd := false) ?_; ((repeat' (first | with_reducible exact wk.bx | with_reducible refine WBox.drew_ ?_ | with_reducible refine WBox.far ?_ ?_ _)); all_goals (first | omega | (simp; done) | (simp; omega)))))) (fun hHeld => ?_); clear hK K; (try simp only [Act.put, List.setIfInBounds_toArray, List.set_cons_zero, List.set_cons_succ]); refine heldL_step (i := 9) (by kernel_rfl) (by rfl) (fun K hK => ?_); go_simp; refine hK.out _ _ (by ((try dsimp only); (refine wk6 (A := .slice A2 (R * R) ca2) (U := .slice U2 (R * R) cu2) (V := .slice V2 (R * R) cv2) (bd := false) ?_; ((repeat' (first | with_reducible exact wk.bx | with_reducible refine WBox.drew_ ?_ | with_reducible refine WBox.far ?_ ?_ _)); all_goals (first | omega | (simp; done) | (simp; omega)))))) (fun hHeld => ?_); clear hK K; (try simp only [Act.put, List.setIfInBounds_toArray, List.set_cons_zero, List.set_cons_succ]); refine heldL_take (i := 10) (v := _) (by rfl) (by kernel_rfl) (by kernel_rfl) (by kernel_rfl) (fun _ _ _ h => h) (Or.inl ⟨by rfl, fun wS hSw => by ((try dsimp only at hSw); go_simp; (try with_reducible rfl))⟩) (by assumption) ?_; simp only [Act.put, List.setIfInBounds_toArray, List.set_cons_zero, List.set_cons_succ]; refine wpAnyH_done (by kernel_rfl) ?_ _; refine NoPanic.normal ?_)
        go_wp2_with fail
        refine bodyPost_ret (v := .tuple #[.agg #[.int .i64 R, .int .i64 R, .slice A2 (R * R) ca2], .agg #[.int .i64 R, .int .i64 R, .slice U2 (R * R) cu2], .bool true]) ?_ rfl ?_
        · simp [results, Tryz.results18, go_sem, zr0, zr1, zr2, zrf, zrl, yr0, yr1, yr2, yrf, yrl]
        · have hoA : Own wr w2.heap.size (.slice A2 (R * R) ca2) (oM2 (some ((⟨(R : Int), (R : Int), s.1⟩ : MX), (⟨(R : Int), (R : Int), s.2⟩ : MX)))).1.l := wk.oa
          have hoU : Own wr w2.heap.size (.slice U2 (R * R) cu2) (oM2 (some ((⟨(R : Int), (R : Int), s.1⟩ : MX), (⟨(R : Int), (R : Int), s.2⟩ : MX)))).2.l := wk.ou
          exact ⟨_, _, rfl, by exact ownl hoA, by exact ownl hoU, wk.au, by exact bel3 hb g2 g01⟩
end
end Go.Proofs.YtfilbjbogggaoaaGreat
