/- Contracts and lemmas, put together. -/
import Derived.Test.YtpgoefdeodoacaaPkF
import Derived.Test.YtpgoefdeodoacaaQRdgP
import Derived.Test.YtpgoefdeodoacaaQSmithP
/- Contracts: an operation on the columns of a matrix, the reference's; on rows and columns of a form. -/
namespace Go.Proofs.Ytpgoefdeodoacaa
set_option linter.unusedSimpArgs false
set_option linter.unusedVariables false
open Go.RowKit

/-- the rows before K are as f says, the others as in l -/
def RowD (R C : Nat) (f : Nat → Nat → Int) (l : List Int) (K : Nat) (m : List Int) : Prop := m.length = R * C ∧ ∀ a b, a < R → b < C → nth m (a * C + b) = if a < K then f a b else nth l (a * C + b)
theorem RowD.zero {R C : Nat} {f : Nat → Nat → Int} {l : List Int} (hl : l.length = R * C) : RowD R C f l 0 l := ⟨hl, fun a b _ _ => by simp⟩
theorem RowD.cell {R C : Nat} {f : Nat → Nat → Int} {l m : List Int} {K b : Nat} (h : RowD R C f l K m) (hK : K < R) (hb : b < C) : nth m (K * C + b) = nth l (K * C + b) := by
  rw [h.2 K b hK hb, if_neg (by omega)]
theorem RowD.set2 {R C : Nat} {f : Nat → Nat → Int} {l m : List Int} {K i j : Nat} (h : RowD R C f l K m) (hi : i < C) (hj : j < C) (hK : K < R) (ho : ∀ b, b < C → b ≠ i → b ≠ j → f K b = nth l (K * C + b)) :
    RowD R C f l (K + 1) ((m.set (K * C + i) (f K i)).set (K * C + j) (f K j)) := by
  refine ⟨by rw [List.length_set, List.length_set]; exact h.1, fun a b ha hb => ?_⟩
  rw [nth_set _ _ _ _ (by rw [List.length_set, h.1]; exact idx_lt hK hj), nth_set _ _ _ _ (by rw [h.1]; exact idx_lt hK hi)]
  by_cases e1 : a * C + b = K * C + j
  · obtain ⟨rfl, rfl⟩ := idx_inj hb hj e1
    rw [if_pos rfl, if_pos (by omega)]
  · rw [if_neg e1]
    by_cases e2 : a * C + b = K * C + i
    · obtain ⟨rfl, rfl⟩ := idx_inj hb hi e2
      rw [if_pos rfl, if_pos (by omega)]
    · rw [if_neg e2, h.2 a b ha hb]
      by_cases e3 : a = K
      · subst e3
        rw [if_neg (by omega), if_pos (by omega), ho b hb (fun e => e2 (by rw [e])) (fun e => e1 (by rw [e]))]
      · by_cases e4 : a < K
        · rw [if_pos e4, if_pos (by omega)]
        · rw [if_neg e4, if_neg (by omega)]
theorem RowD.set1 {R C : Nat} {f : Nat → Nat → Int} {l m : List Int} {K i : Nat} (h : RowD R C f l K m) (hi : i < C) (hK : K < R) (ho : ∀ b, b < C → b ≠ i → f K b = nth l (K * C + b)) :
    RowD R C f l (K + 1) (m.set (K * C + i) (f K i)) := by
  have := h.set2 hi hi hK (fun b h1 h2 _ => ho b h1 h2)
  rwa [List.set_set] at this
theorem RowD.all {R C : Nat} {f : Nat → Nat → Int} {l m : List Int} (h : RowD R C f l R m) : m = tab R C f := tab_ext h.1 fun a b ha hb => by rw [h.2 a b ha hb, if_pos ha]
def addCF (C i j : Nat) (t : Int) (l : List Int) : Nat → Nat → Int := fun a b => if b = i then addB (nth l (a * C + i)) (mulB (nth l (a * C + j)) t) else nth l (a * C + b)
def swpCF (C i j : Nat) (l : List Int) : Nat → Nat → Int := fun a b => if b = i then nth l (a * C + j) else if b = j then nth l (a * C + i) else nth l (a * C + b)
theorem addCF_other {C i j a b : Nat} {t : Int} {l : List Int} (h : b ≠ i) : addCF C i j t l a b = nth l (a * C + b) := by unfold addCF; rw [if_neg h]
theorem addCF_same {C i j a : Nat} {t : Int} {l : List Int} : addCF C i j t l a i = addB (nth l (a * C + i)) (mulB (nth l (a * C + j)) t) := by unfold addCF; rw [if_pos rfl]
theorem swpCF_other {C i j a b : Nat} {l : List Int} (h : b ≠ i) (h2 : b ≠ j) : swpCF C i j l a b = nth l (a * C + b) := by unfold swpCF; rw [if_neg h, if_neg h2]
theorem swpCF_i {C i j a : Nat} {l : List Int} : swpCF C i j l a i = nth l (a * C + j) := by unfold swpCF; rw [if_pos rfl]
theorem swpCF_j {C i j a : Nat} {l : List Int} : swpCF C i j l a j = nth l (a * C + i) := by
  unfold swpCF
  split
  · rename_i h; rw [h]
  · rw [if_pos rfl]
theorem addCF_all {R C i j : Nat} {t : Int} {l : List Int} : tab R C (addCF C i j t l) = addCT R C i j t l := rfl
theorem swpCF_all {R C i j : Nat} {l : List Int} : tab R C (swpCF C i j l) = swpCT R C i j l := rfl

section
set_option maxHeartbeats 4000000
set_option maxRecDepth 100000
theorem l13Add_c (R C : Nat) (A : Option Addr) (l : List Int) (n cap i j B : Nat) (t : Int) (w : World) (hn : l.length = n) (hl : n = R * C) (hR : R ≤ 24) (hC : C ≤ 24) (ho : Own w B (.slice A n cap) l) (hm : mkd l) (hi : i < C) (hj : j < C) (ht : isNum t = true) :
    Calls Try.prog 155 #[.agg #[.int .i64 R, .int .i64 C, .slice A n cap], .agg #[.int .i64 2, .int .i64 i, .int .i64 j, .int .i64 t]] w fun e w' => e = .returned (.tuple #[]) ∧ Own w' B (.slice A n cap) (addCT R C i j t l) ∧ w.grownBy w' (Value.slice A n cap).ownBlock := by
  obtain ⟨w1, hw1, mb, ob, hs1, g01⟩ := mat_op w R C (.slice A n cap) 2 i j t
  have HW1 := Lib.hid hw1
  have HS1 := Lib.hid hs1
  have ho1 := ho.grows g01
  have hne : ∀ g, (Value.slice A n cap).ownBlock = some g → g < w.heap.size := fun g h => (World.ownsRow.lt ho g h).2
  have HNE := Lib.hid hne
  have HL := Lib.hid hl
  have HN := Lib.hid hn
  have HMK := Lib.hid fun a b ha hb => mkd_nth (R := R) (C := C) (a := a) (b := b) (hn.trans hl) hm ha hb
  have HT := Lib.hid ht
  have htb := (isNum_iff t).1 ht
  have hRC : R * C ≤ 576 := Nat.mul_le_mul hR hC
  have HI : ∀ a, a < R → a * C ≤ 576 := fun a ha => by have := Nat.mul_le_mul_right C (Nat.le_of_lt ha); omega
  have HII := Lib.hid HI
  have e1 := Lib.hid (RowD.zero (f := addCF C i j t l) (hn.trans hl))
  clear hw1 hs1 hl hn hm ht hne ho HI
  go_enter Try.func155, Try.ntmps155
  go_wp2_with fail
  rw [← HW1.out]
  go_loopw [4] (fun k wr => ∃ (J : Nat) (m : List Int), k = .int .i64 J ∧ J ≤ R ∧ RowD R C (addCF C i j t l) l J m ∧ Own wr B (.slice A n cap) m ∧ w1.grownBy wr (Value.slice A n cap).ownBlock) (fun k _ => R - (intOf k).toNat)
  case atStart => exact ⟨0, l, rfl, Nat.zero_le _, e1.out, ho1, World.grownBy.refl _ _⟩
  case round =>
    clear ho1
    obtain ⟨J, m, rfl, hJ, hd, ho, hg⟩ := hrel
    have mb2 := mb.own hg (fun g h => Nat.ne_of_lt (HNE.out g h))
    have ob2 := ob.own hg (fun g h => by have := HNE.out g h; omega)
    by_cases hlt : J < R
    · have hml := hd.1
      have hlen : R * C = n := HL.out.symm
      obtain ⟨g, cap', e, hgB, hgw⟩ := ho.form (by rw [hml]; have := idx_lt hlt hi; omega)
      simp only [Value.slice.injEq] at e
      obtain ⟨rfl, hnm, rfl⟩ := e
      clear hnm
      have hg2 : g < w.heap.size := HNE.out g (by simp [Value.ownBlock])
      have l1 := idx_lt hlt hi
      have l2 := idx_lt hlt hj
      have c1 := ho.cell (J * C + i) (by rw [hml]; exact l1)
      have c2 := ho.cell (J * C + j) (by rw [hml]; exact l2)
      have cf := ho.free (J * C + i)
      rw [hd.cell hlt hi] at c1
      rw [hd.cell hlt hj] at c2
      have hnx := hd.set1 hi hlt (fun a ha hne => addCF_other hne)
      rw [addCF_same] at hnx
      have HNX := Lib.hid hnx
      have HMX := HMK.out J i hlt hi
      have HMY := HMK.out J j hlt hj
      have HML := Lib.hid (hml.trans hlen)
      have CM := Lib.hid fun W => l1Mul_c (nth l (J * C + j)) t W HMY (.inr HT.out)
      have CA := Lib.hid fun W => l1Add_c (nth l (J * C + i)) (mulB (nth l (J * C + j)) t) W HMX (mulB_or' _ _)
      have HD := Lib.hid hd
      have p1 := castPos J C i; have p2 := castLt (n := R * C) l1; have p3 := castPos J C j; have p4 := castLt (n := R * C) l2
      rw [hlen] at p2 p4
      have q1 : (J : Int) < (R : Int) := by omega
      have k1 := castMul J C; have k2 := castMulLe (HII.out J hlt)
      have a1 := castIdx J C i
      have a2 := castIdx J C j
      clear hd hnx hml hlen l1 l2 HMX HMY
      obtain ⟨b0, b1, b2⟩ := mb2.cells
      obtain ⟨x0, x1, x2, x3⟩ := ob2.cells
      generalize mulB (nth l (J * C + j)) t = y at *
      generalize addB (nth l (J * C + i)) y = z at *
      generalize nth l (J * C + j) = y0 at *
      generalize nth l (J * C + i) = z0 at *
      go_wp2_with fail
      obtain ⟨d0, d1, d2⟩ := mb2.ext
      obtain ⟨f0, f1, f2, f3⟩ := ob2.ext
      ((refine wp_region_tail 16 (by kernel_rfl) (by kernel_rfl) ?_; simp only [List.take_succ_cons, List.take_zero, List.drop_succ_cons, List.drop_zero]); (repeat (go_big_quiet_step ((first | (go_at_call 58; with_reducible exact extS (CM.out _)) | (go_at_call 167; with_reducible exact extS (CA.out _)))))); refine wpQuiet_nil ?_; rintro w3 ⟨w30, hw30⟩; have g3 := grows_of_ext hw30; clear hw30 w30)
      have cf3 := (g3.frozen (p := ⟨g, J * C + i, none⟩) hgw).trans cf
      have c13 := (g3.cell (p := ⟨g, J * C + i, none⟩) hgw).trans c1
      clear d0 d1 d2 f0 f1 f2 f3 b0 b1 b2 x0 x1 x2 x3 c1 cf CM
      go_wp2_with fail
      go_round
      case rel => exact ⟨J + 1, _, by go_num, by omega, HNX.out, (ho.grows g3).put HML.out _ _, only_setCell (p := ⟨g, J * C + i, none⟩) (grown_right hg g3) rfl _⟩
      case measure => simp [intOf]; omega
    · obtain rfl : J = R := by omega
      obtain ⟨b0, b1, b2⟩ := mb2.cells
      go_wp2_with fail
      go_end0
      refine ⟨rfl, ?_, grown_left hg g01⟩
      have := hd.all
      subst this
      exact ho
theorem l13Swp_c (R C : Nat) (A : Option Addr) (l : List Int) (n cap i j B : Nat) (w : World) (hn : l.length = n) (hl : n = R * C) (hR : R ≤ 24) (hC : C ≤ 24) (ho : Own w B (.slice A n cap) l) (hi : i < C) (hj : j < C) (hij : i ≠ j) :
    Calls Try.prog 155 #[.agg #[.int .i64 R, .int .i64 C, .slice A n cap], .agg #[.int .i64 0, .int .i64 i, .int .i64 j, .int .i64 0]] w fun e w' => e = .returned (.tuple #[]) ∧ Own w' B (.slice A n cap) (swpCT R C i j l) ∧ w.grownBy w' (Value.slice A n cap).ownBlock := by
  obtain ⟨w1, hw1, mb, ob, hs1, g01⟩ := mat_op w R C (.slice A n cap) 0 i j 0
  have HW1 := Lib.hid hw1
  have HS1 := Lib.hid hs1
  have ho1 := ho.grows g01
  have hne : ∀ g, (Value.slice A n cap).ownBlock = some g → g < w.heap.size := fun g h => (World.ownsRow.lt ho g h).2
  have HNE := Lib.hid hne
  have HL := Lib.hid hl
  have HN := Lib.hid hn
  have hRC : R * C ≤ 576 := Nat.mul_le_mul hR hC
  have HI : ∀ a, a < R → a * C ≤ 576 := fun a ha => by have := Nat.mul_le_mul_right C (Nat.le_of_lt ha); omega
  have HII := Lib.hid HI
  have e1 := Lib.hid (RowD.zero (f := swpCF C i j l) (hn.trans hl))
  clear hw1 hs1 hl hn hne ho HI
  go_enter Try.func155, Try.ntmps155
  go_wp2_with fail
  rw [← HW1.out]
  go_loopw [4] (fun k wr => ∃ (J : Nat) (m : List Int), k = .int .i64 J ∧ J ≤ R ∧ RowD R C (swpCF C i j l) l J m ∧ Own wr B (.slice A n cap) m ∧ w1.grownBy wr (Value.slice A n cap).ownBlock) (fun k _ => R - (intOf k).toNat)
  case atStart => exact ⟨0, l, rfl, Nat.zero_le _, e1.out, ho1, World.grownBy.refl _ _⟩
  case round =>
    clear ho1
    obtain ⟨J, m, rfl, hJ, hd, ho, hg⟩ := hrel
    have mb2 := mb.own hg (fun g h => Nat.ne_of_lt (HNE.out g h))
    have ob2 := ob.own hg (fun g h => by have := HNE.out g h; omega)
    by_cases hlt : J < R
    · have hml := hd.1
      have hlen : R * C = n := HL.out.symm
      obtain ⟨g, cap', e, hgB, hgw⟩ := ho.form (by rw [hml]; have := idx_lt hlt hi; omega)
      simp only [Value.slice.injEq] at e
      obtain ⟨rfl, hnm, rfl⟩ := e
      clear hnm
      have hg2 : g < w.heap.size := HNE.out g (by simp [Value.ownBlock])
      have l1 := idx_lt hlt hi
      have l2 := idx_lt hlt hj
      have c1 := ho.cell (J * C + i) (by rw [hml]; exact l1)
      have c2 := ho.cell (J * C + j) (by rw [hml]; exact l2)
      have cf := ho.free (J * C + i)
      rw [hd.cell hlt hi] at c1
      rw [hd.cell hlt hj] at c2
      have hnx := hd.set2 hi hj hlt (fun a ha h1 h2 => swpCF_other h1 h2)
      rw [swpCF_i, swpCF_j] at hnx
      have HNX := Lib.hid hnx
      have ho1 : ¬ (J * C + i = J * C + j) := fun e => hij (idx_inj hi hj e).2
      have ho2 : ¬ (J * C + j = J * C + i) := fun e => ho1 e.symm
      have cf2 := ho.free (J * C + j)
      have HML := Lib.hid (hml.trans hlen)
      have HD := Lib.hid hd
      have p1 := castPos J C i; have p2 := castLt (n := R * C) l1; have p3 := castPos J C j; have p4 := castLt (n := R * C) l2
      rw [hlen] at p2 p4
      have q1 : (J : Int) < (R : Int) := by omega
      have k1 := castMul J C; have k2 := castMulLe (HII.out J hlt)
      have a1 := castIdx J C i
      have a2 := castIdx J C j
      clear hd hnx hml hlen l1 l2
      obtain ⟨b0, b1, b2⟩ := mb2.cells
      obtain ⟨x0, x1, x2, x3⟩ := ob2.cells
      generalize nth l (J * C + j) = y0 at *
      generalize nth l (J * C + i) = z0 at *
      go_wp2_with fail
      go_round
      case rel => exact ⟨J + 1, _, by go_num, by omega, HNX.out, (ho.put HML.out _ _).put (by rw [List.length_set]; exact HML.out) _ _, only_setCell (p := ⟨g, J * C + j, none⟩) (only_setCell (p := ⟨g, J * C + i, none⟩) hg rfl _) rfl _⟩
      case measure => simp [intOf]; omega
    · obtain rfl : J = R := by omega
      obtain ⟨b0, b1, b2⟩ := mb2.cells
      go_wp2_with fail
      go_end0
      refine ⟨rfl, ?_, grown_left hg g01⟩
      have := hd.all
      subst this
      exact ho
end
end Go.Proofs.Ytpgoefdeodoacaa
