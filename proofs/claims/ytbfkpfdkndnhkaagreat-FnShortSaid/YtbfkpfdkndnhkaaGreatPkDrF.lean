/- Contracts and lemmas, put together. -/
import Derived.Deep.CutBlock
import Derived.Deep.DeepCutAuto
import Derived.Deep.RegionHeld3
import Derived.Test.YtbfkpfdkndnhkaaGreatPkA
import Derived.Test.YtbfkpfdkndnhkaaGreatPkB
import Derived.Test.YtbfkpfdkndnhkaaGreatPkDrS
import Derived.Test.YtbfkpfdkndnhkaaGreatPkFF
import Derived.Test.YtbfkpfdkndnhkaaGreatPkGF
/- The draws: a unimodular matrix. -/
namespace Go.Proofs.YtbfkpfdkndnhkaaGreat
set_option linter.unusedSimpArgs false
set_option linter.unusedVariables false
open Go.RowKit

/-! ### plain: how large the numbers are -/
def bnd (M : Nat) (l : List Int) : Prop := ∀ i, i < l.length → -(M : Int) ≤ nth l i ∧ nth l i ≤ M
theorem bnd.up {M M' : Nat} {l : List Int} (h : bnd M l) (hM : M ≤ M') : bnd M' l := fun i hi => by have := h i hi; omega
theorem bnd.num {M : Nat} {l : List Int} (h : bnd M l) (hM : M ≤ 400000000) : allNum l = true := (allNum_iff _).2 fun i hi => (isNum_iff _).2 (by have := h i hi; omega)
theorem bnd_tab {R C M : Nat} {f : Nat → Nat → Int} (h : ∀ a b, a < R → b < C → -(M : Int) ≤ f a b ∧ f a b ≤ M) : bnd M (tab R C f) := fun i hi => by
  rw [tab_length] at hi
  obtain ⟨h1, h2, h3⟩ := idx_split hi
  rw [h3, tab_nth _ h1 h2]
  exact h _ _ h1 h2
theorem bnd.cell {R C M a b : Nat} {l : List Int} (h : bnd M l) (hl : l.length = R * C) (ha : a < R) (hb : b < C) : -(M : Int) ≤ nth l (a * C + b) ∧ nth l (a * C + b) ≤ M := h _ (by rw [hl]; exact idx_lt ha hb)
theorem addB_small {x y t : Int} {M : Nat} (hM : M ≤ 1000) (hx : -(M : Int) ≤ x ∧ x ≤ M) (hy : -(M : Int) ≤ y ∧ y ≤ M) (ht : -2 ≤ t ∧ t ≤ 2) : -((3 * M : Nat) : Int) ≤ addB x (mulB y t) ∧ addB x (mulB y t) ≤ ((3 * M : Nat) : Int) := by
  have hyt : -(2 * (M : Int)) ≤ y * t ∧ y * t ≤ 2 * (M : Int) := by
    have h : t = -2 ∨ t = -1 ∨ t = 0 ∨ t = 1 ∨ t = 2 := by omega
    rcases h with rfl | rfl | rfl | rfl | rfl <;> omega
  have n1 : isNum x = true := (isNum_iff _).2 (by omega)
  have n2 : isNum y = true := (isNum_iff _).2 (by omega)
  have n3 : isNum t = true := (isNum_iff _).2 (by omega)
  have n4 : isNum (y * t) = true := (isNum_iff _).2 (by omega)
  have n5 : isNum (x + y * t) = true := (isNum_iff _).2 (by omega)
  rw [mulB_num n2 n3, fit_yes n4, addB_num n1 n4, fit_yes n5]
  omega
theorem bnd_addT {R C i j M : Nat} {t : Int} {l : List Int} (hl : l.length = R * C) (hi : i < R) (hj : j < R) (h : bnd M l) (hM : M ≤ 1000) (ht : -2 ≤ t ∧ t ≤ 2) : bnd (3 * M) (addT R C i j t l) := bnd_tab fun a b ha hb => by
  split
  · exact addB_small hM (h.cell hl hi hb) (h.cell hl hj hb) ht
  · have := h.cell hl ha hb; omega
theorem bnd_swpT {R C i j M : Nat} {l : List Int} (hl : l.length = R * C) (hi : i < R) (hj : j < R) (h : bnd M l) : bnd M (swpT R C i j l) := bnd_tab fun a b ha hb => by
  split
  · exact h.cell hl hj hb
  · split
    · exact h.cell hl hi hb
    · exact h.cell hl ha hb
theorem bnd_negT {R C i M : Nat} {l : List Int} (hl : l.length = R * C) (hi : i < R) (h : bnd M l) (hM : M ≤ 1000) : bnd M (negT R C i l) := bnd_tab fun a b ha hb => by
  split
  · have := h.cell hl hi hb
    rw [mulB_num ((isNum_iff _).2 (by omega)) (by decide), fit_yes ((isNum_iff _).2 (by omega))]
    omega
  · exact h.cell hl ha hb
theorem bnd_idL (R : Nat) : bnd 1 (idL R) := bnd_tab fun a b ha hb => by split <;> omega
theorem pow_step {M K : Nat} (h : M * 3 ^ (K + 1) ≤ 243) : 3 * M * 3 ^ K ≤ 243 ∧ 3 * M ≤ 243 := by
  have e : M * 3 ^ (K + 1) = 3 * M * 3 ^ K := by rw [Nat.pow_succ]; rw [Nat.mul_comm 3 M, Nat.mul_assoc, Nat.mul_comm (3 ^ K) 3]
  have hp : 0 < 3 ^ K := Nat.pow_pos (by decide)
  have h2 : 3 * M ≤ 3 * M * 3 ^ K := Nat.le_mul_of_pos_right _ hp
  omega
theorem pow_less {M K : Nat} (h : M * 3 ^ (K + 1) ≤ 243) : M * 3 ^ K ≤ 243 ∧ M ≤ 243 := by
  have hp : 0 < 3 ^ K := Nat.pow_pos (by decide)
  have h1 : M * 3 ^ K ≤ M * 3 ^ (K + 1) := Nat.mul_le_mul_left _ (Nat.pow_le_pow_right (by decide) (by omega))
  have h2 : M ≤ M * 3 ^ K := Nat.le_mul_of_pos_right _ hp
  omega
section
variable {S : Nat → Prop} {w w1 w2 : World}
theorem Mv.own (h : Mv S w w1) {r : Option Nat} (g : w1.grownBy w2 r) (hr : ∀ k, r = some k → w.heap.size ≤ k ∨ S k) : Mv S w w2 :=
  ⟨g.os.trans h.os, g.tape.trans h.tape, g.output.trans h.output, Nat.le_trans h.size g.size, fun i hi hn => (g.block i (Nat.lt_of_lt_of_le hi h.size) (fun e => by rcases hr i e.symm with h | h; omega; exact hn h)).trans (h.block i hi hn)⟩
theorem MBox.own1 {k : Nat} {r c : Int} {v : Value} {o : Option Nat} (h : MBox w k r c v) (g : w.grownBy w1 o) (hk : ∀ g, o = some g → g ≠ k) : MBox w1 k r c v := h.mv (Mv.by1 (S := fun i => o = some i) g fun _ e => e) (fun e => hk k e rfl)
theorem Cur.own1 {B b n cap : Nat} {A : Option Addr} {o : Option Nat} (c : Cur w B b A n cap) (g : w.grownBy w1 o) (hk : ∀ g, o = some g → g ≠ b ∧ B ≤ g) : Cur w1 B b A n cap := c.mv (Mv.by1 (S := fun i => o = some i) g fun _ e => e) (fun e => (hk b e).1 rfl) (fun g e => (hk g e).2)
end
/-- a matrix with numbers of a size -/
def DBnd (B b : Nat) (A : Option Addr) (n cap R M : Nat) (w : World) (e : Ending) (w' : World) : Prop := ∃ (V : Option Addr) (cv : Nat) (l : List Int), e = .returned (.agg #[.int .i64 R, .int .i64 R, .slice V (R * R) cv]) ∧ l.length = R * R ∧ bnd M l ∧ Own w' w.heap.size (.slice V (R * R) cv) l ∧ Cur w' B b A n cap ∧ w.grownBy w' (some b)
section
set_option maxHeartbeats 4000000
set_option maxRecDepth 10000
theorem l6Uni_c (B b : Nat) (A : Option Addr) (n cap R : Nat) (w : World) (hR : R ≤ 8) (h : Cur w B b A n cap) :
    Calls Tryz.prog 97 #[.pointer (some ⟨b, 0, none⟩), .int .i64 R] w (DBnd B b A n cap R 243 w) := by
  obtain ⟨w1, hw1⟩ : ∃ w1, w1 = w.alloc (.cells #[.int .i64 0, .int .i64 0, .slice none 0 0] 26) := ⟨_, rfl⟩
  have mb4 : MBox w1 w.heap.size 0 0 (.slice none 0 0) := by rw [hw1]; exact MBox.mk_ _ _ _ _ _
  have g01 : Grows w w1 := by rw [hw1]; exact bel0
  have hs1 : w1.heap.size = w.heap.size + 1 := by rw [hw1]; simp
  have hbl := h.lt
  have hlo := h.lo
  have h1 := h.grows g01
  have CI := Lib.hid (sIdent_c R w1 (by omega))
  have C6 := Lib.hid fun W h => l1Below_c B b A n cap 6 W (by omega) h
  have HW1 := Lib.hid hw1
  have HS1 := Lib.hid hs1
  clear hw1
  go_enter Tryz.func97, Tryz.ntmps97
  go_wp2_with fail
  rw [← HW1.out]
  refine CI.out.mono ?_; rintro e w2 ⟨v2, rfl, o2, g2⟩
  obtain ⟨V, cv, rfl, _, _⟩ := o2.val
  rw [idL_length] at o2 ⊢
  have hs2 := Below.size g2
  have hW2 : w.heap.size + 1 ≤ w2.heap.size := by omega
  obtain ⟨w3, hw3⟩ : ∃ w3, w3 = w2.alloc (.cells #[.int .i64 R, .int .i64 R, .slice V (R * R) cv] 26) := ⟨_, rfl⟩
  have mb5 : MBox w3 w2.heap.size R R (.slice V (R * R) cv) := by rw [hw3]; exact MBox.mk_ _ _ _ _ _
  have g13 : Grows w1 w3 := by rw [hw3]; exact bel1 g2
  have g23 : Grows w2 w3 := by rw [hw3]; exact bel0
  have hs3 : w3.heap.size = w2.heap.size + 1 := by rw [hw3]; simp
  have hW3 : w2.heap.size + 1 ≤ w3.heap.size := by omega
  have HW3 := Lib.hid hw3
  have hvl : ∀ g, (Value.slice V (R * R) cv).ownBlock = some g → w.heap.size + 1 ≤ g ∧ g < w2.heap.size := fun g e => by have := World.ownsRow.lt o2 g e; omega
  have HVL := Lib.hid hvl
  have o3 : Own w3 (w.heap.size + 1) (.slice V (R * R) cv) (idL R) := (o2.grows g23).less (by omega)
  clear hw3 hvl o2
  go_wp2_with fail
  rw [← HW3.out]
  refine (C6.out _ (h1.grows g13)).mono ?_; rintro e w4 ⟨k0, rfl, hk0, c4, g4⟩
  have hs4 := g4.size
  have mv4 : Mv (fun g => g = b) w w4 := Mv.left (Below.trans g01 (Below.mono g13 (by omega))) (Mv.by_ g4 rfl)
  have mb4a := (mb4.grows g13).by_ g4 (by omega)
  have mb5a := mb5.by_ g4 (by omega)
  have o4 := o3.by_ g4 (fun g e => by have := HVL.out g e; omega)
  have HS3 := Lib.hid hs3
  clear mb4 mb5 o3 g4 h1 hs1 hs3
  go_wp2_with fail
  go_loopw [7] (fun k wr => ∃ (K M : Nat) (l : List Int), k = .int .i64 K ∧ K ≤ 5 ∧ M * 3 ^ K ≤ 243 ∧ RowKit.Hid (bnd M l ∧ l.length = R * R) ∧ Own wr (w.heap.size + 1) (.slice V (R * R) cv) l ∧ MBox wr w2.heap.size R R (.slice V (R * R) cv) ∧ MBox wr w.heap.size 0 0 (.slice none 0 0) ∧ Cur wr B b A n cap ∧ Mv (fun g => g = b) w wr ∧ w4.heap.size ≤ wr.heap.size) (fun k _ => (intOf k).toNat)
  case atStart => exact ⟨k0, 1, idL R, rfl, by omega, by (have : 3 ^ k0 ≤ 3 ^ 5 := Nat.pow_le_pow_right (by decide) (by omega)); omega, Lib.hid ⟨bnd_idL R, idL_length R⟩, o4, mb5a, mb4a, c4, mv4, Nat.le_refl _⟩
  case round =>
    clear o4 mb5a mb4a c4 mv4 hk0
    obtain ⟨K, M, l, rfl, hK5, hMK, HL, o, mb5, mb4, c, mv, hsz⟩ := hrel
    obtain ⟨d0, d1, d2⟩ := mb5.cells
    have dl := mb5.lt
    obtain ⟨e0, e1, e2⟩ := mb4.cells
    have ef := mb4.fz
    have el := mb4.lt
    by_cases hK : K = 0
    · have hK' : ¬ (0 : Int) < (K : Int) := by omega
      have HB := Lib.hid (show bnd 243 l from HL.out.1.up (by rw [hK] at hMK; omega))
      have HLL := Lib.hid HL.out.2
      have hvb : ∀ g, (Value.slice V (R * R) cv).ownBlock = some g → g ≠ w.heap.size := fun g e => by have := HVL.out g e; omega
      clear hMK hK
      go_wp2_with fail
      refine bodyPost_ret (v := .agg #[.int .i64 R, .int .i64 R, .slice V (R * R) cv]) ?_ rfl ?_
      · simp [results, Tryz.results97, go_sem, d0, d1, d2, dl, e0, e1, e2, ef, el]
      · refine ⟨V, cv, l, rfl, HLL.out, HB.out, ?_, ?_, ?_⟩
        · refine Own.less (B := w.heap.size + 1) ?_ (by omega)
          ((repeat' (first | with_reducible exact o | with_reducible refine Own.far ?_ ?_ _)); all_goals (intro g hg; have := hvb g hg; (try simp only); omega))
        · ((repeat' (first | with_reducible exact c | with_reducible refine Cur.put_ ?_ ?_ ?_ _)); all_goals ((try simp only); omega))
        · refine Mv.by2 (S := fun g => g = b) ?_ (fun g _ e => e)
          ((repeat' (first | with_reducible exact mv | with_reducible refine Mv.put ?_ (.inl ?_) _)); all_goals ((try simp only); omega))
    · by_cases hR2 : R ≤ 1
      · have hR2' : ¬ (1 : Int) < (R : Int) := by omega
        have HB := Lib.hid (show bnd 243 l from HL.out.1.up (by obtain ⟨K', rfl⟩ : ∃ K', K = K' + 1 := ⟨K - 1, by omega⟩; exact (pow_less hMK).2))
        have HLL := Lib.hid HL.out.2
        have hvb : ∀ g, (Value.slice V (R * R) cv).ownBlock = some g → g ≠ w.heap.size := fun g e => by have := HVL.out g e; omega
        have hK' : (0 : Int) < (K : Int) := by omega
        clear hMK hK
        go_wp2_with fail
        refine bodyPost_ret (v := .agg #[.int .i64 R, .int .i64 R, .slice V (R * R) cv]) ?_ rfl ?_
        · simp [results, Tryz.results97, go_sem, d0, d1, d2, dl, e0, e1, e2, ef, el]
        · refine ⟨V, cv, l, rfl, HLL.out, HB.out, ?_, ?_, ?_⟩
          · refine Own.less (B := w.heap.size + 1) ?_ (by omega)
            ((repeat' (first | with_reducible exact o | with_reducible refine Own.far ?_ ?_ _)); all_goals (intro g hg; have := hvb g hg; (try simp only); omega))
          · ((repeat' (first | with_reducible exact c | with_reducible refine Cur.put_ ?_ ?_ ?_ _)); all_goals ((try simp only); omega))
          · refine Mv.by2 (S := fun g => g = b) ?_ (fun g _ e => e)
            ((repeat' (first | with_reducible exact mv | with_reducible refine Mv.put ?_ (.inl ?_) _)); all_goals ((try simp only); omega))
      · obtain ⟨K', rfl⟩ : ∃ K', K = K' + 1 := ⟨K - 1, by omega⟩
        have hstep := pow_step hMK
        have hless := pow_less hMK
        have hK' : (0 : Int) < ((K' + 1 : Nat) : Int) := by omega
        have hR3 : (1 : Int) < (R : Int) := by omega
        have CR := Lib.hid fun W h => l1Below_c B b A n cap R W (by omega) h
        have CR1 := fun W h => l1Below_c B b A n cap (R - 1) W (by omega) h
        have eR : ((R - 1 : Nat) : Int) = (R : Int) - 1 := by omega
        rw [eR] at CR1
        have CR1' := Lib.hid CR1
        have C3 := Lib.hid fun W h => l1Below_c B b A n cap 3 W (by omega) h
        have C5 := Lib.hid fun W h => l1Below_c B b A n cap 5 W (by omega) h
        have HST := Lib.hid hstep
        have HLS := Lib.hid hless
        clear CR1 eR hMK hstep hless hK
        go_wp2_with fail
        refine (CR.out _ c).mono ?_; rintro e w5 ⟨I, rfl, hI, c5, g5⟩
        go_wp2_with fail
        refine (C3.out _ c5).mono ?_; rintro e w6 ⟨kd, rfl, hkd, c6, g6⟩
        go_wp2_with fail
        refine (CR1'.out _ c6).mono ?_; rintro e w7 ⟨J0, rfl, hJ0, c7, g7⟩
        have hs1 := HS1.out
        have mv7 : Mv (fun g => g = b) w w7 := ((mv.trans (Mv.by_ g5 rfl)).trans (Mv.by_ g6 rfl)).trans (Mv.by_ g7 rfl)
        have mb5' := ((mb5.by_ g5 (by omega)).by_ g6 (by omega)).by_ g7 (by omega)
        have mb4' := ((mb4.by_ g5 (by omega)).by_ g6 (by omega)).by_ g7 (by omega)
        have hn1 : ∀ g, (Value.slice V (R * R) cv).ownBlock = some g → g ≠ b := fun g e => by have := HVL.out g e; omega
        have o7 := ((o.by_ g5 hn1).by_ g6 hn1).by_ g7 hn1
        have hs7 : wr.heap.size ≤ w7.heap.size := Nat.le_trans g5.size (Nat.le_trans g6.size g7.size)
        have hIR : I < R := by omega
        obtain ⟨J, hJ⟩ : ∃ J, J = (I + 1 + J0) % R := ⟨_, rfl⟩
        have hJR : J < R := by rw [hJ]; exact Nat.mod_lt _ (by omega)
        have hIJ : I ≠ J := by
          intro e
          rw [hJ] at e
          have h1 : J0 < R - 1 := by omega
          by_cases hw : I + 1 + J0 < R
          · rw [Nat.mod_eq_of_lt hw] at e; omega
          · rw [Nat.mod_eq_sub_mod (by omega), Nat.mod_eq_of_lt (by omega)] at e; omega
        have hmod : ((I : Int) + 1 + (J0 : Int)).tmod (R : Int) = (J : Int) := by
          rw [hJ, Int.tmod_eq_emod_of_nonneg (by omega), Int.natCast_emod]; congr 1
        have HIJ := Lib.hid hIJ
        have hJ4 : (J0 : Int) ≤ 8 := by omega
        have hI3 : (I : Int) ≤ 8 := by omega
        have hR0 : (R : Int) ≠ 0 := by omega
        have HVB := Lib.hid hn1
        clear hs1 mb5 mb4 o mv c d0 d1 d2 dl e0 e1 e2 ef el g5 g6 g7 hJ hIJ hn1 hI hJ0 c5 c6
        obtain ⟨d0, d1, d2⟩ := mb5'.cells
        have dl := mb5'.lt
        by_cases k0' : kd = 0
        · subst k0'
          have hgx : ∀ (u : Obj), Grows w7 (w7.alloc u) := fun u => by exact bel0
          have CW := Lib.hid fun W o => l5Swp_c R R V l (R * R) cv I J (w.heap.size + 1) W HL.out.2 rfl (by omega) (by omega) o hIR hJR HIJ.out
          go_wp2_with fail
          refine (CW.out _ (o7.grows (hgx _))).mono ?_; rintro e w8 ⟨rfl, o8, g8⟩
          have hv8 : ∀ g, (Value.slice V (R * R) cv).ownBlock = some g → w.heap.size + 1 ≤ g ∧ g < w2.heap.size := HVL.out
          have mb5a := (mb5'.alloc _).own1 g8 (fun g e => by have := hv8 g e; omega)
          have mb4a := (mb4'.alloc _).own1 g8 (fun g e => by have := hv8 g e; omega)
          have c8 := (c7.grows (hgx _)).own1 g8 (fun g e => by have := hv8 g e; omega)
          have mv8 := (mv7.right (hgx _)).own g8 (fun g e => .inl (by have := hv8 g e; omega))
          have hs8 := g8.size
          simp at hs8
          go_wp2_with fail
          go_round
          case rel => exact ⟨K', M, _, by go_num, by omega, HLS.out.1, Lib.hid ⟨bnd_swpT HL.out.2 hIR hJR HL.out.1, swpT_length _ _ _ _ _⟩, o8, mb5a, mb4a, c8, mv8, by omega⟩
          case measure => first | (simp [intOf]; done) | (simp [intOf]; omega)
        · by_cases k1 : kd = 1
          · subst k1
            obtain ⟨w8, hw8⟩ : ∃ w8, w8 = w7.alloc (.cells #[.int .i64 1, .int .i64 I, .int .i64 I, .int .i64 0] 118) := ⟨_, rfl⟩
            have g8 : Grows w7 w8 := by rw [hw8]; exact bel0
            have hs8 : w8.heap.size = w7.heap.size + 1 := by rw [hw8]; simp
            have HW8 := Lib.hid hw8
            have CW := Lib.hid fun W o => l5Neg_c R R V l (R * R) cv I (w.heap.size + 1) W HL.out.2 rfl (by omega) (by omega) o (mkd_of (HL.out.1.num (by have := HLS.out.2; omega))) hIR
            clear hw8
            go_wp2_with fail
            rw [← HW8.out]
            refine (CW.out _ (o7.grows g8)).mono ?_; rintro e w9 ⟨rfl, o9, g9⟩
            have hv8 : ∀ g, (Value.slice V (R * R) cv).ownBlock = some g → w.heap.size + 1 ≤ g ∧ g < w2.heap.size := HVL.out
            have mb5a := (mb5'.grows g8).own1 g9 (fun g e => by have := hv8 g e; omega)
            have mb4a := (mb4'.grows g8).own1 g9 (fun g e => by have := hv8 g e; omega)
            have c9 := (c7.grows g8).own1 g9 (fun g e => by have := hv8 g e; omega)
            have mv9 := (mv7.right g8).own g9 (fun g e => .inl (by have := hv8 g e; omega))
            have hs9 := g9.size
            go_wp2_with fail
            go_round
            case rel => exact ⟨K', M, _, by go_num, by omega, HLS.out.1, Lib.hid ⟨bnd_negT HL.out.2 hIR HL.out.1 (by have := HLS.out.2; omega), negT_length _ _ _ _⟩, o9, mb5a, mb4a, c9, mv9, by omega⟩
            case measure => first | (simp [intOf]; done) | (simp [intOf]; omega)
          · obtain rfl : kd = 2 := by omega
            obtain ⟨w8, hw8⟩ : ∃ w8, w8 = w7.alloc (.cells #[.int .i64 2, .int .i64 I, .int .i64 J, .int .i64 0] 118) := ⟨_, rfl⟩
            have g8 : Grows w7 w8 := by rw [hw8]; exact bel0
            have ob8 : OBox w8 w7.heap.size 2 I J 0 := by rw [hw8]; exact OBox.new_ _ _ _ _ _ _ rfl
            have fz8 : ∀ o, w8.frozen? ⟨w7.heap.size, o, none⟩ = false := by rw [hw8]; intro o; simp [go_sem]
            have hs8 : w8.heap.size = w7.heap.size + 1 := by rw [hw8]; simp
            have HW8 := Lib.hid hw8
            clear hw8
            have hb7 : w7.heap.size ≠ b := by omega
            go_wp2_with fail
            rw [← HW8.out]
            refine (C5.out _ (c7.grows g8)).mono ?_; rintro e w9 ⟨q, rfl, hq, c9, g9⟩
            have hk9 := g9.block w7.heap.size (by omega) (by intro e; cases e; exact hb7 rfl)
            have ob9 : OBox w9 w7.heap.size 2 I J 0 := ⟨Nat.lt_of_lt_of_le ob8.lt g9.size, (World.cell?_of_block hk9).trans ob8.c0, (World.cell?_of_block hk9).trans ob8.c1, (World.cell?_of_block hk9).trans ob8.c2, (World.cell?_of_block hk9).trans ob8.c3⟩
            have fz9 : ∀ o, w9.frozen? ⟨w7.heap.size, o, none⟩ = false := fun o => (World.frozen?_of_block hk9).trans (fz8 o)
            have mb5a := (mb5'.grows g8).by_ g9 (by omega)
            have mb4a := (mb4'.grows g8).by_ g9 (by omega)
            have o9 := (o7.grows g8).by_ g9 HVB.out
            have mv9 := (mv7.right g8).trans (Mv.by_ g9 rfl)
            have hs9 := g9.size
            clear d0 d1 d2 dl
            obtain ⟨d0, d1, d2⟩ := mb5a.cells
            have dl := mb5a.lt
            obtain ⟨x0, x1, x2, x3⟩ := ob9.cells
            have xl := ob9.lt
            have hq5 : (q : Int) < 5 := by omega
            have hgx : ∀ (u : Value), Mv (fun g => g = w7.heap.size) w9 (w9.setCell ⟨w7.heap.size, 3, none⟩ u) := fun u => (Mv.refl (S := fun g => g = w7.heap.size) w9).put (p := ⟨w7.heap.size, 3, none⟩) (.inr rfl) u
            have CW := Lib.hid fun W o => l5Add_c R R V l (R * R) cv I J (w.heap.size + 1) ((q : Int) - 2) W HL.out.2 rfl (by omega) (by omega) o (mkd_of (HL.out.1.num (by have := HLS.out.2; omega))) hIR hJR (by rw [isNum_iff]; omega)
            have hv8 : ∀ g, (Value.slice V (R * R) cv).ownBlock = some g → w.heap.size + 1 ≤ g ∧ g < w2.heap.size := HVL.out
            go_wp2_with fail
            refine (CW.out _ (o9.mv (hgx _) (fun g e => by have := hv8 g e; omega))).mono ?_; rintro e wa ⟨rfl, oa, ga⟩
            have mb5b := (mb5a.mv (hgx _) (by omega)).own1 ga (fun g e => by have := hv8 g e; omega)
            have mb4b := (mb4a.mv (hgx _) (by omega)).own1 ga (fun g e => by have := hv8 g e; omega)
            have ca := (c9.mv (hgx _) (by omega) (fun g e => by omega)).own1 ga (fun g e => by have := hv8 g e; omega)
            have mva := (mv9.put (p := ⟨w7.heap.size, 3, none⟩) (.inl (by simp only; omega)) _).own ga (fun g e => .inl (by have := hv8 g e; omega))
            have hsa := ga.size
            simp at hsa
            go_wp2_with fail
            go_round
            case rel => exact ⟨K', 3 * M, _, by go_num, by omega, HST.out.1, Lib.hid ⟨bnd_addT HL.out.2 hIR hJR HL.out.1 (by have := HLS.out.2; omega) (by omega), addT_length _ _ _ _ _ _⟩, oa, mb5b, mb4b, ca, mva, by omega⟩
            case measure => first | (simp [intOf]; done) | (simp [intOf]; omega)
end
end Go.Proofs.YtbfkpfdkndnhkaaGreat

/- The draws: a form. -/
namespace Go.Proofs.YtbfkpfdkndnhkaaGreat
set_option linter.unusedSimpArgs false
set_option linter.unusedVariables false
open Go.RowKit

theorem trL_len (R C : Nat) (l : List Int) : (trL R C l).length = C * R := tab_length _ _ _
theorem bnd_trL {R C M : Nat} {l : List Int} (hl : l.length = R * C) (h : bnd M l) : bnd M (trL R C l) := bnd_tab fun a b ha hb => h.cell hl hb ha
theorem mul_abs {x y : Int} {M N : Nat} (hx : -(M : Int) ≤ x ∧ x ≤ M) (hy : -(N : Int) ≤ y ∧ y ≤ N) : -((M * N : Nat) : Int) ≤ x * y ∧ x * y ≤ ((M * N : Nat) : Int) := by
  have h : (x * y).natAbs ≤ M * N := by rw [Int.natAbs_mul]; exact Nat.mul_le_mul (by omega) (by omega)
  omega
theorem dotTo_bnd {R K C i j M N : Nat} {a b : List Int} (ha : a.length = R * K) (hb : b.length = K * C) (h1 : bnd M a) (h2 : bnd N b) (hi : i < R) (hj : j < C) (k : Nat) (hk : k ≤ K) : -((k * (M * N) : Nat) : Int) ≤ dotTo a b K C i j k ∧ dotTo a b K C i j k ≤ ((k * (M * N) : Nat) : Int) := by
  induction k with
  | zero => simp [dotTo]
  | succ k ih =>
    have h3 := ih (by omega)
    have h4 := mul_abs (h1.cell ha hi (show k < K by omega)) (h2.cell hb (show k < K by omega) hj)
    rw [dotTo, Nat.add_mul, Nat.one_mul]
    omega
theorem bnd_mulL {R K C M N : Nat} {a b : List Int} (ha : a.length = R * K) (hb : b.length = K * C) (h1 : bnd M a) (h2 : bnd N b) : bnd (K * (M * N)) (mulL R K C a b) := bnd_tab fun i j hi hj => dotTo_bnd ha hb h1 h2 hi hj K (Nat.le_refl _)
theorem bnd_set {M i : Nat} {x : Int} {l : List Int} (h : bnd M l) (hx : -(M : Int) ≤ x ∧ x ≤ M) : bnd M (l.set i x) := fun k hk => by
  rw [List.length_set] at hk
  have h2 := h k hk
  unfold nth at *
  rw [List.getD_eq_getElem?_getD] at *
  by_cases e : i = k
  · subst e
    rw [List.getElem?_set_self hk]; exact hx
  · rw [List.getElem?_set_ne e]; exact h2
section
set_option maxHeartbeats 4000000
set_option maxRecDepth 10000
theorem l18Basis_c (B b : Nat) (A : Option Addr) (n cap R : Nat) (w : World) (hR : R ≤ 3) (hR1 : 1 ≤ R) (h : Cur w B b A n cap) :
    Calls Tryz.prog 71 #[.pointer (some ⟨b, 0, none⟩), .int .i64 R] w (DBnd B b A n cap R 200000 w) := by
  obtain ⟨w1, hw1⟩ : ∃ w1, w1 = w.alloc (.cells #[.int .i64 0, .int .i64 0, .slice none 0 0] 26) := ⟨_, rfl⟩
  have mb4 : MBox w1 w.heap.size 0 0 (.slice none 0 0) := by rw [hw1]; exact MBox.mk_ _ _ _ _ _
  have g01 : Grows w w1 := by rw [hw1]; exact bel0
  have hs1 : w1.heap.size = w.heap.size + 1 := by rw [hw1]; simp
  have hbl := h.lt
  have hlo := h.lo
  have h1 := h.grows g01
  have CU := Lib.hid fun W h => l6Uni_c B b A n cap R W (by omega) h
  have C3 := Lib.hid fun W h => l1Below_c B b A n cap 3 W (by omega) h
  have HW1 := Lib.hid hw1
  clear hw1
  go_enter Tryz.func71, Tryz.ntmps71
  go_wp2_with fail
  rw [← HW1.out]
  refine (CU.out _ h1).mono ?_; rintro e w2 ⟨V1, cv1, l1, rfl, hl1, hb1, o2, c2, g2⟩
  go_wp2_with fail
  refine (CU.out _ c2).mono ?_; rintro e w3 ⟨V2, cv2, l2, rfl, hl2, hb2, o3, c3, g3⟩
  have hs2 := g2.size
  have hs3 := g3.size
  have o2' := o2.by_ g3 (fun g e => by have := (World.ownsRow.lt o2 g e).1; omega)
  have CT := Lib.hid (l3Turn_c R R V2 l2 (R * R) cv2 w3 hl2 o3.rd' hl2 (by omega) (by omega))
  have HB1 := Lib.hid hb1
  have HL1 := Lib.hid hl1
  have HB2 := Lib.hid (bnd_trL hl2 hb2)
  go_wp2_with fail
  refine CT.out.mono ?_; rintro e w4 ⟨v4, rfl, o4, g4⟩
  obtain ⟨V4, cv4, rfl, _, _⟩ := o4.val
  have hl4 : (trL R R l2).length = R * R := trL_len R R l2
  rw [trL_len] at o4 ⊢
  have m1 : isMat R R l1 = true := by rw [isMat_made (by omega) (by omega) hl1]; exact hb1.num (by omega)
  have m2 : isMat R R (trL R R l2) = true := by rw [isMat_made (by omega) (by omega) hl4]; exact HB2.out.num (by omega)
  have CM := Lib.hid (l3Mul_c R R R V1 V4 l1 (trL R R l2) (R * R) (R * R) cv1 cv4 w4 hl1 hl4 ((o2'.grows g4).rd') o4.rd' m1 m2)
  have HBM := Lib.hid (show bnd 177147 (mulL R R R l1 (trL R R l2)) from (bnd_mulL hl1 hl4 hb1 HB2.out).up (by have : R * (243 * 243) ≤ 3 * (243 * 243) := Nat.mul_le_mul_right _ hR; omega))
  have hs4 := Below.size g4
  clear hl1 hb1 hl2 hb2 hl4 m1 m2 o2 o2' o3 o4
  go_wp2_with fail
  refine CM.out.mono ?_; rintro e w5 ⟨v5, rfl, o5, g5⟩
  obtain ⟨V, cv, rfl, _, _⟩ := o5.val
  rw [mulL_length] at o5 ⊢
  have hs5 := Below.size g5
  obtain ⟨gv, cv', e, hgv1, hgv2⟩ := o5.form (by rw [mulL_length]; exact Nat.mul_pos hR1 hR1)
  rw [mulL_length] at e
  simp only [Value.slice.injEq, true_and] at e
  obtain ⟨rfl, rfl⟩ := e
  obtain ⟨w6, hw6⟩ : ∃ w6, w6 = w5.alloc (.cells #[.int .i64 R, .int .i64 R, .slice (some ⟨gv, 0, none⟩) (R * R) cv] 26) := ⟨_, rfl⟩
  have mb5 : MBox w6 w5.heap.size R R (.slice (some ⟨gv, 0, none⟩) (R * R) cv) := by rw [hw6]; exact MBox.mk_ _ _ _ _ _
  have g36 : Grows w3 w6 := by rw [hw6]; exact bel2 g5 g4
  have g56 : Grows w5 w6 := by rw [hw6]; exact bel0
  have HW6 := Lib.hid hw6
  have o6 := (o5.grows g56).less (show w.heap.size + 1 ≤ _ by omega)
  have c6 := c3.grows g36
  have mv6 : Mv (fun g => g = b) w w6 := (((Mv.left g01 (Mv.by_ (S := fun g => g = b) g2 rfl)).trans (Mv.by_ (S := fun g => g = b) g3 rfl))).right g36
  have mb4a := ((mb4.by_ g2 (by omega)).by_ g3 (by omega)).grows g36
  have HLM := Lib.hid (mulL_length R R R l1 (trL R R l2))
  have hgw : w.heap.size + 1 ≤ gv := by omega
  have hvb : ∀ g, (Value.slice (some ⟨gv, 0, none⟩) (R * R) cv).ownBlock = some g → g = gv := fun g e => (Option.some.inj e).symm
  have HVB := Lib.hid hvb
  clear hvb
  have hs6 := Below.size g56
  generalize mulL R R R l1 (trL R R l2) = l0 at *
  clear hw6 c2 c3 g2 g3 g4 g5 g36 g56 mb4 o5 h1 CU CT CM hs1
  go_wp2_with fail
  rw [← HW6.out]
  go_loopw [6] (fun i wr => ∃ (I : Nat) (l : List Int), i = .int .i64 I ∧ I ≤ R ∧ RowKit.Hid (bnd (177147 + 2 * I) l ∧ l.length = R * R) ∧ Own wr (w.heap.size + 1) (.slice (some ⟨gv, 0, none⟩) (R * R) cv) l ∧ MBox wr w5.heap.size R R (.slice (some ⟨gv, 0, none⟩) (R * R) cv) ∧ MBox wr w.heap.size 0 0 (.slice none 0 0) ∧ Cur wr B b A n cap ∧ Mv (fun g => g = b) w wr ∧ w6.heap.size ≤ wr.heap.size) (fun i _ => R - (intOf i).toNat)
  case atStart => exact ⟨0, l0, rfl, Nat.zero_le _, Lib.hid ⟨HBM.out, HLM.out⟩, o6, mb5, mb4a, c6, mv6, Nat.le_refl _⟩
  case round =>
    clear o6 mb5 mb4a c6 mv6
    obtain ⟨I, l, rfl, hI, HL, o, mb5, mb4, c, mv, hsz⟩ := hrel
    by_cases hlt : I < R
    · have hlt' : (I : Int) < (R : Int) := by omega
      have hidx : I * R + I < R * R := idx_lt hlt hlt
      have hx := HL.out.1.cell HL.out.2 hlt hlt
      have hcl := o.cell (I * R + I) (by rw [HL.out.2]; exact hidx)
      obtain ⟨x, hxe⟩ : ∃ x, x = nth l (I * R + I) := ⟨_, rfl⟩
      rw [← hxe] at hx hcl
      have HXE := Lib.hid hxe
      clear hxe
      have i1 := castMul I R
      have i2 : (I : Int) * (R : Int) ≤ ((1048576 : Nat) : Int) := castMulLe (by have := Nat.mul_le_mul (Nat.le_of_lt hlt) hR; omega)
      have i3 := castPos I R I
      have i4 : (I : Int) * (R : Int) + (I : Int) < ((R * R : Nat) : Int) := castLt hidx
      have i4' : (I : Int) * (R : Int) + (I : Int) < (R : Int) * (R : Int) := by rw [← Int.natCast_mul R R]; exact i4
      have q1 : ((I : Int) * (R : Int) + (I : Int)).toNat = I * R + I := castIdx I R I
      have k1 : IntKind.i64.wrap ((I : Int) * (R : Int)) = (I : Int) * (R : Int) := IntWalk.i64_in _ (by omega)
      have k2 : IntKind.i64.wrap ((I : Int) * (R : Int) + (I : Int)) = (I : Int) * (R : Int) + (I : Int) := IntWalk.i64_in _ (by omega)
      have hgs := o.lt
      go_wp2_with fail
      (refine wp_region_held_last 20 (fun W => W.cell? ⟨w5.heap.size, 2, none⟩ = some (.slice (some ⟨gv, 0, none⟩) (R * R) cv) ∧ W.cell? ⟨gv, I * R + I, none⟩ = some (.int .i64 x)) (by rfl) (by kernel_rfl) (by kernel_rfl) (by ((try dsimp only); (first | exact ⟨mb6.c2, hcl6⟩ | exact ⟨(mb5.grows (by exact bel0)).c2, ((show Grows wr wr.drew by exact bel0).cell (p := ⟨gv, I * R + I, none⟩) hgs.2).trans hcl⟩))) (fun hHeld => ?_); simp only [List.take_succ_cons, List.take_zero]; refine heldL_take (i := 0) (v := _) (by rfl) (by kernel_rfl) (by kernel_rfl) (by kernel_rfl) (fun _ _ _ h => h) (Or.inl ⟨by rfl, fun wS hSw => by ((try dsimp only at hSw); go_simp; (try with_reducible rfl))⟩) (by assumption) ?_; simp only [Act.put, List.setIfInBounds_toArray, List.set_cons_zero, List.set_cons_succ]; refine heldL_take (i := 1) (v := _) (by rfl) (by kernel_rfl) (by kernel_rfl) (by kernel_rfl) (fun _ _ _ h => h) (Or.inl ⟨by rfl, fun wS hSw => by ((try dsimp only at hSw); go_simp; (try with_reducible rfl))⟩) (by assumption) ?_; simp only [Act.put, List.setIfInBounds_toArray, List.set_cons_zero, List.set_cons_succ]; refine heldL_take (i := 2) (v := _) (by rfl) (by kernel_rfl) (by kernel_rfl) (by kernel_rfl) (fun _ _ _ h => h) (Or.inl ⟨by rfl, fun wS hSw => by ((try dsimp only at hSw); go_simp; (try with_reducible rfl))⟩) (by assumption) ?_; simp only [Act.put, List.setIfInBounds_toArray, List.set_cons_zero, List.set_cons_succ]; refine heldL_take (i := 3) (v := _) (by rfl) (by kernel_rfl) (by kernel_rfl) (by kernel_rfl) (fun _ _ _ h => h) (Or.inl ⟨by rfl, fun wS hSw => by ((try dsimp only at hSw); go_simp; (try with_reducible rfl))⟩) (by assumption) ?_; simp only [Act.put, List.setIfInBounds_toArray, List.set_cons_zero, List.set_cons_succ]; refine heldL_take (i := 4) (v := _) (by rfl) (by kernel_rfl) (by kernel_rfl) (by kernel_rfl) (fun _ _ _ h => h) (Or.inl ⟨by rfl, fun wS hSw => by ((try dsimp only at hSw); go_simp; (try with_reducible rfl))⟩) (by assumption) ?_; simp only [Act.put, List.setIfInBounds_toArray, List.set_cons_zero, List.set_cons_succ]; refine heldL_take (i := 5) (v := _) (by rfl) (by kernel_rfl) (by kernel_rfl) (by kernel_rfl) (fun _ _ _ h => h) (Or.inl ⟨by rfl, fun wS hSw => by ((try dsimp only at hSw); go_simp; (try with_reducible rfl))⟩) (by assumption) ?_; simp only [Act.put, List.setIfInBounds_toArray, List.set_cons_zero, List.set_cons_succ]; refine heldL_take (i := 6) (v := _) (by rfl) (by kernel_rfl) (by kernel_rfl) (by kernel_rfl) (fun _ _ _ h => h) (Or.inl ⟨by rfl, fun wS hSw => by ((try dsimp only at hSw); go_simp; (try with_reducible rfl))⟩) (by assumption) ?_; simp only [Act.put, List.setIfInBounds_toArray, List.set_cons_zero, List.set_cons_succ]; refine heldL_take (i := 7) (v := _) (by rfl) (by kernel_rfl) (by kernel_rfl) (by kernel_rfl) (fun _ _ _ h => h) (Or.inl ⟨by rfl, fun wS hSw => by ((try dsimp only at hSw); go_simp; (try with_reducible rfl))⟩) (by assumption) ?_; simp only [Act.put, List.setIfInBounds_toArray, List.set_cons_zero, List.set_cons_succ]; refine heldL_take (i := 8) (v := _) (by rfl) (by kernel_rfl) (by kernel_rfl) (by kernel_rfl) (fun _ _ _ h => h) (Or.inl ⟨by rfl, fun wS hSw => by ((try dsimp only at hSw); go_simp; (try with_reducible rfl))⟩) (by assumption) ?_; simp only [Act.put, List.setIfInBounds_toArray, List.set_cons_zero, List.set_cons_succ]; refine heldL_take (i := 9) (v := _) (by rfl) (by kernel_rfl) (by kernel_rfl) (by kernel_rfl) (fun _ _ _ h => h) (Or.inl ⟨by rfl, fun wS hSw => by ((try dsimp only at hSw); go_simp; (try with_reducible rfl))⟩) (by assumption) ?_; simp only [Act.put, List.setIfInBounds_toArray, List.set_cons_zero, List.set_cons_succ]; refine heldL_take (i := 10) (v := _) (by rfl) (by kernel_rfl) (by kernel_rfl) (by kernel_rfl) (fun _ _ _ h => h) (Or.inl ⟨by rfl, fun wS hSw => by ((try dsimp only at hSw); go_simp; (try with_reducible rfl))⟩) (by assumption) ?_; simp only [Act.put, List.setIfInBounds_toArray, List.set_cons_zero, List.set_cons_succ]; refine heldL_take (i := 11) (v := _) (by rfl) (by kernel_rfl) (by kernel_rfl) (by kernel_rfl) (fun _ _ _ h => h) (Or.inl ⟨by rfl, fun wS hSw => by ((try dsimp only at hSw); go_simp; (try with_reducible rfl))⟩) (by assumption) ?_; simp only [Act.put, List.setIfInBounds_toArray, List.set_cons_zero, List.set_cons_succ]; refine heldL_take (i := 12) (v := _) (by rfl) (by kernel_rfl) (by kernel_rfl) (by kernel_rfl) (fun _ _ _ h => h) (Or.inl ⟨by rfl, fun wS hSw => by ((try dsimp only at hSw); go_simp; (try with_reducible rfl))⟩) (by assumption) ?_; simp only [Act.put, List.setIfInBounds_toArray, List.set_cons_zero, List.set_cons_succ]; refine heldL_take (i := 13) (v := _) (by rfl) (by kernel_rfl) (by kernel_rfl) (by kernel_rfl) (fun _ _ _ h => h) (Or.inl ⟨by rfl, fun wS hSw => by ((try dsimp only at hSw); go_simp; (try with_reducible rfl))⟩) (by assumption) ?_; simp only [Act.put, List.setIfInBounds_toArray, List.set_cons_zero, List.set_cons_succ]; refine heldL_take (i := 14) (v := _) (by rfl) (by kernel_rfl) (by kernel_rfl) (by kernel_rfl) (fun _ _ _ h => h) (Or.inl ⟨by rfl, fun wS hSw => by ((try dsimp only at hSw); go_simp; (try with_reducible rfl))⟩) (by assumption) ?_; simp only [Act.put, List.setIfInBounds_toArray, List.set_cons_zero, List.set_cons_succ]; refine heldL_take (i := 15) (v := _) (by rfl) (by kernel_rfl) (by kernel_rfl) (by kernel_rfl) (fun _ _ _ h => h) (Or.inl ⟨by rfl, fun wS hSw => by ((try dsimp only at hSw); go_simp; (try with_reducible rfl))⟩) (by assumption) ?_; simp only [Act.put, List.setIfInBounds_toArray, List.set_cons_zero, List.set_cons_succ]; refine heldL_take (i := 16) (v := _) (by rfl) (by kernel_rfl) (by kernel_rfl) (by kernel_rfl) (fun _ _ _ h => h) (Or.inl ⟨by rfl, fun wS hSw => by ((try dsimp only at hSw); go_simp; (try with_reducible rfl))⟩) (by assumption) ?_; simp only [Act.put, List.setIfInBounds_toArray, List.set_cons_zero, List.set_cons_succ]; refine heldL_step (i := 17) (by kernel_rfl) (by rfl) (fun K hK => ?_); go_simp; (refine (C3.out _ (c.grows (by exact bel0))).mono ?_; rintro e w7 ⟨y, rfl, hy, c7, g7⟩; have mb6 := (mb5.grows (w' := wr.drew) (by exact bel0)).by_ g7 (by omega); have o7 := (o.grows (w' := wr.drew) (by exact bel0)).by_ g7 (fun g e => by have := HVB.out g e; omega); have hcl6 := o7.cell (I * R + I) (by rw [HL.out.2]; exact hidx); rw [← HXE.out] at hcl6; have hfr := o7.free (I * R + I); have hy3 : (y : Int) ≤ 2 := (by omega); have k5 : IntKind.i64.wrap (x + (y : Int)) = x + (y : Int) := IntWalk.i64_in _ (by omega)) ; (try (go_wp2_with fail)); refine hK.out _ _ (by ((try dsimp only); (first | exact ⟨mb6.c2, hcl6⟩ | exact ⟨(mb5.grows (by exact bel0)).c2, ((show Grows wr wr.drew by exact bel0).cell (p := ⟨gv, I * R + I, none⟩) hgs.2).trans hcl⟩))) (fun hHeld => ?_); clear hK K; (try simp only [Act.put, List.setIfInBounds_toArray, List.set_cons_zero, List.set_cons_succ]); refine heldL_take (i := 18) (v := _) (by rfl) (by kernel_rfl) (by kernel_rfl) (by kernel_rfl) (fun _ _ _ h => h) (Or.inl ⟨by rfl, fun wS hSw => by ((try dsimp only at hSw); go_simp; (try with_reducible rfl))⟩) (by assumption) ?_; simp only [Act.put, List.setIfInBounds_toArray, List.set_cons_zero, List.set_cons_succ]; refine heldL_take (i := 19) (v := _) (by rfl) (by kernel_rfl) (by kernel_rfl) (by kernel_rfl) (fun _ _ _ h => h) (Or.inl ⟨by rfl, fun wS hSw => by ((try dsimp only at hSw); go_simp; (try with_reducible rfl))⟩) (by assumption) ?_; simp only [Act.put, List.setIfInBounds_toArray, List.set_cons_zero, List.set_cons_succ]; refine wpAnyH_done (by kernel_rfl) ?_ _; refine lastQ_go ?_)
      have hs7 := g7.size
      have ed : wr.drew.heap.size = wr.heap.size := rfl
      have hst := o7.put HL.out.2 (I * R + I) (x + (y : Int))
      have mvs : Mv (fun g => g = b) w (w7.setCell ⟨gv, I * R + I, none⟩ (.int .i64 (x + (y : Int)))) := ((mv.right (show Grows wr wr.drew by exact bel0)).trans (Mv.by_ (S := fun g => g = b) g7 rfl)).put (.inl (by simp only; omega)) _
      have mgv : ∀ u, Mv (fun g => g = gv) w7 (w7.setCell ⟨gv, I * R + I, none⟩ u) := fun u => (Mv.refl (S := fun g => g = gv) w7).put (p := ⟨gv, I * R + I, none⟩) (.inr rfl) u
      have mb7 := mb6.mv (mgv (.int .i64 (x + (y : Int)))) (by omega)
      have mb8 := ((mb4.grows (w' := wr.drew) (by exact bel0)).by_ g7 (by omega)).mv (mgv (.int .i64 (x + (y : Int)))) (by omega)
      have c8 := c7.mv (mgv (.int .i64 (x + (y : Int)))) (by omega) (fun g e => by omega)
      go_wp2_with fail
      go_round
      case rel => exact ⟨I + 1, _, by go_num, by omega, Lib.hid ⟨bnd_set (HL.out.1.up (by omega)) (by omega), by rw [List.length_set]; exact HL.out.2⟩, hst, mb7, mb8, c8, mvs, by simp; omega⟩
      case measure => first | (simp [intOf]; done) | (simp [intOf]; omega)
    · have hlt' : ¬ (I : Int) < (R : Int) := by omega
      obtain ⟨d0, d1, d2⟩ := mb5.cells
      have dl := mb5.lt
      obtain ⟨e0, e1, e2⟩ := mb4.cells
      have ef := mb4.fz
      have el := mb4.lt
      have HB := Lib.hid (show bnd 200000 l from HL.out.1.up (by omega))
      have HLL := Lib.hid HL.out.2
      go_wp2_with fail
      refine bodyPost_ret (v := .agg #[.int .i64 R, .int .i64 R, .slice (some ⟨gv, 0, none⟩) (R * R) cv]) ?_ rfl ?_
      · simp [results, Tryz.results71, go_sem, d0, d1, d2, dl, e0, e1, e2, ef, el]
      · refine ⟨_, cv, l, rfl, HLL.out, HB.out, ?_, ?_, ?_⟩
        · refine Own.less (B := w.heap.size + 1) ?_ (by omega)
          ((repeat' (first | with_reducible exact o | with_reducible refine Own.far ?_ ?_ _)); all_goals (intro g hg; have := HVB.out g hg; (try simp only); omega))
        · ((repeat' (first | with_reducible exact c | with_reducible refine Cur.put_ ?_ ?_ ?_ _)); all_goals ((try simp only); omega))
        · refine Mv.by2 (S := fun g => g = b) ?_ (fun g _ e => e)
          ((repeat' (first | with_reducible exact mv | with_reducible refine Mv.put ?_ (.inl ?_) _)); all_goals ((try simp only); omega))
end
end Go.Proofs.YtbfkpfdkndnhkaaGreat

/- The draws: a form that is mostly definite. -/
namespace Go.Proofs.YtbfkpfdkndnhkaaGreat
set_option linter.unusedSimpArgs false
set_option linter.unusedVariables false
open Go.RowKit

/-- what changes in blocks that are new does not count -/
theorem Mv.over {S S2 : Nat → Prop} {w w1 w2 : World} (h : Mv S w w1) (k : Mv S2 w1 w2) (hS : ∀ g, S2 g → w.heap.size ≤ g ∨ S g) : Mv S w w2 :=
  ⟨k.os.trans h.os, k.tape.trans h.tape, k.output.trans h.output, Nat.le_trans h.size k.size, fun i hi hn => (k.block i (Nat.lt_of_lt_of_le hi h.size) (fun e => by rcases hS i e with h | h; omega; exact hn h)).trans (h.block i hi hn)⟩
/-- what a draw of a matrix from a cursor gives -/
def DMatG (B b : Nat) (A : Option Addr) (n cap m : Nat) (w : World) (e : Ending) (w' : World) : Prop := ∃ (r c : Int) (V : Option Addr) (cv : Nat) (l : List Int), e = .returned (.agg #[.int .i64 r, .int .i64 c, .slice V l.length cv]) ∧ (-1 ≤ r ∧ r ≤ 8) ∧ l.length ≤ m ∧ Own w' w.heap.size (.slice V l.length cv) l ∧ Cur w' B b A n cap ∧ w.grownBy w' (some b)
section
set_option maxHeartbeats 4000000
set_option maxRecDepth 10000
theorem l18Gram_c (B b : Nat) (A : Option Addr) (n cap : Nat) (w : World) (h : Cur w B b A n cap) :
    Calls Tryz.prog 33 #[.pointer (some ⟨b, 0, none⟩)] w (DMatG B b A n cap 10 w) := by
  obtain ⟨w1, hw1⟩ : ∃ w1, w1 = w.alloc (.cells #[.int .i64 0, .int .i64 0, .slice none 0 0] 26) := ⟨_, rfl⟩
  have mbr : MBox w1 w.heap.size 0 0 (.slice none 0 0) := by rw [hw1]; exact MBox.mk_ _ _ _ _ _
  have g01 : Grows w w1 := by rw [hw1]; exact bel0
  have hs1 : w1.heap.size = w.heap.size + 1 := by rw [hw1]; simp
  have hbl := h.lt
  have hlo := h.lo
  have h1 := h.grows g01
  have C3 := Lib.hid fun W h => l1Below_c B b A n cap 3 W (by omega) h
  have C9 := Lib.hid fun W h => l1Below_c B b A n cap 9 W (by omega) h
  have CO3 := Lib.hid fun W h => l1Once_c B b A n cap 3 W (by omega) h
  have CO20 := Lib.hid fun W h => l1Once_c B b A n cap 20 W (by omega) h
  have CBS := Lib.hid fun R W h1 h2 h => l18Basis_c B b A n cap R W h1 h2 h
  have HW1 := Lib.hid hw1
  clear hw1
  go_enter Tryz.func33, Tryz.ntmps33
  go_wp2_with fail
  rw [← HW1.out]
  refine (C3.out _ h1).mono ?_; rintro e w2 ⟨x0, rfl, hx0, c2, g2⟩
  obtain ⟨R, hR⟩ : ∃ R : Nat, 1 + (x0 : Int) = (R : Int) := ⟨1 + x0, by omega⟩
  have HRx := Lib.hid hR
  have hR3 : R ≤ 3 := by omega
  have hR1 : 1 ≤ R := by omega
  have hx3 : (x0 : Int) ≤ 2 := by omega
  clear hR hx0
  go_wp2_with fail
  rw [HRx.out]
  refine (CBS.out R _ hR3 hR1 c2).mono ?_; rintro e w3 ⟨V3, cv3, l3, rfl, hl3, hb3, o3, c3, g3⟩
  have hs2 := g2.size
  have hs3 := g3.size
  obtain ⟨w4, hw4⟩ : ∃ w4, w4 = w3.alloc (.cells #[.int .i64 R, .int .i64 R, .slice V3 (R * R) cv3] 26) := ⟨_, rfl⟩
  have mbb : MBox w4 w3.heap.size R R (.slice V3 (R * R) cv3) := by rw [hw4]; exact MBox.mk_ _ _ _ _ _
  have g34 : Grows w3 w4 := by rw [hw4]; exact bel0
  have HW4 := Lib.hid hw4
  have o4 := o3.grows g34
  have c4 := c3.grows g34
  have mbr4 := ((mbr.by_ g2 (by omega)).by_ g3 (by omega)).grows g34
  have mv4 : Mv (fun g => g = b) w w4 := ((Mv.left g01 (Mv.by_ (S := fun g => g = b) g2 rfl)).trans (Mv.by_ (S := fun g => g = b) g3 rfl)).right g34
  have hs4 := Below.size g34
  have CT := Lib.hid fun W hr => l3Turn_c R R V3 l3 (R * R) cv3 W hl3 hr hl3 (by omega) (by omega)
  have hl4 : (trL R R l3).length = R * R := trL_len R R l3
  have m1 : isMat R R l3 = true := by rw [isMat_made (by omega) (by omega) hl3]; exact hb3.num (by omega)
  have m2 : isMat R R (trL R R l3) = true := by rw [isMat_made (by omega) (by omega) hl4]; exact (bnd_trL hl3 hb3).num (by omega)
  have CM := Lib.hid fun V4 cv4 W ha hb => l3Mul_c R R R V3 V4 l3 (trL R R l3) (R * R) (R * R) cv3 cv4 W hl3 hl4 ha hb m1 m2
  have HL4 := Lib.hid hl4
  have HLM := Lib.hid (mulL_length R R R l3 (trL R R l3))
  have rd4 : Rd w4 V3 l3 := o4.rd'
  have hRR : R * R ≤ 9 := Nat.mul_le_mul hR3 hR3
  have hRR1 : 1 ≤ R * R := Nat.mul_pos hR1 hR1
  have hsw : w.heap.size + 1 ≤ w3.heap.size := by omega
  clear hw4 hl3 hb3 hl4 m1 m2 o3 o4 c3 g2 g3 mbr h1 c2 hs1
  go_upto_region 2 with fail
  rw [← HW4.out]
  go_cut [4] (fun s4 wx => ∃ gb V4 c4, s4 = .pointer (some ⟨gb, 0, none⟩) ∧ Own wx w4.heap.size (.slice V4 (R * R) c4) (mulL R R R l3 (trL R R l3)) ∧ MBox wx gb R R (.slice V4 (R * R) c4) ∧ w4.heap.size ≤ gb ∧ (∀ g, (Value.slice V4 (R * R) c4).ownBlock = some g → g ≠ gb) ∧ Grows w4 wx)
  case first =>
    obtain ⟨b0, b1, b2⟩ := mbb.cells
    have bl := mbb.lt
    go_region_held3 (fun W => W.cell? ⟨w3.heap.size, 0, none⟩ = some (.int .i64 R) ∧ W.cell? ⟨w3.heap.size, 1, none⟩ = some (.int .i64 R) ∧ W.cell? ⟨w3.heap.size, 2, none⟩ = some (.slice V3 (R * R) cv3)) ((refine MBox.cells (mbb.grows ?_); first | exact bel2 g6 g5 | exact bel1 g5 | exact bel0))
      (first
       | (go_at_call 73; refine (CT.out _ (by exact (Rd.grows rd4 (by exact bel0)))).mono ?_; rintro e w5 ⟨v5, rfl, o5, g5⟩; obtain ⟨V5, cv5, rfl, hr5, _⟩ := o5.val; rw [HL4.out]; have z5 := Below.size g5; (try simp at z5); (try (have q := (MBox.mk_ w4 0 0 (.slice none 0 0) 26).grows (w' := w5) (Grows.trans (show Grows _ _ from (Below.refl _ _).drew) g5))))
       | (go_at_call 72; refine (CM.out _ _ _ (by exact (Rd.grows rd4 (by exact bel1 g5))) (by exact (Rd.grows hr5 (by exact bel0)))).mono ?_; rintro e w6 ⟨v6, rfl, o6, g6⟩; obtain ⟨V6, cv6, rfl, _, _⟩ := o6.val; rw [HLM.out] at o6 ⊢; have z6 := Below.size g6; (try simp at z6); (first | (replace q := q.grows g6) | (have q := MBox.grows (MBox.mk_ w5 0 0 (.slice none 0 0) 26) g6) | skip); (try (obtain ⟨q0, q1, q2⟩ := q.cells; have qf := q.fz; have ql := q.lt))))
    all_goals
      go_wp2_with fail
      go_meet
      exact ⟨_, _, _, rfl, by (have hb_ := fun k hk => World.ownsRow.lt o6 k hk; have ho_ := Own.less o6 (show w4.heap.size ≤ _ by first | omega | (simp; done) | (simp; omega)); (repeat' (first | with_reducible exact ho_ | with_reducible refine Own.alloc ?_ _ | with_reducible refine Own.drew ?_ | with_reducible refine Own.far ?_ ?_ _)); all_goals first | (intro k hk; have := hb_ k hk; (try simp at this); (try simp); omega) | omega | (simp; done) | (simp; omega)), by first | exact MBox.put q _ _ _ | exact MBox.mk_ _ _ _ _ _ | exact MBox.put (MBox.mk_ _ _ _ _ _) _ _ _, by first | omega | (simp; done) | (simp; omega), (fun g hg => by have h1 := World.ownsRow.lt o6 g hg; (try simp at h1); (try simp only); first | omega | (simp; omega)), by exact bel2 g6 g5⟩
  case rest =>
    obtain ⟨gb, V4, cv4, rfl, o5, mbg, hgb, hgn, g45⟩ := hcut
    have HGN := Lib.hid hgn
    clear hgn
    obtain ⟨w5, rfl⟩ : ∃ x : World, x = wc := ⟨_, rfl⟩
    have c5 := c4.grows g45
    have mv5 := mv4.right g45
    have mbr5 := mbr4.grows g45
    have hs5 := Below.size g45
    generalize mulL R R R l3 (trL R R l3) = l5 at *
    clear CT CM HL4 rd4 c4 mv4 mbr4 mbb g45
    go_wp2_with fail
    refine (CO3.out _ c5).mono ?_; rintro e w6 ⟨t, rfl, c6, g6⟩
    have hs6 := g6.size
    have mbg6 := mbg.by_ g6 (by omega)
    have mbr6 := mbr5.by_ g6 (by omega)
    have o6 := o5.by_ g6 (fun g e => by have := (World.ownsRow.lt o5 g e).1; omega)
    have mv6 := mv5.trans (Mv.by_ (S := fun g => g = b) g6 rfl)
    have hgl := mbg6.lt
    clear c5 mv5 mbr5 mbg o5 g6
    obtain ⟨d0, d1, d2⟩ := mbg6.cells
    have df := mbg6.fz
    by_cases hD : t = true ∧ R = 2
    all_goals
     first
     | (
      obtain ⟨rfl, hR2⟩ := hD
      have hR2' : (R : Int) = 2 := by omega
      clear hR2
      go_wp2_with fail
      obtain ⟨ws, hws⟩ : ∃ ws, ws = ((w6.setCell ⟨gb, 0, none⟩ (.int .i64 2)).setCell ⟨gb, 1, none⟩ (.int .i64 2)).setCell ⟨gb, 2, none⟩ (.slice (some ⟨w6.heap.size, 0, none⟩) 4 4) := ⟨_, rfl⟩
      rw [← hws]
      have hsz : ws.heap.size = w6.heap.size := by rw [hws]; simp
      obtain ⟨w7, hw7⟩ : ∃ w7, w7 = ws.alloc (.cells #[.int .i64 2, .int .i64 1, .int .i64 1, .int .i64 2] 3) := ⟨_, rfl⟩
      rw [← hw7]
      have PK : ∃ (r7 : Int) (V7 : Option Addr) (cv7 : Nat) (l7 : List Int), (1 ≤ r7 ∧ r7 ≤ 3) ∧ MBox w7 gb r7 r7 (.slice V7 l7.length cv7) ∧ Own w7 (w.heap.size + 1) (.slice V7 l7.length cv7) l7 ∧ 1 ≤ l7.length ∧ l7.length ≤ 9 ∧ Cur w7 B b A n cap ∧ Mv (fun g => g = b) w w7 ∧ MBox w7 w.heap.size 0 0 (.slice none 0 0) ∧ (∀ g, (Value.slice V7 l7.length cv7).ownBlock = some g → g ≠ gb) ∧ w6.heap.size ≤ w7.heap.size := by
        have ga : Grows ws w7 := by rw [hw7]; exact bel0
        have oa := Own.of_lit ws (w.heap.size + 1) (by omega) [2, 1, 1, 2] (by simp [maxLen])
        rw [hsz] at oa
        have mvs : Mv (fun g => g = gb) w6 ws := by
          rw [hws]
          exact (((Mv.refl (S := fun g => g = gb) w6).put (p := ⟨gb, 0, none⟩) (.inr rfl) _).put (p := ⟨gb, 1, none⟩) (.inr rfl) _).put (p := ⟨gb, 2, none⟩) (.inr rfl) _
        refine ⟨2, some ⟨w6.heap.size, 0, none⟩, 4, [2, 1, 1, 2], by omega, ?_, ?_, by simp, by simp, ?_, ?_, ?_, (fun g hg => by have e2 : w6.heap.size = g := Option.some.inj hg; omega), ?_⟩
        · exact MBox.grows (by rw [hws]; exact mbg6.put 2 2 _) ga
        · rw [hw7]; exact oa
        · exact (c6.mv mvs (by omega) (fun g e => by omega)).grows ga
        · exact (mv6.over mvs (fun g e => by omega)).right ga
        · exact (mbr6.mv mvs (by omega)).grows ga
        · have := Below.size ga; omega
      clear hws hsz
      clear hw7)
     | (
      have HC := Lib.hid hD
      cases t
      all_goals (
        first | have hR2' : ¬ (R : Int) = 2 := fun e => HC.out ⟨rfl, by omega⟩ | skip
        clear hD
        go_wp2_with fail
        obtain ⟨w7, hw7⟩ : ∃ w7, w7 = w6 := ⟨_, rfl⟩
        rw [← hw7]
        have PK : ∃ (r7 : Int) (V7 : Option Addr) (cv7 : Nat) (l7 : List Int), (1 ≤ r7 ∧ r7 ≤ 3) ∧ MBox w7 gb r7 r7 (.slice V7 l7.length cv7) ∧ Own w7 (w.heap.size + 1) (.slice V7 l7.length cv7) l7 ∧ 1 ≤ l7.length ∧ l7.length ≤ 9 ∧ Cur w7 B b A n cap ∧ Mv (fun g => g = b) w w7 ∧ MBox w7 w.heap.size 0 0 (.slice none 0 0) ∧ (∀ g, (Value.slice V7 l7.length cv7).ownBlock = some g → g ≠ gb) ∧ w6.heap.size ≤ w7.heap.size := by
          rw [hw7]
          exact ⟨(R : Int), V4, cv4, l5, by omega, by rw [HLM.out]; exact mbg6, by rw [HLM.out]; exact o6.less (by omega), by rw [HLM.out]; exact hRR1, by rw [HLM.out]; exact hRR, c6, mv6, mbr6, by rw [HLM.out]; exact HGN.out, Nat.le_refl _⟩
        clear hw7))
    all_goals (
      clear d0 d1 d2 df mbg6 mbr6 o6 mv6 c6
      obtain ⟨r7, V7, cv7, l7, hr7, mbg7, o7, hl7, hl7', c7, mv7, mbr7, hvn, hs7⟩ := PK
      refine (CO20.out _ c7).mono ?_; rintro e w8 ⟨t2, rfl, c8, g8⟩
      have hs8 := g8.size
      have mbg8 := mbg7.by_ g8 (by omega)
      have mbr8 := mbr7.by_ g8 (by omega)
      have o8 := o7.by_ g8 (fun g e => by have := (World.ownsRow.lt o7 g e).1; omega)
      have mv8 := mv7.trans (Mv.by_ (S := fun g => g = b) g8 rfl)
      have hvl := fun g e => World.ownsRow.lt o8 g e
      clear c7 mv7 mbr7 mbg7 o7 g8
      cases t2
      · have hvs := hvl
        have CSP := Lib.hid (l3Spoil_c B b A n cap (w.heap.size + 1) r7 r7 V7 l7.length cv7 l7 w8 c8 o8 rfl (by omega) (by omega) (fun g e => by have := hvs g e; omega) (by omega) (by omega))
        obtain ⟨d0, d1, d2⟩ := mbg8.cells
        go_wp2_with fail
        refine CSP.out.mono ?_; rintro e wz ⟨r9, c9, V9, cv9, l9, rfl, hr9, hl9, o9, cz, mvz, _⟩
        have hvz := fun g e => World.ownsRow.lt o9 g e
        have mbz := mbr8.mv mvz (fun e => by rcases e with e | e; omega; have := hvs _ e; omega)
        have mvw := mv8.over mvz (fun g e => by rcases e with e | e; exact .inr e; have := hvs _ e; exact .inl (by omega))
        clear d0 d1 d2
        obtain ⟨d0, d1, d2⟩ := mbz.cells
        have df := mbz.fz
        have dl := mbz.lt
        go_wp2_with fail
        refine bodyPost_ret (v := .agg #[.int .i64 r9, .int .i64 c9, .slice V9 l9.length cv9]) ?_ rfl ?_
        · simp [results, Tryz.results33, go_sem, d0, d1, d2, df, dl]
        · refine ⟨r9, c9, V9, cv9, l9, rfl, hr9, by omega, ?_, ?_, ?_⟩
          · refine Own.less (B := w.heap.size + 1) ?_ (by omega)
            ((repeat' (first | with_reducible exact o9 | with_reducible refine Own.far ?_ ?_ _)); all_goals (intro g hg; have := hvz g hg; (try simp only); omega))
          · ((repeat' (first | with_reducible exact cz | with_reducible refine Cur.put_ ?_ ?_ ?_ _)); all_goals ((try simp only); omega))
          · refine Mv.by2 (S := fun g => g = b) ?_ (fun g _ e => e)
            ((repeat' (first | with_reducible exact mvw | with_reducible refine Mv.put ?_ (.inl ?_) _)); all_goals ((try simp only); omega))
      · obtain ⟨gv, cv', e, _, _⟩ := o8.form (by omega)
        simp only [Value.slice.injEq, true_and] at e
        obtain ⟨rfl, rfl⟩ := e
        have hgv := hvl gv rfl
        have hcl := o8.cell 0 (by omega)
        obtain ⟨x, hx⟩ : ∃ x, x = nth l7 0 := ⟨_, rfl⟩
        rw [← hx] at hcl
        have HXE := Lib.hid hx
        have m0' : (0 : Int) < (l7.length : Int) := by omega
        have m0n : 0 < l7.length := hl7
        clear hx
        go_wp2_with fail
        (refine wp_region_held_last 10 (fun W => W.cell? ⟨gb, 2, none⟩ = some (.slice (some ⟨gv, 0, none⟩) l7.length cv7) ∧ W.cell? ⟨gv, 0, none⟩ = some (.int .i64 x)) (by rfl) (by kernel_rfl) (by kernel_rfl) (by ((try dsimp only); (first | exact ⟨mba.c2, hcla⟩ | exact ⟨(mbg8.grows (by exact bel0)).c2, ((show Grows w8 w8.drew by exact bel0).cell (p := ⟨gv, 0, none⟩) hgv.2).trans hcl⟩))) (fun hHeld => ?_); simp only [List.take_succ_cons, List.take_zero]; refine heldL_take (i := 0) (v := _) (by rfl) (by kernel_rfl) (by kernel_rfl) (by kernel_rfl) (fun _ _ _ h => h) (Or.inl ⟨by rfl, fun wS hSw => by ((try dsimp only at hSw); go_simp; (try with_reducible rfl))⟩) (by assumption) ?_; simp only [Act.put, List.setIfInBounds_toArray, List.set_cons_zero, List.set_cons_succ]; refine heldL_take (i := 1) (v := _) (by rfl) (by kernel_rfl) (by kernel_rfl) (by kernel_rfl) (fun _ _ _ h => h) (Or.inl ⟨by rfl, fun wS hSw => by ((try dsimp only at hSw); go_simp; (try with_reducible rfl))⟩) (by assumption) ?_; simp only [Act.put, List.setIfInBounds_toArray, List.set_cons_zero, List.set_cons_succ]; refine heldL_take (i := 2) (v := _) (by rfl) (by kernel_rfl) (by kernel_rfl) (by kernel_rfl) (fun _ _ _ h => h) (Or.inl ⟨by rfl, fun wS hSw => by ((try dsimp only at hSw); go_simp; (try with_reducible rfl))⟩) (by assumption) ?_; simp only [Act.put, List.setIfInBounds_toArray, List.set_cons_zero, List.set_cons_succ]; refine heldL_take (i := 3) (v := _) (by rfl) (by kernel_rfl) (by kernel_rfl) (by kernel_rfl) (fun _ _ _ h => h) (Or.inl ⟨by rfl, fun wS hSw => by ((try dsimp only at hSw); go_simp; (try with_reducible rfl))⟩) (by assumption) ?_; simp only [Act.put, List.setIfInBounds_toArray, List.set_cons_zero, List.set_cons_succ]; refine heldL_take (i := 4) (v := _) (by rfl) (by kernel_rfl) (by kernel_rfl) (by kernel_rfl) (fun _ _ _ h => h) (Or.inl ⟨by rfl, fun wS hSw => by ((try dsimp only at hSw); go_simp; (try with_reducible rfl))⟩) (by assumption) ?_; simp only [Act.put, List.setIfInBounds_toArray, List.set_cons_zero, List.set_cons_succ]; refine heldL_take (i := 5) (v := _) (by rfl) (by kernel_rfl) (by kernel_rfl) (by kernel_rfl) (fun _ _ _ h => h) (Or.inl ⟨by rfl, fun wS hSw => by ((try dsimp only at hSw); go_simp; (try with_reducible rfl))⟩) (by assumption) ?_; simp only [Act.put, List.setIfInBounds_toArray, List.set_cons_zero, List.set_cons_succ]; refine heldL_take (i := 6) (v := _) (by rfl) (by kernel_rfl) (by kernel_rfl) (by kernel_rfl) (fun _ _ _ h => h) (Or.inl ⟨by rfl, fun wS hSw => by ((try dsimp only at hSw); go_simp; (try with_reducible rfl))⟩) (by assumption) ?_; simp only [Act.put, List.setIfInBounds_toArray, List.set_cons_zero, List.set_cons_succ]; refine heldL_step (i := 7) (by kernel_rfl) (by rfl) (fun K hK => ?_); go_simp; (refine (C9.out _ (c8.grows (by exact bel0))).mono ?_; rintro e wa ⟨y, rfl, hy, ca, ga⟩; have mba := (mbg8.grows (w' := w8.drew) (by exact bel0)).by_ ga (by omega); have oa := (o8.grows (w' := w8.drew) (by exact bel0)).by_ ga (fun g e => by have := hvl g e; omega); have hcla := oa.cell 0 (by omega); rw [← HXE.out] at hcla; have hfr := oa.free 0) ; (try (go_wp2_with fail)); refine hK.out _ _ (by ((try dsimp only); (first | exact ⟨mba.c2, hcla⟩ | exact ⟨(mbg8.grows (by exact bel0)).c2, ((show Grows w8 w8.drew by exact bel0).cell (p := ⟨gv, 0, none⟩) hgv.2).trans hcl⟩))) (fun hHeld => ?_); clear hK K; (try simp only [Act.put, List.setIfInBounds_toArray, List.set_cons_zero, List.set_cons_succ]); refine heldL_take (i := 8) (v := _) (by rfl) (by kernel_rfl) (by kernel_rfl) (by kernel_rfl) (fun _ _ _ h => h) (Or.inl ⟨by rfl, fun wS hSw => by ((try dsimp only at hSw); go_simp; (try with_reducible rfl))⟩) (by assumption) ?_; simp only [Act.put, List.setIfInBounds_toArray, List.set_cons_zero, List.set_cons_succ]; refine heldL_take (i := 9) (v := _) (by rfl) (by kernel_rfl) (by kernel_rfl) (by kernel_rfl) (fun _ _ _ h => h) (Or.inl ⟨by rfl, fun wS hSw => by ((try dsimp only at hSw); go_simp; (try with_reducible rfl))⟩) (by assumption) ?_; simp only [Act.put, List.setIfInBounds_toArray, List.set_cons_zero, List.set_cons_succ]; refine wpAnyH_done (by kernel_rfl) ?_ _; refine lastQ_go ?_)
        have hsa := ga.size
        have ed : w8.drew.heap.size = w8.heap.size := rfl
        have hgvb : gv ≠ gb := hvn gv rfl
        obtain ⟨q, hq⟩ : ∃ q, q = IntKind.i64.wrap (x - (y : Int)) := ⟨_, rfl⟩
        rw [← hq]
        clear hq
        have mgv : Mv (fun g => g = gv) wa (wa.setCell ⟨gv, 0, none⟩ (.int .i64 q)) := (Mv.refl (S := fun g => g = gv) wa).put (p := ⟨gv, 0, none⟩) (.inr rfl) _
        have o9x := oa.put rfl 0 q
        have c9x := ca.mv mgv (by omega) (fun g e => by omega)
        have mv9x := (((mv8.right (show Grows w8 w8.drew by exact bel0)).trans (Mv.by_ (S := fun g => g = b) ga rfl))).over mgv (fun g e => .inl (by omega))
        have mbr9x := ((mbr8.grows (w' := w8.drew) (by exact bel0)).by_ ga (by omega)).mv mgv (by omega)
        obtain ⟨w9, hw9⟩ : ∃ w9, w9 = wa.setCell ⟨gv, 0, none⟩ (.int .i64 q) := ⟨_, rfl⟩
        rw [← hw9] at o9x c9x mv9x mbr9x
        have hs9 : w9.heap.size = wa.heap.size := by rw [hw9]; simp
        have HW9 := Lib.hid hw9
        clear hw9 mgv
        have hvs : ∀ g, (Value.slice (some ⟨gv, 0, none⟩) l7.length cv7).ownBlock = some g → w.heap.size + 1 ≤ g ∧ g < w9.heap.size := fun g e => by have e2 : gv = g := Option.some.inj e; omega
        obtain ⟨d0, d1, d2⟩ := mba.cells
        have CSP := Lib.hid (l3Spoil_c B b A n cap (w.heap.size + 1) r7 r7 (some ⟨gv, 0, none⟩) l7.length cv7 (l7.set 0 q) w9 c9x o9x (by rw [List.length_set]) (by omega) (by omega) (fun g e => by have := hvs g e; omega) (by omega) (by omega))
        go_wp2_with fail
        rw [← HW9.out]
        refine CSP.out.mono ?_; rintro e wz ⟨r9, c9, V9, cv9, l9, rfl, hr9, hl9, o9, cz, mvz, _⟩
        have hvz := fun g e => World.ownsRow.lt o9 g e
        have mbz := mbr9x.mv mvz (fun e => by rcases e with e | e; omega; have := hvs _ e; omega)
        have mvw := mv9x.over mvz (fun g e => by rcases e with e | e; exact .inr e; have := hvs _ e; exact .inl (by omega))
        clear d0 d1 d2
        obtain ⟨d0, d1, d2⟩ := mbz.cells
        have df := mbz.fz
        have dl := mbz.lt
        go_wp2_with fail
        refine bodyPost_ret (v := .agg #[.int .i64 r9, .int .i64 c9, .slice V9 l9.length cv9]) ?_ rfl ?_
        · simp [results, Tryz.results33, go_sem, d0, d1, d2, df, dl]
        · refine ⟨r9, c9, V9, cv9, l9, rfl, hr9, by omega, ?_, ?_, ?_⟩
          · refine Own.less (B := w.heap.size + 1) ?_ (by omega)
            ((repeat' (first | with_reducible exact o9 | with_reducible refine Own.far ?_ ?_ _)); all_goals (intro g hg; have := hvz g hg; (try simp only); omega))
          · ((repeat' (first | with_reducible exact cz | with_reducible refine Cur.put_ ?_ ?_ ?_ _)); all_goals ((try simp only); omega))
          · refine Mv.by2 (S := fun g => g = b) ?_ (fun g _ e => e)
            ((repeat' (first | with_reducible exact mvw | with_reducible refine Mv.put ?_ (.inl ?_) _)); all_goals ((try simp only); omega)))
end
end Go.Proofs.YtbfkpfdkndnhkaaGreat

/- The draws: a form and a bound. -/
namespace Go.Proofs.YtbfkpfdkndnhkaaGreat
set_option linter.unusedSimpArgs false
set_option linter.unusedVariables false
open Go.RowKit

/-- a matrix and a number drawn from a code -/
def DAsk (w : World) (e : Ending) (w' : World) : Prop := ∃ (r c : Int) (V : Option Addr) (cv : Nat) (l : List Int) (x : Int), e = .returned (.tuple #[.agg #[.int .i64 r, .int .i64 c, .slice V l.length cv], .int .i64 x]) ∧ (-1 ≤ r ∧ r ≤ 8) ∧ l.length ≤ 10 ∧ Own w' w.heap.size (.slice V l.length cv) l ∧ Grows w w'
theorem Mv.put3 {b : Nat} (w : World) (u v x : Value) : Mv (fun g => g = b) w (((w.setCell ⟨b, 0, none⟩ u).setCell ⟨b, 1, none⟩ v).setCell ⟨b, 2, none⟩ x) :=
  (((Mv.refl (S := fun g => g = b) w).put (p := ⟨b, 0, none⟩) (.inr rfl) _).put (p := ⟨b, 1, none⟩) (.inr rfl) _).put (p := ⟨b, 2, none⟩) (.inr rfl) _
section
set_option maxHeartbeats 4000000
set_option maxRecDepth 10000
theorem l20Ask_c (A : Option Addr) (n cap : Nat) (w : World) (hr : CodeR w w.heap.size A n) (hn : n ≤ 1048576) :
    Calls Tryz.prog 12 #[.slice A n cap] w (DAsk w) := by
  obtain ⟨w1, hw1⟩ : ∃ w1, w1 = w.alloc (.cells #[.int .i64 0, .int .i64 0, .slice none 0 0] 26) := ⟨_, rfl⟩
  have mbr : MBox w1 w.heap.size 0 0 (.slice none 0 0) := by rw [hw1]; exact MBox.mk_ _ _ _ _ _
  have g01 : Grows w w1 := by rw [hw1]; exact bel0
  have hs1 : w1.heap.size = w.heap.size + 1 := by rw [hw1]; simp
  have CN := Lib.hid (l1New_c w.heap.size A n cap w1 (by omega) (hr.keep g01) hn)
  have CG := Lib.hid fun b W h => l18Gram_c w.heap.size b A n cap W h
  have CO := Lib.hid fun b W h => l1Once_c w.heap.size b A n cap 16 W (by omega) h
  have C20 := Lib.hid fun b W h => l1Below_c w.heap.size b A n cap 20 W (by omega) h
  have HW1 := Lib.hid hw1
  have HS1 := Lib.hid hs1
  clear hw1
  go_enter Tryz.func12, Tryz.ntmps12
  go_wp2_with fail
  rw [← HW1.out]
  refine CN.out.mono ?_; rintro e w2 ⟨b, rfl, c2, g2⟩
  have hs2 := Below.size g2
  have hb : w.heap.size ≠ b := by
    intro e
    obtain ⟨i, h, _, c⟩ := c2
    have h1 := c.c0
    rw [← e, (mbr.grows g2).c0] at h1
    cases h1
  have hbl := c2.lt
  have hlo := c2.lo
  have hW2 : w.heap.size + 1 ≤ w2.heap.size := by omega
  have hW1 : w.heap.size ≤ w1.heap.size := by omega
  have mbr2 := mbr.grows g2
  clear mbr hs1
  go_wp2_with fail
  refine (CG.out b _ c2).mono ?_; rintro e w3 ⟨r, c, V, cv, l, rfl, hrb, hl, o3, c3, g3⟩
  have hs3 := g3.size
  have mbr3 := mbr2.by_ g3 hb
  have k3 : Below w.heap.size w2 w3 := c2.below g3
  have hvl := fun g e => World.ownsRow.lt o3 g e
  obtain ⟨w4, hw4⟩ : ∃ w4, w4 = w3.alloc (.cells #[.int .i64 r, .int .i64 c, .slice V l.length cv] 26) := ⟨_, rfl⟩
  have mbg4 : MBox w4 w3.heap.size r c (.slice V l.length cv) := by rw [hw4]; exact MBox.mk_ _ _ _ _ _
  have g34 : Grows w3 w4 := by rw [hw4]; exact bel0
  have HW4 := Lib.hid hw4
  have c4 := c3.grows g34
  have hs4 := Below.size g34
  have mbr4 := mbr3.grows g34
  have o4 := o3.grows g34
  clear hw4 c3 mbr3 o3 mbr2 g3 c2
  go_wp2_with fail
  rw [← HW4.out]
  refine (CO.out b _ c4).mono ?_; rintro e w5 ⟨t, rfl, c5, g5⟩
  have hs5 := g5.size
  have hvb : ∀ g, (Value.slice V l.length cv).ownBlock = some g → g ≠ b := fun g e => by have := hvl g e; omega
  have mbg5 := mbg4.by_ g5 (by omega)
  have mbr5 := mbr4.by_ g5 hb
  have o5 := o4.by_ g5 hvb
  have k5 : Below w.heap.size w4 w5 := c4.below g5
  have G5 : Grows w w5 := Below.trans g01 (Below.trans (Below.mono g2 (by omega)) (Below.trans k3 (Below.trans (Below.mono g34 (by omega)) k5)))
  have HVL := Lib.hid hvl
  have HVB := Lib.hid hvb
  clear hvl hvb c4 mbg4 mbr4 o4 g5 k5 k3 g34 g2 g01
  have ed : w5.drew.heap.size = w5.heap.size := rfl
  cases t
  · go_wp2_with fail
    (refine wp_region_heldL (fun W => W.cell? ⟨w3.heap.size, 0, none⟩ = some (.int .i64 r) ∧ W.cell? ⟨w3.heap.size, 1, none⟩ = some (.int .i64 c) ∧ W.cell? ⟨w3.heap.size, 2, none⟩ = some (.slice V l.length cv)) (by kernel_rfl) (by ((try dsimp only); (first | exact (mbg6.mv (Mv.put3 _ _ _ _) (by omega)).cells | exact mbg6.cells | exact (mbg5.grows (by exact bel0)).cells))) (fun hHeld => ?_); refine heldL_take (i := 0) (v := _) (by rfl) (by kernel_rfl) (by kernel_rfl) (by kernel_rfl) (fun _ _ _ h => h) (Or.inl ⟨by rfl, fun wS hSw => by ((try dsimp only at hSw); go_simp; (try with_reducible rfl))⟩) (by assumption) ?_; simp only [Act.put, List.setIfInBounds_toArray, List.set_cons_zero, List.set_cons_succ]; refine heldL_take (i := 1) (v := _) (by rfl) (by kernel_rfl) (by kernel_rfl) (by kernel_rfl) (fun _ _ _ h => h) (Or.inl ⟨by rfl, fun wS hSw => by ((try dsimp only at hSw); go_simp; (try with_reducible rfl))⟩) (by assumption) ?_; simp only [Act.put, List.setIfInBounds_toArray, List.set_cons_zero, List.set_cons_succ]; refine heldL_step (i := 2) (by kernel_rfl) (by rfl) (fun K hK => ?_); go_simp; (refine (C20.out b _ (c5.grows (by exact bel0))).mono ?_; rintro e w6 ⟨y, rfl, hy, c6, g6⟩; have mbg6 := (mbg5.grows (w' := w5.drew) (by exact bel0)).by_ g6 (by omega); have mbr6 := (mbr5.grows (w' := w5.drew) (by exact bel0)).by_ g6 hb; obtain ⟨e0, e1, e2⟩ := mbr6.cells; have ef := mbr6.fz; have el := mbr6.lt) ; (try (go_wp2_with fail)); refine hK.out _ _ (by ((try dsimp only); (first | exact (mbg6.mv (Mv.put3 _ _ _ _) (by omega)).cells | exact mbg6.cells | exact (mbg5.grows (by exact bel0)).cells))) (fun hHeld => ?_); clear hK K; (try simp only [Act.put, List.setIfInBounds_toArray, List.set_cons_zero, List.set_cons_succ]); refine heldL_step (i := 3) (by kernel_rfl) (by rfl) (fun K hK => ?_); go_simp; refine hK.out _ _ (by ((try dsimp only); (first | exact (mbg6.mv (Mv.put3 _ _ _ _) (by omega)).cells | exact mbg6.cells | exact (mbg5.grows (by exact bel0)).cells))) (fun hHeld => ?_); clear hK K; (try simp only [Act.put, List.setIfInBounds_toArray, List.set_cons_zero, List.set_cons_succ]); refine heldL_take (i := 4) (v := _) (by rfl) (by kernel_rfl) (by kernel_rfl) (by kernel_rfl) (fun _ _ _ h => h) (Or.inl ⟨by rfl, fun wS hSw => by ((try dsimp only at hSw); go_simp; (try with_reducible rfl))⟩) (by assumption) ?_; simp only [Act.put, List.setIfInBounds_toArray, List.set_cons_zero, List.set_cons_succ]; refine wpAnyH_done (by kernel_rfl) ?_ _; refine NoPanic.normal ?_)
    have o6 := (o5.grows (w' := w5.drew) (by exact bel0)).by_ g6 HVB.out
    have k6 : Below w.heap.size w5.drew w6 := (c5.grows (w' := w5.drew) (by exact bel0)).below g6
    have G6 : Grows w w6 := Below.trans (Below.trans G5 (show Below w.heap.size w5 w5.drew by exact bel0)) k6
    go_wp2_with fail
    refine bodyPost_ret (v := .tuple #[.agg #[.int .i64 r, .int .i64 c, .slice V l.length cv], .int .i64 y]) ?_ rfl ?_
    · simp [results, Tryz.results12, go_sem, e0, e1, e2, ef, el]
    · refine ⟨r, c, V, cv, l, y, rfl, hrb, hl, ?_, by exact bel1 G6⟩
      refine Own.less (B := w2.heap.size) ?_ (by omega)
      ((repeat' (first | with_reducible exact o6 | with_reducible refine Own.far ?_ ?_ _)); all_goals (intro g hg; have := HVL.out g hg; (try simp only); omega))
  · obtain ⟨w6, hw6⟩ : ∃ w6, w6 = (w5.alloc (.cells #[.int .i64 (-1), .int .i64 0, .int .i64 10000, .int .i64 10001] 3)).drew := ⟨_, rfl⟩
    have g56 : Grows w5 w6 := by rw [hw6]; exact bel0
    have hr6 : Rd w6 (some ⟨w5.heap.size, 0, none⟩) [-1, 0, 10000, 10001] := by
      rw [hw6]
      intro i hi
      refine ⟨w5.heap.size, 0, rfl, by simp, ?_⟩
      simp only [List.length_cons, List.length_nil] at hi
      rcases i with _ | _ | _ | _ | i <;> first | omega | simp [go_sem, nth]
    have CP := Lib.hid (l1PickInt_c w.heap.size b A n cap (some ⟨w5.heap.size, 0, none⟩) _ 4 4 w6 rfl (by omega) (by omega) hr6 (fun a e => by cases e; simp; omega) (c5.grows g56))
    have HW6 := Lib.hid hw6
    clear hw6 hr6
    go_wp2_with fail
    (refine wp_region_heldL (fun W => W.cell? ⟨w3.heap.size, 0, none⟩ = some (.int .i64 r) ∧ W.cell? ⟨w3.heap.size, 1, none⟩ = some (.int .i64 c) ∧ W.cell? ⟨w3.heap.size, 2, none⟩ = some (.slice V l.length cv)) (by kernel_rfl) (by ((try dsimp only); (first | exact (mbg7.mv (Mv.put3 _ _ _ _) (by omega)).cells | exact mbg7.cells | exact (mbg5.grows (by exact bel0)).cells))) (fun hHeld => ?_); refine heldL_take (i := 0) (v := _) (by rfl) (by kernel_rfl) (by kernel_rfl) (by kernel_rfl) (fun _ _ _ h => h) (Or.inl ⟨by rfl, fun wS hSw => by ((try dsimp only at hSw); go_simp; (try with_reducible rfl))⟩) (by assumption) ?_; simp only [Act.put, List.setIfInBounds_toArray, List.set_cons_zero, List.set_cons_succ]; refine heldL_take (i := 1) (v := _) (by rfl) (by kernel_rfl) (by kernel_rfl) (by kernel_rfl) (fun _ _ _ h => h) (Or.inl ⟨by rfl, fun wS hSw => by ((try dsimp only at hSw); go_simp; (try with_reducible rfl))⟩) (by assumption) ?_; simp only [Act.put, List.setIfInBounds_toArray, List.set_cons_zero, List.set_cons_succ]; refine heldL_step (i := 2) (by kernel_rfl) (by rfl) (fun K hK => ?_); go_simp; refine hK.out _ _ (by ((try dsimp only); (first | exact (mbg7.mv (Mv.put3 _ _ _ _) (by omega)).cells | exact mbg7.cells | exact (mbg5.grows (by exact bel0)).cells))) (fun hHeld => ?_); clear hK K; (try simp only [Act.put, List.setIfInBounds_toArray, List.set_cons_zero, List.set_cons_succ]); refine heldL_step (i := 3) (by kernel_rfl) (by rfl) (fun K hK => ?_); go_simp; (rw [← HW6.out]; refine CP.out.mono ?_; rintro e w7 ⟨yi, hyi, rfl, c7, g7⟩; have mbg7 := (mbg5.grows g56).by_ g7 (by omega); have mbr7 := (mbr5.grows g56).by_ g7 hb; obtain ⟨e0, e1, e2⟩ := mbr7.cells; have ef := mbr7.fz; have el := mbr7.lt) ; (try (go_wp2_with fail)); refine hK.out _ _ (by ((try dsimp only); (first | exact (mbg7.mv (Mv.put3 _ _ _ _) (by omega)).cells | exact mbg7.cells | exact (mbg5.grows (by exact bel0)).cells))) (fun hHeld => ?_); clear hK K; (try simp only [Act.put, List.setIfInBounds_toArray, List.set_cons_zero, List.set_cons_succ]); refine heldL_step (i := 4) (by kernel_rfl) (by rfl) (fun K hK => ?_); go_simp; refine hK.out _ _ (by ((try dsimp only); (first | exact (mbg7.mv (Mv.put3 _ _ _ _) (by omega)).cells | exact mbg7.cells | exact (mbg5.grows (by exact bel0)).cells))) (fun hHeld => ?_); clear hK K; (try simp only [Act.put, List.setIfInBounds_toArray, List.set_cons_zero, List.set_cons_succ]); refine heldL_take (i := 5) (v := _) (by rfl) (by kernel_rfl) (by kernel_rfl) (by kernel_rfl) (fun _ _ _ h => h) (Or.inl ⟨by rfl, fun wS hSw => by ((try dsimp only at hSw); go_simp; (try with_reducible rfl))⟩) (by assumption) ?_; simp only [Act.put, List.setIfInBounds_toArray, List.set_cons_zero, List.set_cons_succ]; refine wpAnyH_done (by kernel_rfl) ?_ _; refine NoPanic.normal ?_)
    have o7 := (o5.grows g56).by_ g7 HVB.out
    have k7 : Below w.heap.size w6 w7 := (c5.grows g56).below g7
    have G7 : Grows w w7 := Below.trans (Below.trans G5 (Below.mono g56 (by have := Below.size G5; omega))) k7
    go_wp2_with fail
    refine bodyPost_ret (v := .tuple #[.agg #[.int .i64 r, .int .i64 c, .slice V l.length cv], .int .i64 (nth [-1, 0, 10000, 10001] yi)]) ?_ rfl ?_
    · simp [results, Tryz.results12, go_sem, e0, e1, e2, ef, el]
    · refine ⟨r, c, V, cv, l, _, rfl, hrb, hl, ?_, by exact bel1 G7⟩
      refine Own.less (B := w2.heap.size) ?_ (by omega)
      ((repeat' (first | with_reducible exact o7 | with_reducible refine Own.far ?_ ?_ _)); all_goals (intro g hg; have := HVL.out g hg; (try simp only); omega))
theorem askDrawShortVectors_c (A : Option Addr) (n cap : Nat) (w : World) (hr : CodeR w w.heap.size A n) (hn : n ≤ 1048576) :
    Calls Tryz.prog 5 #[.slice A n cap] w (DAsk w) := by
  obtain ⟨w1, hw1⟩ : ∃ w1, w1 = w.alloc (.cells #[.int .i64 0, .int .i64 0, .slice none 0 0] 26) := ⟨_, rfl⟩
  have mbr : MBox w1 w.heap.size 0 0 (.slice none 0 0) := by rw [hw1]; exact MBox.mk_ _ _ _ _ _
  have g01 : Grows w w1 := by rw [hw1]; exact bel0
  have hs1 : w1.heap.size = w.heap.size + 1 := by rw [hw1]; simp
  have CA := Lib.hid (l20Ask_c A n cap w1 (fun i hi => by obtain ⟨b, off, x, h1, h2, h3⟩ := hr.keep g01 i hi; exact ⟨b, off, x, h1, by omega, h3⟩) hn)
  have HW1 := Lib.hid hw1
  have hlt : w.heap.size < w1.heap.size := by omega
  clear hw1 hs1
  go_enter Tryz.func5, Tryz.ntmps5
  go_wp2_with fail
  rw [← HW1.out]
  refine CA.out.mono ?_; rintro e w2 ⟨r, c, V, cv, l, x, rfl, hrb, hl, o2, g2⟩
  have mb2 := mbr.grows g2
  have hvl := fun g e => World.ownsRow.lt o2 g e
  obtain ⟨d0, d1, d2⟩ := mb2.cells
  have df := mb2.fz
  have dl := mb2.lt
  go_wp2_with fail
  refine bodyPost_ret (v := .tuple #[.agg #[.int .i64 r, .int .i64 c, .slice V l.length cv], .int .i64 x]) ?_ rfl ?_
  · simp [results, Tryz.results5, go_sem, d0, d1, d2, df, dl]
  · refine ⟨r, c, V, cv, l, x, rfl, hrb, hl, ?_, by exact bel2 g2 g01⟩
    refine Own.less (B := w1.heap.size) ?_ (by omega)
    ((repeat' (first | with_reducible exact o2 | with_reducible refine Own.far ?_ ?_ _)); all_goals (intro g hg; have := hvl g hg; (try simp only); omega))
end
end Go.Proofs.YtbfkpfdkndnhkaaGreat

/- Reading a law's code of bytes; is it too long? -/
namespace Go.Proofs.YtbfkpfdkndnhkaaGreat
set_option linter.unusedSimpArgs false
set_option linter.unusedVariables false
open Go.ChangeShapes Go.WideShapes Go.ChangeAt Go.RowKit Go.Joins

/-- What a slice of bytes that came in is. -/
def InCode (w : World) (A : Option Addr) (l : List Int) (c : Nat) : Prop := CodeR w w.heap.size A l.length ∧ l.length ≤ c ∧ c ≤ maxLen
section
variable {H : Type} {enc : TypeId × Value → H} {w : World} {sp : Nat → Bool} {held : Bool}
theorem open_code {fuel : Nat} {v : Value} {x : DataW H × List MemPlace} (h : DataW.trod enc Tryz.prog w 0 sp held fuel 22 [v] = some x) :
    ∃ A l c, v = .slice A (List.length l) c ∧ InCode w A l c := by
  rcases open_ints Tryz.underlying22 Tryz.underlying5 (by kernel_rfl) h with ⟨hcs, _⟩ | ⟨a, l, c, zs, hcs, _, hl, hm, hz, _, hcell, hwz⟩
  · simp at hcs
    subst hcs
    exact ⟨none, [], 0, rfl, (fun i hi => by simp at hi), by simp, by simp⟩
  · simp at hcs
    subst hcs
    have hlz : l ≤ zs.length := by rw [hz]; split <;> omega
    refine ⟨some a, zs.take l, c, by simp [Nat.min_eq_left hlz], fun i hi => ?_, by simp; omega, hm⟩
    have hi' : i < l := by simp at hi; omega
    obtain ⟨b, off, rfl, hc⟩ := ints_at hcell (by omega)
    have h1 := hc i (by omega)
    have hb := range_u8 hwz i
    exact ⟨b, off, _, rfl, World.block_lt_of_cell? w _ h1, h1, hb⟩
end
theorem big_c (A : Option Addr) (n cap : Nat) (w : World) (hn : n ≤ 9223372036854775807) :
    Calls Tryz.prog 4 #[.slice A n cap] w fun e w' => e = .returned (.bool (decide (1048576 < n))) ∧ w' = w := by
  by_cases h : 1048576 < n
  · have h' : (1048576 : Int) < (n : Int) := by omega
    go_enter Tryz.func4, Tryz.ntmps4
    go_wp2_with fail
    go_ret
    exact ⟨by first | rfl | (rw [decide_eq_true h]; rfl), rfl⟩
  · have h' : ¬ (1048576 : Int) < (n : Int) := by omega
    go_enter Tryz.func4, Tryz.ntmps4
    go_wp2_with fail
    go_ret
    exact ⟨by first | rfl | (rw [decide_eq_false h]; rfl), rfl⟩
end Go.Proofs.YtbfkpfdkndnhkaaGreat
