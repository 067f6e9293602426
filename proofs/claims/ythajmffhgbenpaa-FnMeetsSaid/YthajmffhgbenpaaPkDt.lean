/- Contracts and lemmas, put together. -/
import Derived.Test.YthajmffhgbenpaaPkDs
import Derived.Test.YthajmffhgbenpaaPkH
/- The draws: a list, a lattice, two lattices. -/
namespace Go.Proofs.Ythajmffhgbenpaa
set_option linter.unusedSimpArgs false
set_option linter.unusedVariables false
open Go.RowKit

/-- a list of at most m numbers -/
def DVecL (B b : Nat) (A : Option Addr) (n cap m : Nat) (w : World) (e : Ending) (w' : World) : Prop := ∃ (V : Option Addr) (cv : Nat) (l : List Int), e = .returned (.slice V l.length cv) ∧ l.length ≤ m ∧ Own w' w.heap.size (.slice V l.length cv) l ∧ Cur w' B b A n cap ∧ w.grownBy w' (some b)
theorem bas_small {R N : Nat} {l : List Int} {m : MX} (h : basO ⟨R, N, l⟩ = some m) (hR : R ≤ 3) (hN : N ≤ 3) : m.l.length ≤ 9 ∧ -1 ≤ m.r ∧ m.r ≤ 7 := by
  unfold basO at h
  obtain ⟨x, h1, h2⟩ := Option.map_eq_some_iff.1 h
  have hm : isMat R N l = true := by
    cases e : isMat R N l
    · have h0 := hermO_no (a := ⟨R, N, l⟩) e; rw [h0] at h1; cases h1
    · rfl
  obtain ⟨T, a, u, rfl, ok, st, hT⟩ := hermO_some hm h1
  rw [hT] at h2
  subst h2
  have hTR : T ≤ R := st.tR
  simp only [Int.toNat_natCast]
  have hTN : T * N ≤ 9 := Nat.mul_le_mul (show T ≤ 3 by omega) hN
  refine ⟨?_, by omega, by omega⟩
  rw [List.length_take]; omega
section
set_option maxHeartbeats 4000000
set_option maxRecDepth 10000
/-- a list and a number -/
def DListN (w : World) (e : Ending) (w' : World) : Prop := ∃ (V : Option Addr) (cv : Nat) (l : List Int) (x : Int), e = .returned (.tuple #[.slice V l.length cv, .int .i64 x]) ∧ l.length ≤ 4 ∧ Own w' w.heap.size (.slice V l.length cv) l ∧ Grows w w'
theorem l16Lattice_c (B b : Nat) (A : Option Addr) (n cap N : Nat) (w : World) (hN : N ≤ 3) (h : Cur w B b A n cap) :
    Calls Try.prog 52 #[.pointer (some ⟨b, 0, none⟩), .int .i64 N] w (DMatG B b A n cap 10 w) := by
  obtain ⟨w1, hw1⟩ : ∃ w1, w1 = w.alloc (.cells #[.int .i64 0, .int .i64 0, .slice none 0 0] 26) := ⟨_, rfl⟩
  have mbr : MBox w1 w.heap.size 0 0 (.slice none 0 0) := by rw [hw1]; exact MBox.mk_ _ _ _ _ _
  have g01 : Grows w w1 := by rw [hw1]; exact bel0
  have h_w1 : w1.heap.size = w.heap.size + 1 := by rw [hw1]; simp
  have hbl := h.lt
  have hlo := h.lo
  have hc := h.grows g01
  have hm : Mv (fun g => g = b) w w1 := (Mv.refl _).right g01
  have C3 := Lib.hid fun W h => l1Below_c B b A n cap 3 W (by omega) h
  have CD := Lib.hid fun R M W h1 h2 h => l3Draw_c B b A n cap R N M W h1 (by omega) h2 h
  have HW1 := Lib.hid hw1
  clear hw1 h
  go_enter Try.func52, Try.ntmps52
  go_wp2_with fail
  rw [← HW1.out]
  have mbr_0 := mbr.c0; have mbr_1 := mbr.c1; have mbr_2 := mbr.c2; have mbr_l := mbr.lt; have mbr_f := mbr.fz
  refine (C3.out _ (by exact hc.grows (by exact bel0))).mono ?_; rintro e w2 ⟨R0, rfl, hR, c_w2, g_w2⟩
  have m_w2 : Mv (fun g => g = b) w1 w2 := Mv.left (by exact bel0) (Mv.by_ (S := fun g => g = b) g_w2 rfl)
  have s_w2 := m_w2.size
  clear mbr_0 mbr_1 mbr_2 mbr_l mbr_f
  replace mbr := mbr.mv m_w2 (by omega)
  have mbr_0 := mbr.c0; have mbr_1 := mbr.c1; have mbr_2 := mbr.c2; have mbr_l := mbr.lt; have mbr_f := mbr.fz
  clear hc; have hc := c_w2; clear c_w2
  replace hm := hm.trans m_w2
  have h_w2 := hm.size
  clear m_w2 g_w2
  obtain ⟨R, hR0⟩ : ∃ R : Nat, R = 1 + R0 := ⟨_, rfl⟩
  have hRi : (1 : Int) + (R0 : Int) = (R : Int) := by omega
  have hR3 : R ≤ 3 := by omega
  have k1 : IntKind.i64.wrap ((1 : Int) + (R0 : Int)) = (R : Int) := by rw [IntWalk.i64_in _ (by omega)]; omega
  clear hR0 hRi
  go_wp2_with fail
  refine (CD.out R 4 _ (by omega) (by omega) (by exact hc.grows (by exact bel0))).mono ?_; rintro e w3 ⟨V3, cv3, l3, rfl, hl3, hb3, o3, c_w3, g_w3⟩
  have m_w3 : Mv (fun g => g = b) w2 w3 := Mv.left (by exact bel0) (Mv.by_ (S := fun g => g = b) g_w3 rfl)
  have s_w3 := m_w3.size
  clear mbr_0 mbr_1 mbr_2 mbr_l mbr_f
  replace mbr := mbr.mv m_w3 (by omega)
  have mbr_0 := mbr.c0; have mbr_1 := mbr.c1; have mbr_2 := mbr.c2; have mbr_l := mbr.lt; have mbr_f := mbr.fz
  clear hc; have hc := c_w3; clear c_w3
  replace hm := hm.trans m_w3
  have h_w3 := hm.size
  clear m_w3 g_w3
  have hRN : R * N ≤ 9 := Nat.mul_le_mul hR3 hN
  have CB := Lib.hid fun W h => (sBas_c R N V3 l3 (R * N) cv3 W hl3 h (by omega)).mono fun _ _ h => matRet_out h
  have HB := Lib.hid fun m (h : basO ⟨R, N, l3⟩ = some m) => bas_small h hR3 hN
  generalize basO ⟨R, N, l3⟩ = BO at *
  have HBS : RowKit.Hid ((oM BO).l.length ≤ 9 ∧ -1 ≤ (oM BO).r ∧ (oM BO).r ≤ 7) := Lib.hid (by
    cases BO with
    | none => exact ⟨Nat.zero_le _, by show (-1 : Int) ≤ 0; omega, by show (0 : Int) ≤ 7; omega⟩
    | some m => exact HB.out m rfl)
  go_wp2_with fail
  refine (CB.out _ (by exact (o3.rd').grows (by exact bel0))).mono ?_; rintro e w4 ⟨v4, rfl, o4, g_w4⟩
  have m_w4 : Mv (fun g => g = b) w3 w4 := (Mv.refl _).right (by exact bel1 g_w4)
  have s_w4 := m_w4.size
  clear mbr_0 mbr_1 mbr_2 mbr_l mbr_f
  replace mbr := mbr.mv m_w4 (by omega)
  have mbr_0 := mbr.c0; have mbr_1 := mbr.c1; have mbr_2 := mbr.c2; have mbr_l := mbr.lt; have mbr_f := mbr.fz
  replace o3 := o3.mv m_w4 (fun g e => by have := World.ownsRow.lt o3 g e; omega)
  replace hc := hc.grows (w' := w4) (by exact bel1 g_w4)
  replace hm := hm.trans m_w4
  have h_w4 := hm.size
  clear m_w4 g_w4
  obtain ⟨A4, c4, rfl, _, _⟩ := o4.val
  obtain ⟨hb1, hb2, hb3⟩ := HBS.out
  have CS := Lib.hid fun W hc ho hne (hK : w3.heap.size ≤ W.heap.size) => l3Spoil_c B b A n cap w3.heap.size (oM BO).r (oM BO).c A4 (oM BO).l.length c4 (oM BO).l W hc ho rfl (by omega) (by omega) hne hK ⟨hb2, hb3⟩
  generalize oM BO = M at *
  clear HB HBS CB
  have o4' := o4.less (B' := w3.heap.size) (Nat.le_refl _)
  go_wp2_with fail
  have hx : ∀ g, (Value.slice A4 M.l.length c4).ownBlock = some g → g ≠ b := fun g e => by have := World.ownsRow.lt o4 g e; omega
  refine (CS.out _ (by exact hc.grows (by exact bel0)) (by exact o4.grows (by exact bel0)) hx (by simp; omega)).mono ?_; rintro e w5 ⟨r9, c9, V9, cv9, l9, rfl, hr9, hl9, o9, c5, mv5, _⟩
  have hvs := fun g e => World.ownsRow.lt o4 g e
  have mv45 : Mv (fun g => g = b ∨ (Value.slice A4 M.l.length c4).ownBlock = some g) w4 w5 := Mv.left (by exact bel0) mv5
  have s_w5 := mv45.size
  have mbz := mbr.mv mv45 (fun e => by rcases e with e | e; omega; have := hvs _ e; omega)
  have mvw : Mv (fun g => g = b) w w5 := hm.over mv45 (fun g e => by rcases e with e | e; exact .inr e; have := hvs _ e; exact .inl (by omega))
  clear mbr_0 mbr_1 mbr_2 mbr_f mbr_l
  have mbz_0 := mbz.c0; have mbz_1 := mbz.c1; have mbz_2 := mbz.c2; have mbz_l := mbz.lt; have mbz_f := mbz.fz
  go_wp2_with fail
  refine bodyPost_ret (v := .agg #[.int .i64 r9, .int .i64 c9, .slice V9 l9.length cv9]) ?_ rfl ?_
  · simp [results, Try.results52, go_sem, mbz_0, mbz_1, mbz_2, mbz_f, mbz_l]
  · exact ⟨r9, c9, V9, cv9, l9, rfl, hr9, by omega, by (have hv_ := fun g e => World.ownsRow.lt o9 g e; refine Own.less (B := ?OB11) ?_ ?_; ((repeat' (first | with_reducible exact o9 | with_reducible refine Own.alloc ?_ _ | with_reducible refine Own.drew ?_ | with_reducible refine Own.far ?_ ?_ _)); all_goals (first | omega | (simp; omega) | (intro g hg; have := hv_ g hg; (try simp only); first | omega | (simp; omega))))), by ((repeat' (first | with_reducible exact c5 | with_reducible refine Cur.put_ ?_ ?_ ?_ _)); all_goals ((try simp only); omega)), by (refine Mv.by2 (S := fun g => g = b) ?_ (fun g _ e => e); ((repeat' (first | with_reducible exact mvw | with_reducible refine Mv.put ?_ (.inl ?_) _)); all_goals ((try simp only); omega)))⟩
end
end Go.Proofs.Ythajmffhgbenpaa
