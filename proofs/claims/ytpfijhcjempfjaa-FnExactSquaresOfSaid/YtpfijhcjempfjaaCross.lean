/- Contracts: a matrix without a row and a column. -/
import Derived.Test.YtpfijhcjempfjaaGram
import Derived.Test.YtpfijhcjempfjaaApp2
import Derived.Deep.RegionHeld3
import Derived.IntWalk
import Derived.Test.YtpfijhcjempfjaaLast
import Derived.Test.YtpfijhcjempfjaaDist
namespace Go.Proofs.Ytpfijhcjempfjaa
open Go.RowKit

/-! ### plain -/
/-- the cells of a matrix of C columns that lie neither in row ri nor in column ci: of its first k cells -/
def crs (C : Nat) (l : List Int) (ri ci : Nat) : Nat → List Int
  | 0 => []
  | k + 1 => crs C l ri ci k ++ (if k / C ≠ ri ∧ k % C ≠ ci then [nth l k] else [])
theorem crs_take {C : Nat} {l : List Int} {ri ci I J : Nat} (hJ : J < C) (h1 : I ≠ ri) (h2 : J ≠ ci) : crs C l ri ci (I * C + (J + 1)) = crs C l ri ci (I * C + J) ++ [nth l (I * C + J)] := by
  rw [← Nat.add_assoc, crs, idx_div hJ, idx_mod hJ, if_pos ⟨h1, h2⟩]
theorem crs_skip {C : Nat} {l : List Int} {ri ci I J : Nat} (hJ : J < C) (h : I = ri ∨ J = ci) : crs C l ri ci (I * C + (J + 1)) = crs C l ri ci (I * C + J) := by
  rw [← Nat.add_assoc, crs, idx_div hJ, idx_mod hJ, if_neg (by omega), List.append_nil]
theorem crs_length (C : Nat) (l : List Int) (ri ci k : Nat) : (crs C l ri ci k).length ≤ k := by
  induction k with
  | zero => simp [crs]
  | succ k ih => rw [crs, List.length_append]; split <;> simp <;> omega

theorem MBox.own {w w' : World} {b : Nat} {r c : Int} {u v : Value} (h : MBox w b r c u) (hg : w.grownBy w' v.ownBlock) (hne : ∀ g, v.ownBlock = some g → g ≠ b) : MBox w' b r c u := by
  have hb : w'.heap[b]? = w.heap[b]? := hg.block b h.lt (fun e => hne b e.symm rfl)
  have hc : ∀ o, w'.cell? ⟨b, o, none⟩ = w.cell? ⟨b, o, none⟩ := fun o => by unfold World.cell?; simp only [hb]
  have hf : ∀ o, w'.frozen? ⟨b, o, none⟩ = w.frozen? ⟨b, o, none⟩ := fun o => by unfold World.frozen?; simp only [hb]
  exact ⟨Nat.lt_of_lt_of_le h.lt hg.size, (hc 0).trans h.c0, (hc 1).trans h.c1, (hc 2).trans h.c2, fun o => (hf o).trans (h.fz o)⟩
theorem MBox.new_ (w : World) (r c : Int) (v : Value) (t : TypeId) {b : Nat} (hb : w.heap.size = b) : MBox (w.alloc (.cells #[.int .i64 r, .int .i64 c, v] t)) b r c v := by
  subst hb; exact MBox.mk_ _ _ _ _ _
theorem Own.new_ (w : World) {B b : Nat} (hb : w.heap.size = b) (hB : B ≤ b) : Own (w.alloc (.cells #[] 3)) B (.slice (some ⟨b, 0, none⟩) 0 0) [] := by
  subst hb; exact Own.mk_empty w B hB
theorem MBox.put2 {w : World} {b : Nat} {r c : Int} {v : Value} (h : MBox w b r c v) (v' : Value) : MBox (w.setCell ⟨b, 2, none⟩ v') b r c v' := by
  obtain ⟨h0, h1, h2⟩ := h.cells
  have hl := h.lt
  have hf := h.fz
  exact ⟨by simp; exact hl, by simp [go_sem, h0], by simp [go_sem, h1], by simp [go_sem, h2], fun o => by simp [go_sem, hf]⟩

theorem cells4 {w : World} {b : Nat} {r c : Int} {v u : Value} {a : Addr} (h : MBox w b r c v) (h2 : w.cell? a = some u) :
    w.cell? ⟨b, 0, none⟩ = some (.int .i64 r) ∧ w.cell? ⟨b, 1, none⟩ = some (.int .i64 c) ∧ w.cell? ⟨b, 2, none⟩ = some v ∧ w.cell? a = some u := ⟨h.c0, h.c1, h.c2, h2⟩
theorem crs_keep4 {w w' : World} {B b b2 o : Nat} {r c : Int} {v x u : Value} {a : Addr} (mb : MBox w b r c v) (hc : w.cell? ⟨b2, o, none⟩ = some x) (k : Below B w w') (h1 : b < B) (h2 : b2 < B) (h3 : w'.cell? a = some u) :
    w'.cell? ⟨b, 1, none⟩ = some (.int .i64 c) ∧ w'.cell? ⟨b, 2, none⟩ = some v ∧ w'.cell? ⟨b2, o, none⟩ = some x ∧ w'.cell? a = some u :=
  ⟨(k.cell (p := ⟨b, 1, none⟩) h1).trans mb.c1, (k.cell (p := ⟨b, 2, none⟩) h1).trans mb.c2, (k.cell (p := ⟨b2, o, none⟩) h2).trans hc, h3⟩
theorem crs_keep {w w' : World} {B b b2 o : Nat} {r c : Int} {v x : Value} (mb : MBox w b r c v) (hc : w.cell? ⟨b2, o, none⟩ = some x) (k : Below B w w') (h1 : b < B) (h2 : b2 < B) :
    w'.cell? ⟨b, 1, none⟩ = some (.int .i64 c) ∧ w'.cell? ⟨b, 2, none⟩ = some v ∧ w'.cell? ⟨b2, o, none⟩ = some x :=
  ⟨(k.cell (p := ⟨b, 1, none⟩) h1).trans mb.c1, (k.cell (p := ⟨b, 2, none⟩) h1).trans mb.c2, (k.cell (p := ⟨b2, o, none⟩) h2).trans hc⟩

section
set_option maxHeartbeats 1000000
theorem iCross_c (R C : Nat) (A : Option Addr) (l : List Int) (n cap : Nat) (row col : Int) (ri ci : Nat) (w : World) (hn : l.length = n) (hrow : row = ri) (hcol : col = ci) (hlen : n = R * C) (hR : R ≤ 24) (hC : C ≤ 24) (ha : Rd w A l) :
    Calls Try.prog 130 #[.agg #[.int .i64 R, .int .i64 C, .slice A n cap], .int .i64 row, .int .i64 col] w fun e w' =>
      ∃ v, e = .returned (.agg #[.int .i64 ((R : Int) - 1), .int .i64 ((C : Int) - 1), v]) ∧ Own w' w.heap.size v (crs C l ri ci (R * C)) ∧ Grows w w' := by
  subst hrow
  subst hcol
  have HN := Lib.hid hn
  have HL := Lib.hid hlen
  have hRC : R * C ≤ 576 := Nat.mul_le_mul hR hC
  clear hn hlen
  obtain ⟨w1, hw1⟩ : ∃ w1, w1 = (w.alloc (.cells #[.int .i64 R, .int .i64 C, .slice A n cap] 26)).alloc (.cells #[.int .i64 0, .int .i64 0, .slice none 0 0] 26) := ⟨_, rfl⟩
  have mb1 : MBox w1 w.heap.size R C (.slice A n cap) := by rw [hw1]; exact (MBox.mk_ _ _ _ _ _).alloc _
  have mr1 : MBox w1 (w.heap.size + 1) 0 0 (.slice none 0 0) := by rw [hw1]; simpa using MBox.mk_ (w.alloc (.cells #[.int .i64 R, .int .i64 C, .slice A n cap] 26)) 0 0 (.slice none 0 0) 26
  have hs1 : w1.heap.size = w.heap.size + 2 := by rw [hw1]; simp
  have hg01 : Grows w w1 := by rw [hw1]; ((repeat' (first | with_reducible exact Below.refl _ _ | with_reducible assumption | (with_reducible refine Below.setCell ?_ ?_ _) | (with_reducible refine Below.alloc ?_ ?_ _) | (with_reducible refine Below.drew ?_) | (with_reducible refine below_drewN ?_ _))); all_goals (first | omega | (simp; done) | (simp; omega) | (simp [*]; done) | (simp at *; omega)))
  have ha1 : Rd w1 A l := ha.grows hg01
  have HS1 := Lib.hid hs1
  have HW1 := Lib.hid hw1
  clear hs1 hw1
  go_enter Try.func130, Try.ntmps130
  go_wp2_with fail
  go_loopw [8] (fun i wr => ∃ (I : Nat) (v : Value), i = .int .i64 I ∧ I ≤ R ∧ Grows w1 wr ∧ MBox wr (w.heap.size + 1 + 1 + 1) ((R : Int) - 1) ((C : Int) - 1) v ∧ Own wr (w.heap.size + 2) v (crs C l ri ci (I * C)) ∧ (∀ g, v.ownBlock = some g → g ≠ w.heap.size + 3)) (fun i _ => R - (intOf i).toNat)
  case atStart => exact ⟨0, _, rfl, Nat.zero_le _, by rw [HW1.out]; ((repeat' (first | with_reducible exact Below.refl _ _ | with_reducible assumption | (with_reducible refine Below.setCell ?_ ?_ _) | (with_reducible refine Below.alloc ?_ ?_ _) | (with_reducible refine Below.drew ?_) | (with_reducible refine below_drewN ?_ _))); all_goals (first | omega | (simp; done) | (simp; omega) | (simp [*]; done) | (simp at *; omega))), MBox.new_ _ _ _ _ _ (by simp), by rw [Nat.zero_mul]; exact (Own.new_ _ (by simp) (by omega)).alloc _, by intro g hg; simp [Value.ownBlock] at hg; omega⟩
  case round =>
    obtain ⟨I, v, rfl, hI, hg, mo, ho, hv⟩ := hrel
    by_cases hlt : I < R
    · have mb := mb1.grows hg
      obtain ⟨b0, b1, b2⟩ := mb.cells
      go_wp2_with fail
      clear b0 b1 b2 mb
      obtain ⟨wo, rfl⟩ : ∃ wo : World, wo = wr := ⟨_, rfl⟩
      go_loopw [9] (fun j w2 => ∃ (J : Nat) (v : Value), j = .int .i64 J ∧ J ≤ C ∧ Grows w1 w2 ∧ MBox w2 (w.heap.size + 1 + 1 + 1) ((R : Int) - 1) ((C : Int) - 1) v ∧ Own w2 (w.heap.size + 2) v (crs C l ri ci (I * C + J)) ∧ (∀ g, v.ownBlock = some g → g ≠ w.heap.size + 3)) (fun j _ => C - (intOf j).toNat)
      case atStart => exact ⟨0, v, rfl, Nat.zero_le _, hg, mo, ho, hv⟩
      case round =>
        clear hg mo ho hv v
        obtain ⟨J, v, rfl, hJ, hg, mo, ho, hv⟩ := hrel
        have mb := mb1.grows hg
        by_cases hlt2 : J < C
        · by_cases hc : I ≠ ri ∧ J ≠ ci
          · obtain ⟨h1, h2⟩ := hc
            have HC := Lib.hid (crs_take (l := l) hlt2 h1 h2)
            have e1 : ((I : Int) != (ri : Int)) = true := by rw [bne_iff_ne]; omega
            have e2 : ((J : Int) != (ci : Int)) = true := by rw [bne_iff_ne]; omega
            have hd := ha1.grows hg
            have k1 := castMul I C
            have k2 : (I : Int) * (C : Int) ≤ ((1048576 : Nat) : Int) := castMulLe (by have := Nat.mul_le_mul hI hC; omega)
            have k3 := castPos I C J
            have k4 : (I : Int) * (C : Int) + (J : Int) < (l.length : Int) := castLt (by rw [HN.out, HL.out]; exact idx_lt hlt hlt2)
            have hl5 : l.length ≤ 1048576 := by rw [HN.out, HL.out]; omega
            have C1 := Lib.hid fun W (hrd : Rd W A l) => at_c R C A l n cap I J W HN.out hrd (by omega) (by omega) (by omega) (by omega) (by omega)
            have hcl : (crs C l ri ci (I * C + J)).length + 1 ≤ 1099511627776 := by have := crs_length C l ri ci (I * C + J); have := idx_lt hlt hlt2; omega
            obtain ⟨b0, b1, b2⟩ := mb.cells
            go_wp2_with fail
            clear h1 h2 k1 k2 k3 k4
            have mol := mo.lt
            obtain ⟨y0, y1, y2⟩ := mo.cells
            (refine wp_region_held_last 9 (fun W => W.cell? ⟨w.heap.size, 0, none⟩ = some (.int .i64 R) ∧ W.cell? ⟨w.heap.size, 1, none⟩ = some (.int .i64 C) ∧ W.cell? ⟨w.heap.size, 2, none⟩ = some (.slice A n cap) ∧ W.cell? ⟨w.heap.size + 1 + 1 + 1, 2, none⟩ = some v) (by rfl) (by kernel_rfl) (by kernel_rfl) (by ((try dsimp only); (refine cells4 (mb.keep (B := w.heap.size + 2) (by first | (have bz0 := Below.size (hb4); (try simp at bz0); have bz1 := Below.size (g3); (try simp at bz1); (repeat' (first | with_reducible exact Below.refl _ _ | with_reducible assumption | (with_reducible refine Below.setCell ?_ ?_ _) | (with_reducible refine Below.alloc ?_ ?_ _) | (with_reducible refine Below.drew ?_) | (with_reducible refine below_drewN ?_ _) | (with_reducible refine Below.trans ?_ (Below.mono (hb4) ?_)) | (with_reducible refine Below.trans ?_ (Below.mono (g3) ?_)))); all_goals (first | omega | (simp; done) | (simp; omega) | (simp [*]; done) | (simp at *; omega))) | (have bz0 := Below.size (g3); (try simp at bz0); (repeat' (first | with_reducible exact Below.refl _ _ | with_reducible assumption | (with_reducible refine Below.setCell ?_ ?_ _) | (with_reducible refine Below.alloc ?_ ?_ _) | (with_reducible refine Below.drew ?_) | (with_reducible refine below_drewN ?_ _) | (with_reducible refine Below.trans ?_ (Below.mono (g3) ?_)))); all_goals (first | omega | (simp; done) | (simp; omega) | (simp [*]; done) | (simp at *; omega))) | ((repeat' (first | with_reducible exact Below.refl _ _ | with_reducible assumption | (with_reducible refine Below.setCell ?_ ?_ _) | (with_reducible refine Below.alloc ?_ ?_ _) | (with_reducible refine Below.drew ?_) | (with_reducible refine below_drewN ?_ _))); all_goals (first | omega | (simp; done) | (simp; omega) | (simp [*]; done) | (simp at *; omega)))) (by omega)) (by first | exact mo.c2 | exact (mo.alloc _).c2 | exact (mo.grows (by ((repeat' (first | with_reducible exact Below.refl _ _ | with_reducible assumption | (with_reducible refine Below.setCell ?_ ?_ _) | (with_reducible refine Below.alloc ?_ ?_ _) | (with_reducible refine Below.drew ?_) | (with_reducible refine below_drewN ?_ _))); all_goals (first | omega | (simp; done) | (simp; omega) | (simp [*]; done) | (simp at *; omega))))).c2)))) (fun hHeld => ?_); simp only [List.take_succ_cons, List.take_zero]; refine heldL_take (i := 0) (v := _) (by rfl) (by kernel_rfl) (by kernel_rfl) (by kernel_rfl) (fun _ _ _ h => h) (Or.inl ⟨by rfl, fun wS hSw => by ((try dsimp only at hSw); go_simp; (try with_reducible rfl))⟩) (by assumption) ?_; simp only [Act.put, List.setIfInBounds_toArray, List.set_cons_zero, List.set_cons_succ]; refine heldL_take (i := 1) (v := _) (by rfl) (by kernel_rfl) (by kernel_rfl) (by kernel_rfl) (fun _ _ _ h => h) (Or.inl ⟨by rfl, fun wS hSw => by ((try dsimp only at hSw); go_simp; (try with_reducible rfl))⟩) (by assumption) ?_; simp only [Act.put, List.setIfInBounds_toArray, List.set_cons_zero, List.set_cons_succ]; refine heldL_take (i := 2) (v := _) (by rfl) (by kernel_rfl) (by kernel_rfl) (by kernel_rfl) (fun _ _ _ h => h) (Or.inl ⟨by rfl, fun wS hSw => by ((try dsimp only at hSw); go_simp; (try with_reducible rfl))⟩) (by assumption) ?_; simp only [Act.put, List.setIfInBounds_toArray, List.set_cons_zero, List.set_cons_succ]; refine heldL_take (i := 3) (v := _) (by rfl) (by kernel_rfl) (by kernel_rfl) (by kernel_rfl) (fun _ _ _ h => h) (Or.inl ⟨by rfl, fun wS hSw => by ((try dsimp only at hSw); go_simp; (try with_reducible rfl))⟩) (by assumption) ?_; simp only [Act.put, List.setIfInBounds_toArray, List.set_cons_zero, List.set_cons_succ]; refine heldL_take (i := 4) (v := _) (by rfl) (by kernel_rfl) (by kernel_rfl) (by kernel_rfl) (fun _ _ _ h => h) (Or.inl ⟨by rfl, fun wS hSw => by ((try dsimp only at hSw); go_simp; (try with_reducible rfl))⟩) (by assumption) ?_; simp only [Act.put, List.setIfInBounds_toArray, List.set_cons_zero, List.set_cons_succ]; refine heldL_step (i := 5) (by kernel_rfl) (by rfl) (fun K hK => ?_); go_simp; (go_at_call 78; refine (C1.out _ (by exact (Rd.grows hd (by ((repeat' (first | with_reducible exact Below.refl _ _ | with_reducible assumption | (with_reducible refine Below.setCell ?_ ?_ _) | (with_reducible refine Below.alloc ?_ ?_ _) | (with_reducible refine Below.drew ?_) | (with_reducible refine below_drewN ?_ _))); all_goals (first | omega | (simp; done) | (simp; omega) | (simp [*]; done) | (simp at *; omega))))))).mono ?_; rintro e w3 ⟨rfl, g3⟩; have ho3 := ho.grows (w' := w3) (by (have bz0 := Below.size (g3); (try simp at bz0); (repeat' (first | with_reducible exact Below.refl _ _ | with_reducible assumption | (with_reducible refine Below.setCell ?_ ?_ _) | (with_reducible refine Below.alloc ?_ ?_ _) | (with_reducible refine Below.drew ?_) | (with_reducible refine below_drewN ?_ _) | (with_reducible refine Below.trans ?_ (Below.mono (g3) ?_)))); all_goals (first | omega | (simp; done) | (simp; omega) | (simp [*]; done) | (simp at *; omega)))); replace mo := mo.grows (w' := w3) (by (have bz0 := Below.size (g3); (try simp at bz0); (repeat' (first | with_reducible exact Below.refl _ _ | with_reducible assumption | (with_reducible refine Below.setCell ?_ ?_ _) | (with_reducible refine Below.alloc ?_ ?_ _) | (with_reducible refine Below.drew ?_) | (with_reducible refine below_drewN ?_ _) | (with_reducible refine Below.trans ?_ (Below.mono (g3) ?_)))); all_goals (first | omega | (simp; done) | (simp; omega) | (simp [*]; done) | (simp at *; omega)))); clear y0 y1 y2; obtain ⟨y0, y1, y2⟩ := mo.cells; have hz3 : w.heap.size + 1 + 1 + 1 < w3.heap.size := mo.lt) ; (try (go_wp2_with fail)); refine hK.out _ _ (by ((try dsimp only); (refine cells4 (mb.keep (B := w.heap.size + 2) (by first | (have bz0 := Below.size (hb4); (try simp at bz0); have bz1 := Below.size (g3); (try simp at bz1); (repeat' (first | with_reducible exact Below.refl _ _ | with_reducible assumption | (with_reducible refine Below.setCell ?_ ?_ _) | (with_reducible refine Below.alloc ?_ ?_ _) | (with_reducible refine Below.drew ?_) | (with_reducible refine below_drewN ?_ _) | (with_reducible refine Below.trans ?_ (Below.mono (hb4) ?_)) | (with_reducible refine Below.trans ?_ (Below.mono (g3) ?_)))); all_goals (first | omega | (simp; done) | (simp; omega) | (simp [*]; done) | (simp at *; omega))) | (have bz0 := Below.size (g3); (try simp at bz0); (repeat' (first | with_reducible exact Below.refl _ _ | with_reducible assumption | (with_reducible refine Below.setCell ?_ ?_ _) | (with_reducible refine Below.alloc ?_ ?_ _) | (with_reducible refine Below.drew ?_) | (with_reducible refine below_drewN ?_ _) | (with_reducible refine Below.trans ?_ (Below.mono (g3) ?_)))); all_goals (first | omega | (simp; done) | (simp; omega) | (simp [*]; done) | (simp at *; omega))) | ((repeat' (first | with_reducible exact Below.refl _ _ | with_reducible assumption | (with_reducible refine Below.setCell ?_ ?_ _) | (with_reducible refine Below.alloc ?_ ?_ _) | (with_reducible refine Below.drew ?_) | (with_reducible refine below_drewN ?_ _))); all_goals (first | omega | (simp; done) | (simp; omega) | (simp [*]; done) | (simp at *; omega)))) (by omega)) (by first | exact mo.c2 | exact (mo.alloc _).c2 | exact (mo.grows (by ((repeat' (first | with_reducible exact Below.refl _ _ | with_reducible assumption | (with_reducible refine Below.setCell ?_ ?_ _) | (with_reducible refine Below.alloc ?_ ?_ _) | (with_reducible refine Below.drew ?_) | (with_reducible refine below_drewN ?_ _))); all_goals (first | omega | (simp; done) | (simp; omega) | (simp [*]; done) | (simp at *; omega))))).c2)))) (fun hHeld => ?_); clear hK K; (try simp only [Act.put, List.setIfInBounds_toArray, List.set_cons_zero, List.set_cons_succ]); refine heldL_step (i := 6) (by kernel_rfl) (by rfl) (fun K hK => ?_); go_simp; refine hK.out _ _ (by ((try dsimp only); (refine cells4 (mb.keep (B := w.heap.size + 2) (by first | (have bz0 := Below.size (hb4); (try simp at bz0); have bz1 := Below.size (g3); (try simp at bz1); (repeat' (first | with_reducible exact Below.refl _ _ | with_reducible assumption | (with_reducible refine Below.setCell ?_ ?_ _) | (with_reducible refine Below.alloc ?_ ?_ _) | (with_reducible refine Below.drew ?_) | (with_reducible refine below_drewN ?_ _) | (with_reducible refine Below.trans ?_ (Below.mono (hb4) ?_)) | (with_reducible refine Below.trans ?_ (Below.mono (g3) ?_)))); all_goals (first | omega | (simp; done) | (simp; omega) | (simp [*]; done) | (simp at *; omega))) | (have bz0 := Below.size (g3); (try simp at bz0); (repeat' (first | with_reducible exact Below.refl _ _ | with_reducible assumption | (with_reducible refine Below.setCell ?_ ?_ _) | (with_reducible refine Below.alloc ?_ ?_ _) | (with_reducible refine Below.drew ?_) | (with_reducible refine below_drewN ?_ _) | (with_reducible refine Below.trans ?_ (Below.mono (g3) ?_)))); all_goals (first | omega | (simp; done) | (simp; omega) | (simp [*]; done) | (simp at *; omega))) | ((repeat' (first | with_reducible exact Below.refl _ _ | with_reducible assumption | (with_reducible refine Below.setCell ?_ ?_ _) | (with_reducible refine Below.alloc ?_ ?_ _) | (with_reducible refine Below.drew ?_) | (with_reducible refine below_drewN ?_ _))); all_goals (first | omega | (simp; done) | (simp; omega) | (simp [*]; done) | (simp at *; omega)))) (by omega)) (by first | exact mo.c2 | exact (mo.alloc _).c2 | exact (mo.grows (by ((repeat' (first | with_reducible exact Below.refl _ _ | with_reducible assumption | (with_reducible refine Below.setCell ?_ ?_ _) | (with_reducible refine Below.alloc ?_ ?_ _) | (with_reducible refine Below.drew ?_) | (with_reducible refine below_drewN ?_ _))); all_goals (first | omega | (simp; done) | (simp; omega) | (simp [*]; done) | (simp at *; omega))))).c2)))) (fun hHeld => ?_); clear hK K; (try simp only [Act.put, List.setIfInBounds_toArray, List.set_cons_zero, List.set_cons_succ]); refine heldL_step (i := 7) (by kernel_rfl) (by rfl) (fun K hK => ?_); (refine step_app1 rfl (.tmp 39) (.tmp 44) rfl w3 _ (w.heap.size + 2) v (crs C l ri ci (I * C + J)) (by rfl) ho3 (by rfl) hcl (by omega) ?_; intro v' w4 ho4 hg4 hv4; rw [castIdx] at ho4; have hb4 : Below (w.heap.size + 2) w3 w4 := below_app ho3 (by omega) hg4; obtain ⟨A4, c4, rfl, _, _⟩ := ho4.val; replace mo := mo.own hg4 hv; clear y0 y1 y2; obtain ⟨y0, y1, y2⟩ := mo.cells; have yf := mo.fz) ; refine hK.out _ _ (by ((try dsimp only); (refine cells4 (mb.keep (B := w.heap.size + 2) (by first | (have bz0 := Below.size (hb4); (try simp at bz0); have bz1 := Below.size (g3); (try simp at bz1); (repeat' (first | with_reducible exact Below.refl _ _ | with_reducible assumption | (with_reducible refine Below.setCell ?_ ?_ _) | (with_reducible refine Below.alloc ?_ ?_ _) | (with_reducible refine Below.drew ?_) | (with_reducible refine below_drewN ?_ _) | (with_reducible refine Below.trans ?_ (Below.mono (hb4) ?_)) | (with_reducible refine Below.trans ?_ (Below.mono (g3) ?_)))); all_goals (first | omega | (simp; done) | (simp; omega) | (simp [*]; done) | (simp at *; omega))) | (have bz0 := Below.size (g3); (try simp at bz0); (repeat' (first | with_reducible exact Below.refl _ _ | with_reducible assumption | (with_reducible refine Below.setCell ?_ ?_ _) | (with_reducible refine Below.alloc ?_ ?_ _) | (with_reducible refine Below.drew ?_) | (with_reducible refine below_drewN ?_ _) | (with_reducible refine Below.trans ?_ (Below.mono (g3) ?_)))); all_goals (first | omega | (simp; done) | (simp; omega) | (simp [*]; done) | (simp at *; omega))) | ((repeat' (first | with_reducible exact Below.refl _ _ | with_reducible assumption | (with_reducible refine Below.setCell ?_ ?_ _) | (with_reducible refine Below.alloc ?_ ?_ _) | (with_reducible refine Below.drew ?_) | (with_reducible refine below_drewN ?_ _))); all_goals (first | omega | (simp; done) | (simp; omega) | (simp [*]; done) | (simp at *; omega)))) (by omega)) (by first | exact mo.c2 | exact (mo.alloc _).c2 | exact (mo.grows (by ((repeat' (first | with_reducible exact Below.refl _ _ | with_reducible assumption | (with_reducible refine Below.setCell ?_ ?_ _) | (with_reducible refine Below.alloc ?_ ?_ _) | (with_reducible refine Below.drew ?_) | (with_reducible refine below_drewN ?_ _))); all_goals (first | omega | (simp; done) | (simp; omega) | (simp [*]; done) | (simp at *; omega))))).c2)))) (fun hHeld => ?_); clear hK K; (try simp only [Act.put, List.setIfInBounds_toArray, List.set_cons_zero, List.set_cons_succ]); refine heldL_take (i := 8) (v := _) (by rfl) (by kernel_rfl) (by kernel_rfl) (by kernel_rfl) (fun _ _ _ h => h) (Or.inl ⟨by rfl, fun wS hSw => by ((try dsimp only at hSw); go_simp; (try with_reducible rfl))⟩) (by assumption) ?_; simp only [Act.put, List.setIfInBounds_toArray, List.set_cons_zero, List.set_cons_succ]; refine wpAnyH_done (by kernel_rfl) ?_ _; refine lastQ_go ?_)
            all_goals
              go_wp2_with fail
              go_round
              case rel =>
                have hne4 : ∀ g, (Value.slice A4 (crs C l ri ci (I * C + J) ++ [nth l (I * C + J)]).length c4).ownBlock = some g → g ≠ w.heap.size + 1 + 1 + 1 := by
                  intro g hg'
                  rcases hv4 with h | ⟨g', h, h'⟩
                  · exact hv g (by rw [← h]; exact hg')
                  · rw [h] at hg'; cases hg'; have hdr : wr.drew.heap.size = wr.heap.size := rfl; omega
                have ho5 := ho4.far (p := ⟨w.heap.size + 1 + 1 + 1, 2, none⟩) hne4 (.slice A4 (crs C l ri ci (I * C + J) ++ [nth l (I * C + J)]).length c4)
                have hs1 := HS1.out
                rw [← HC.out] at ho5 hne4
                exact ⟨J + 1, _, by go_num, by omega, by (have bz0 := Below.size (hb4); (try simp at bz0); have bz1 := Below.size (g3); (try simp at bz1); have bz2 := Below.size (hg); (try simp at bz2); (repeat' (first | with_reducible exact Below.refl _ _ | with_reducible assumption | (with_reducible refine Below.setCell ?_ ?_ _) | (with_reducible refine Below.alloc ?_ ?_ _) | (with_reducible refine Below.drew ?_) | (with_reducible refine below_drewN ?_ _) | (with_reducible refine Below.trans ?_ (Below.mono (hb4) ?_)) | (with_reducible refine Below.trans ?_ (Below.mono (g3) ?_)) | (with_reducible refine Below.trans ?_ (Below.mono (hg) ?_)))); all_goals (first | omega | (simp; done) | (simp; omega) | (simp [*]; done) | (simp at *; omega))), by simpa using mo.put2 _, by simpa [HC.out] using ho5, by simpa [HC.out] using hne4⟩
              case measure => simp [intOf]; omega
          · have HC := Lib.hid (crs_skip (l := l) hlt2 (show I = ri ∨ J = ci by omega))
            obtain ⟨b0, b1, b2⟩ := mb.cells
            by_cases h1 : I = ri
            · have e1 : ((I : Int) != (ri : Int)) = false := by rw [bne_eq_false_iff_eq]; omega
              clear h1 hc
              go_wp2_with fail
              go_round
              case rel => exact ⟨J + 1, v, by go_num, by omega, hg, mo, by rw [HC.out]; exact ho, hv⟩
              case measure => simp [intOf]; omega
            · have e1 : ((I : Int) != (ri : Int)) = true := by rw [bne_iff_ne]; omega
              have e2 : ((J : Int) != (ci : Int)) = false := by rw [bne_eq_false_iff_eq]; omega
              clear h1 hc
              go_wp2_with fail
              go_round
              case rel => exact ⟨J + 1, v, by go_num, by omega, hg, mo, by rw [HC.out]; exact ho, hv⟩
              case measure => simp [intOf]; omega
        · obtain rfl : J = C := by omega
          obtain ⟨b0, b1, b2⟩ := mb.cells
          go_wp2_with fail
          go_round
          case rel => exact ⟨I + 1, v, by go_num, by omega, hg, mo, by rw [Nat.add_mul, Nat.one_mul]; exact ho, hv⟩
          case measure => simp [intOf]; omega
    · obtain rfl : I = R := by omega
      have mb := mb1.grows hg
      have mr := mr1.grows hg
      obtain ⟨b0, b1, b2⟩ := mb.cells
      obtain ⟨c0, c1, c2⟩ := mo.cells
      obtain ⟨d0, d1, d2⟩ := mr.cells
      have df := mr.fz
      have dl := mr.lt
      obtain ⟨A4, c4, rfl, _, _⟩ := ho.val
      go_wp2_with fail
      refine bodyPost_ret (v := .agg #[.int .i64 ((I : Int) - 1), .int .i64 ((C : Int) - 1), .slice A4 (crs C l ri ci (I * C)).length c4]) ?_ rfl ?_
      · simp [results, Try.results130, go_sem, d0, d1, d2, df]
      · have hs1 := HS1.out
        exact ⟨_, rfl, by (refine Own.less (B := ?OB) ?_ ?_; (repeat' (first | with_reducible exact ho | with_reducible refine Own.alloc ?_ _ | with_reducible refine Own.drew ?_ | with_reducible refine Own.low ?_ ?_ _)); all_goals (first | omega | (simp; done) | (simp; omega) | (simp [*]; done) | (simp at *; omega))), by (have bz0 := Below.size (hg); (try simp at bz0); have bz1 := Below.size (hg01); (try simp at bz1); (repeat' (first | with_reducible exact Below.refl _ _ | with_reducible assumption | (with_reducible refine Below.setCell ?_ ?_ _) | (with_reducible refine Below.alloc ?_ ?_ _) | (with_reducible refine Below.drew ?_) | (with_reducible refine below_drewN ?_ _) | (with_reducible refine Below.trans ?_ (Below.mono (hg) ?_)) | (with_reducible refine Below.trans ?_ (Below.mono (hg01) ?_)))); all_goals (first | omega | (simp; done) | (simp; omega) | (simp [*]; done) | (simp at *; omega)))⟩

theorem sCross_c (R C : Nat) (A : Option Addr) (l : List Int) (n cap : Nat) (row col : Int) (ri ci : Nat) (w : World) (hn : l.length = n) (hrow : row = ri) (hcol : col = ci) (hlen : n = R * C) (hR : R ≤ 24) (hC : C ≤ 24) (ha : Rd w A l) :
    Calls Try.prog 128 #[.agg #[.int .i64 R, .int .i64 C, .slice A n cap], .int .i64 row, .int .i64 col] w fun e w' =>
      ∃ v, e = .returned (.agg #[.int .i64 ((R : Int) - 1), .int .i64 ((C : Int) - 1), v]) ∧ Own w' w.heap.size v (crs C l ri ci (R * C)) ∧ Grows w w' := by
  subst hrow
  subst hcol
  have HN := Lib.hid hn
  have HL := Lib.hid hlen
  have hRC : R * C ≤ 576 := Nat.mul_le_mul hR hC
  clear hn hlen
  obtain ⟨w1, hw1⟩ : ∃ w1, w1 = (w.alloc (.cells #[.int .i64 R, .int .i64 C, .slice A n cap] 26)).alloc (.cells #[.int .i64 0, .int .i64 0, .slice none 0 0] 26) := ⟨_, rfl⟩
  have mb1 : MBox w1 w.heap.size R C (.slice A n cap) := by rw [hw1]; exact (MBox.mk_ _ _ _ _ _).alloc _
  have mr1 : MBox w1 (w.heap.size + 1) 0 0 (.slice none 0 0) := by rw [hw1]; simpa using MBox.mk_ (w.alloc (.cells #[.int .i64 R, .int .i64 C, .slice A n cap] 26)) 0 0 (.slice none 0 0) 26
  have hs1 : w1.heap.size = w.heap.size + 2 := by rw [hw1]; simp
  have hg01 : Grows w w1 := by rw [hw1]; ((repeat' (first | with_reducible exact Below.refl _ _ | with_reducible assumption | (with_reducible refine Below.setCell ?_ ?_ _) | (with_reducible refine Below.alloc ?_ ?_ _) | (with_reducible refine Below.drew ?_) | (with_reducible refine below_drewN ?_ _))); all_goals (first | omega | (simp; done) | (simp; omega) | (simp [*]; done) | (simp at *; omega)))
  have ha1 : Rd w1 A l := ha.grows hg01
  have HS1 := Lib.hid hs1
  have HW1 := Lib.hid hw1
  clear hs1 hw1
  go_enter Try.func128, Try.ntmps128
  go_wp2_with fail
  go_loopw [8] (fun i wr => ∃ (I : Nat) (v : Value), i = .int .i64 I ∧ I ≤ R ∧ Grows w1 wr ∧ MBox wr (w.heap.size + 1 + 1) ((R : Int) - 1) ((C : Int) - 1) v ∧ Own wr (w.heap.size + 2) v (crs C l ri ci (I * C)) ∧ (∀ g, v.ownBlock = some g → g ≠ w.heap.size + 1 + 1)) (fun i _ => R - (intOf i).toNat)
  case atStart => exact ⟨0, _, rfl, Nat.zero_le _, by rw [HW1.out]; ((repeat' (first | with_reducible exact Below.refl _ _ | with_reducible assumption | (with_reducible refine Below.setCell ?_ ?_ _) | (with_reducible refine Below.alloc ?_ ?_ _) | (with_reducible refine Below.drew ?_) | (with_reducible refine below_drewN ?_ _))); all_goals (first | omega | (simp; done) | (simp; omega) | (simp [*]; done) | (simp at *; omega))), MBox.new_ _ _ _ _ _ (by simp), by rw [Nat.zero_mul]; exact Own.nil _ _, by intro g hg; simp [Value.ownBlock] at hg⟩
  case round =>
    obtain ⟨I, v, rfl, hI, hg, mo, ho, hv⟩ := hrel
    by_cases hlt : I < R
    · have mb := mb1.grows hg
      obtain ⟨b0, b1, b2⟩ := mb.cells
      go_wp2_with fail
      clear b0 b1 b2 mb
      obtain ⟨wo, rfl⟩ : ∃ wo : World, wo = wr := ⟨_, rfl⟩
      go_loopw [9] (fun j w2 => ∃ (J : Nat) (v : Value), j = .int .i64 J ∧ J ≤ C ∧ Grows w1 w2 ∧ MBox w2 (w.heap.size + 1 + 1) ((R : Int) - 1) ((C : Int) - 1) v ∧ Own w2 (w.heap.size + 2) v (crs C l ri ci (I * C + J)) ∧ (∀ g, v.ownBlock = some g → g ≠ w.heap.size + 1 + 1)) (fun j _ => C - (intOf j).toNat)
      case atStart => exact ⟨0, v, rfl, Nat.zero_le _, hg, mo, ho, hv⟩
      case round =>
        clear hg mo ho hv v
        obtain ⟨J, v, rfl, hJ, hg, mo, ho, hv⟩ := hrel
        have mb := mb1.grows hg
        by_cases hlt2 : J < C
        · by_cases hc : I ≠ ri ∧ J ≠ ci
          · obtain ⟨h1, h2⟩ := hc
            have HC := Lib.hid (crs_take (l := l) hlt2 h1 h2)
            have e1 : ((I : Int) != (ri : Int)) = true := by rw [bne_iff_ne]; omega
            have e2 : ((J : Int) != (ci : Int)) = true := by rw [bne_iff_ne]; omega
            have hd := ha1.grows hg
            have k1 := castMul I C
            have k2 : (I : Int) * (C : Int) ≤ ((1048576 : Nat) : Int) := castMulLe (by have := Nat.mul_le_mul hI hC; omega)
            have k3 := castPos I C J
            have k4 : (I : Int) * (C : Int) + (J : Int) < (l.length : Int) := castLt (by rw [HN.out, HL.out]; exact idx_lt hlt hlt2)
            have hl5 : l.length ≤ 1048576 := by rw [HN.out, HL.out]; omega
            have hcl : (crs C l ri ci (I * C + J)).length + 1 ≤ 1099511627776 := by have := crs_length C l ri ci (I * C + J); have := idx_lt hlt hlt2; omega
            have hb3 : w.heap.size + 1 + 1 < wr.heap.size := mo.lt
            obtain ⟨b0, b1, b2⟩ := mb.cells
            obtain ⟨y0, y1, y2⟩ := mo.cells
            obtain ⟨b, off, rfl, hbs, hce⟩ := ha.at_ (I * C + J) (by rw [HN.out, HL.out]; exact idx_lt hlt hlt2)
            have hcell := ((ha.grows (Grows.trans hg01 hg)) (I * C + J) (by rw [HN.out, HL.out]; exact idx_lt hlt hlt2))
            obtain ⟨b', off', e', hbs', hc'⟩ := hcell
            simp only [Option.some.injEq, Addr.mk.injEq, and_true] at e'
            obtain ⟨rfl, rfl⟩ := e'
            have hlI : (l.length : Int) = (n : Int) := by rw [HN.out]
            rw [hlI] at k4
            clear hlI
            have q1 : ((I : Int) * (C : Int) + (J : Int)).toNat = I * C + J := castIdx I C J
            have q2 : IntKind.i64.wrap ((I : Int) * (C : Int)) = (I : Int) * (C : Int) := IntWalk.i64_in _ (by omega)
            have q3 : IntKind.i64.wrap ((I : Int) * (C : Int) + (J : Int)) = (I : Int) * (C : Int) + (J : Int) := IntWalk.i64_in _ (by omega)
            go_wp2_with fail
            clear h1 h2 hce
            (refine wp_region_held_last 15 (fun W => W.cell? ⟨w.heap.size, 1, none⟩ = some (.int .i64 C) ∧ W.cell? ⟨w.heap.size, 2, none⟩ = some (.slice (some ⟨b, off, none⟩) n cap) ∧ W.cell? ⟨b, off + (I * C + J), none⟩ = some (.int .i64 (nth l (I * C + J))) ∧ W.cell? ⟨w.heap.size + 1 + 1, 2, none⟩ = some v) (by rfl) (by kernel_rfl) (by kernel_rfl) (by ((try dsimp only); (refine crs_keep4 mb hc' (B := w.heap.size + 2) (by first | (have bz0 := Below.size (hb4); (try simp at bz0); (repeat' (first | with_reducible exact Below.refl _ _ | with_reducible assumption | (with_reducible refine Below.setCell ?_ ?_ _) | (with_reducible refine Below.alloc ?_ ?_ _) | (with_reducible refine Below.drew ?_) | (with_reducible refine below_drewN ?_ _) | (with_reducible refine Below.trans ?_ (Below.mono (hb4) ?_)))); all_goals (first | omega | (simp; done) | (simp; omega) | (simp [*]; done) | (simp at *; omega))) | ((repeat' (first | with_reducible exact Below.refl _ _ | with_reducible assumption | (with_reducible refine Below.setCell ?_ ?_ _) | (with_reducible refine Below.alloc ?_ ?_ _) | (with_reducible refine Below.drew ?_) | (with_reducible refine below_drewN ?_ _))); all_goals (first | omega | (simp; done) | (simp; omega) | (simp [*]; done) | (simp at *; omega)))) (by omega) (by omega) (by first | exact mo.c2 | exact (mo.alloc _).c2 | exact (mo.grows (by ((repeat' (first | with_reducible exact Below.refl _ _ | with_reducible assumption | (with_reducible refine Below.setCell ?_ ?_ _) | (with_reducible refine Below.alloc ?_ ?_ _) | (with_reducible refine Below.drew ?_) | (with_reducible refine below_drewN ?_ _))); all_goals (first | omega | (simp; done) | (simp; omega) | (simp [*]; done) | (simp at *; omega))))).c2 | exact ((mo.grows (w' := wr.drew) (by ((repeat' (first | with_reducible exact Below.refl _ _ | with_reducible assumption | (with_reducible refine Below.setCell ?_ ?_ _) | (with_reducible refine Below.alloc ?_ ?_ _) | (with_reducible refine Below.drew ?_) | (with_reducible refine below_drewN ?_ _))); all_goals (first | omega | (simp; done) | (simp; omega) | (simp [*]; done) | (simp at *; omega))))).alloc _).c2)))) (fun hHeld => ?_); simp only [List.take_succ_cons, List.take_zero]; refine heldL_take (i := 0) (v := _) (by rfl) (by kernel_rfl) (by kernel_rfl) (by kernel_rfl) (fun _ _ _ h => h) (Or.inl ⟨by rfl, fun wS hSw => by ((try dsimp only at hSw); go_simp; (try with_reducible rfl))⟩) (by assumption) ?_; simp only [Act.put, List.setIfInBounds_toArray, List.set_cons_zero, List.set_cons_succ]; refine heldL_take (i := 1) (v := _) (by rfl) (by kernel_rfl) (by kernel_rfl) (by kernel_rfl) (fun _ _ _ h => h) (Or.inl ⟨by rfl, fun wS hSw => by ((try dsimp only at hSw); go_simp; (try with_reducible rfl))⟩) (by assumption) ?_; simp only [Act.put, List.setIfInBounds_toArray, List.set_cons_zero, List.set_cons_succ]; refine heldL_take (i := 2) (v := _) (by rfl) (by kernel_rfl) (by kernel_rfl) (by kernel_rfl) (fun _ _ _ h => h) (Or.inl ⟨by rfl, fun wS hSw => by ((try dsimp only at hSw); go_simp; (try with_reducible rfl))⟩) (by assumption) ?_; simp only [Act.put, List.setIfInBounds_toArray, List.set_cons_zero, List.set_cons_succ]; refine heldL_take (i := 3) (v := _) (by rfl) (by kernel_rfl) (by kernel_rfl) (by kernel_rfl) (fun _ _ _ h => h) (Or.inl ⟨by rfl, fun wS hSw => by ((try dsimp only at hSw); go_simp; (try with_reducible rfl))⟩) (by assumption) ?_; simp only [Act.put, List.setIfInBounds_toArray, List.set_cons_zero, List.set_cons_succ]; refine heldL_take (i := 4) (v := _) (by rfl) (by kernel_rfl) (by kernel_rfl) (by kernel_rfl) (fun _ _ _ h => h) (Or.inl ⟨by rfl, fun wS hSw => by ((try dsimp only at hSw); go_simp; (try with_reducible rfl))⟩) (by assumption) ?_; simp only [Act.put, List.setIfInBounds_toArray, List.set_cons_zero, List.set_cons_succ]; refine heldL_take (i := 5) (v := _) (by rfl) (by kernel_rfl) (by kernel_rfl) (by kernel_rfl) (fun _ _ _ h => h) (Or.inl ⟨by rfl, fun wS hSw => by ((try dsimp only at hSw); go_simp; (try with_reducible rfl))⟩) (by assumption) ?_; simp only [Act.put, List.setIfInBounds_toArray, List.set_cons_zero, List.set_cons_succ]; refine heldL_take (i := 6) (v := _) (by rfl) (by kernel_rfl) (by kernel_rfl) (by kernel_rfl) (fun _ _ _ h => h) (Or.inl ⟨by rfl, fun wS hSw => by ((try dsimp only at hSw); go_simp; (try with_reducible rfl))⟩) (by assumption) ?_; simp only [Act.put, List.setIfInBounds_toArray, List.set_cons_zero, List.set_cons_succ]; refine heldL_take (i := 7) (v := _) (by rfl) (by kernel_rfl) (by kernel_rfl) (by kernel_rfl) (fun _ _ _ h => h) (Or.inl ⟨by rfl, fun wS hSw => by ((try dsimp only at hSw); go_simp; (try with_reducible rfl))⟩) (by assumption) ?_; simp only [Act.put, List.setIfInBounds_toArray, List.set_cons_zero, List.set_cons_succ]; refine heldL_take (i := 8) (v := _) (by rfl) (by kernel_rfl) (by kernel_rfl) (by kernel_rfl) (fun _ _ _ h => h) (Or.inl ⟨by rfl, fun wS hSw => by ((try dsimp only at hSw); go_simp; (try with_reducible rfl))⟩) (by assumption) ?_; simp only [Act.put, List.setIfInBounds_toArray, List.set_cons_zero, List.set_cons_succ]; refine heldL_take (i := 9) (v := _) (by rfl) (by kernel_rfl) (by kernel_rfl) (by kernel_rfl) (fun _ _ _ h => h) (Or.inl ⟨by rfl, fun wS hSw => by ((try dsimp only at hSw); go_simp; (try with_reducible rfl))⟩) (by assumption) ?_; simp only [Act.put, List.setIfInBounds_toArray, List.set_cons_zero, List.set_cons_succ]; refine heldL_take (i := 10) (v := _) (by rfl) (by kernel_rfl) (by kernel_rfl) (by kernel_rfl) (fun _ _ _ h => h) (Or.inl ⟨by rfl, fun wS hSw => by ((try dsimp only at hSw); go_simp; (try with_reducible rfl))⟩) (by assumption) ?_; simp only [Act.put, List.setIfInBounds_toArray, List.set_cons_zero, List.set_cons_succ]; refine heldL_take (i := 11) (v := _) (by rfl) (by kernel_rfl) (by kernel_rfl) (by kernel_rfl) (fun _ _ _ h => h) (Or.inl ⟨by rfl, fun wS hSw => by ((try dsimp only at hSw); go_simp; (try with_reducible rfl))⟩) (by assumption) ?_; simp only [Act.put, List.setIfInBounds_toArray, List.set_cons_zero, List.set_cons_succ]; refine heldL_step (i := 12) (by kernel_rfl) (by rfl) (fun K hK => ?_); go_simp; refine hK.out _ _ (by ((try dsimp only); (refine crs_keep4 mb hc' (B := w.heap.size + 2) (by first | (have bz0 := Below.size (hb4); (try simp at bz0); (repeat' (first | with_reducible exact Below.refl _ _ | with_reducible assumption | (with_reducible refine Below.setCell ?_ ?_ _) | (with_reducible refine Below.alloc ?_ ?_ _) | (with_reducible refine Below.drew ?_) | (with_reducible refine below_drewN ?_ _) | (with_reducible refine Below.trans ?_ (Below.mono (hb4) ?_)))); all_goals (first | omega | (simp; done) | (simp; omega) | (simp [*]; done) | (simp at *; omega))) | ((repeat' (first | with_reducible exact Below.refl _ _ | with_reducible assumption | (with_reducible refine Below.setCell ?_ ?_ _) | (with_reducible refine Below.alloc ?_ ?_ _) | (with_reducible refine Below.drew ?_) | (with_reducible refine below_drewN ?_ _))); all_goals (first | omega | (simp; done) | (simp; omega) | (simp [*]; done) | (simp at *; omega)))) (by omega) (by omega) (by first | exact mo.c2 | exact (mo.alloc _).c2 | exact (mo.grows (by ((repeat' (first | with_reducible exact Below.refl _ _ | with_reducible assumption | (with_reducible refine Below.setCell ?_ ?_ _) | (with_reducible refine Below.alloc ?_ ?_ _) | (with_reducible refine Below.drew ?_) | (with_reducible refine below_drewN ?_ _))); all_goals (first | omega | (simp; done) | (simp; omega) | (simp [*]; done) | (simp at *; omega))))).c2 | exact ((mo.grows (w' := wr.drew) (by ((repeat' (first | with_reducible exact Below.refl _ _ | with_reducible assumption | (with_reducible refine Below.setCell ?_ ?_ _) | (with_reducible refine Below.alloc ?_ ?_ _) | (with_reducible refine Below.drew ?_) | (with_reducible refine below_drewN ?_ _))); all_goals (first | omega | (simp; done) | (simp; omega) | (simp [*]; done) | (simp at *; omega))))).alloc _).c2)))) (fun hHeld => ?_); clear hK K; (try simp only [Act.put, List.setIfInBounds_toArray, List.set_cons_zero, List.set_cons_succ]); refine heldL_step (i := 13) (by kernel_rfl) (by rfl) (fun K hK => ?_); (refine step_app1 rfl (.tmp 38) (.tmp 49) rfl _ _ (w.heap.size + 2) v (crs C l ri ci (I * C + J)) (by rfl) (ho.drew) (by rfl) hcl (by first | omega | (simp; omega)) ?_; intro v' w4 ho4 hg4 hv4; have hb4 : Below (w.heap.size + 2) wr.drew w4 := below_app ho.drew (by simp; omega) hg4; obtain ⟨A4, c4, rfl, _, _⟩ := ho4.val; replace mo := MBox.own (w := wr.drew) (mo.grows (w' := wr.drew) (by ((repeat' (first | with_reducible exact Below.refl _ _ | with_reducible assumption | (with_reducible refine Below.setCell ?_ ?_ _) | (with_reducible refine Below.alloc ?_ ?_ _) | (with_reducible refine Below.drew ?_) | (with_reducible refine below_drewN ?_ _))); all_goals (first | omega | (simp; done) | (simp; omega) | (simp [*]; done) | (simp at *; omega))))) hg4 hv; clear y0 y1 y2; obtain ⟨y0, y1, y2⟩ := mo.cells; have yf := mo.fz) ; refine hK.out _ _ (by ((try dsimp only); (refine crs_keep4 mb hc' (B := w.heap.size + 2) (by first | (have bz0 := Below.size (hb4); (try simp at bz0); (repeat' (first | with_reducible exact Below.refl _ _ | with_reducible assumption | (with_reducible refine Below.setCell ?_ ?_ _) | (with_reducible refine Below.alloc ?_ ?_ _) | (with_reducible refine Below.drew ?_) | (with_reducible refine below_drewN ?_ _) | (with_reducible refine Below.trans ?_ (Below.mono (hb4) ?_)))); all_goals (first | omega | (simp; done) | (simp; omega) | (simp [*]; done) | (simp at *; omega))) | ((repeat' (first | with_reducible exact Below.refl _ _ | with_reducible assumption | (with_reducible refine Below.setCell ?_ ?_ _) | (with_reducible refine Below.alloc ?_ ?_ _) | (with_reducible refine Below.drew ?_) | (with_reducible refine below_drewN ?_ _))); all_goals (first | omega | (simp; done) | (simp; omega) | (simp [*]; done) | (simp at *; omega)))) (by omega) (by omega) (by first | exact mo.c2 | exact (mo.alloc _).c2 | exact (mo.grows (by ((repeat' (first | with_reducible exact Below.refl _ _ | with_reducible assumption | (with_reducible refine Below.setCell ?_ ?_ _) | (with_reducible refine Below.alloc ?_ ?_ _) | (with_reducible refine Below.drew ?_) | (with_reducible refine below_drewN ?_ _))); all_goals (first | omega | (simp; done) | (simp; omega) | (simp [*]; done) | (simp at *; omega))))).c2 | exact ((mo.grows (w' := wr.drew) (by ((repeat' (first | with_reducible exact Below.refl _ _ | with_reducible assumption | (with_reducible refine Below.setCell ?_ ?_ _) | (with_reducible refine Below.alloc ?_ ?_ _) | (with_reducible refine Below.drew ?_) | (with_reducible refine below_drewN ?_ _))); all_goals (first | omega | (simp; done) | (simp; omega) | (simp [*]; done) | (simp at *; omega))))).alloc _).c2)))) (fun hHeld => ?_); clear hK K; (try simp only [Act.put, List.setIfInBounds_toArray, List.set_cons_zero, List.set_cons_succ]); refine heldL_take (i := 14) (v := _) (by rfl) (by kernel_rfl) (by kernel_rfl) (by kernel_rfl) (fun _ _ _ h => h) (Or.inl ⟨by rfl, fun wS hSw => by ((try dsimp only at hSw); go_simp; (try with_reducible rfl))⟩) (by assumption) ?_; simp only [Act.put, List.setIfInBounds_toArray, List.set_cons_zero, List.set_cons_succ]; refine wpAnyH_done (by kernel_rfl) ?_ _; refine lastQ_go ?_)
            all_goals
              go_wp2_with fail
              go_round
              case rel =>
                have hne4 : ∀ g, (Value.slice A4 (crs C l ri ci (I * C + J) ++ [nth l (I * C + J)]).length c4).ownBlock = some g → g ≠ w.heap.size + 1 + 1 := by
                  intro g hg'
                  rcases hv4 with h | ⟨g', h, h'⟩
                  · exact hv g (by rw [← h]; exact hg')
                  · rw [h] at hg'; cases hg'; have hdr : wr.drew.heap.size = wr.heap.size := rfl; omega
                have ho5 := ho4.far (p := ⟨w.heap.size + 1 + 1, 2, none⟩) hne4 (.slice A4 (crs C l ri ci (I * C + J) ++ [nth l (I * C + J)]).length c4)
                have hs1 := HS1.out
                rw [← HC.out] at ho5 hne4
                exact ⟨J + 1, _, by go_num, by omega, by (have bz0 := Below.size (hb4); (try simp at bz0); have bz1 := Below.size (hg); (try simp at bz1); (repeat' (first | with_reducible exact Below.refl _ _ | with_reducible assumption | (with_reducible refine Below.setCell ?_ ?_ _) | (with_reducible refine Below.alloc ?_ ?_ _) | (with_reducible refine Below.drew ?_) | (with_reducible refine below_drewN ?_ _) | (with_reducible refine Below.trans ?_ (Below.mono (hb4) ?_)) | (with_reducible refine Below.trans ?_ (Below.mono (hg) ?_)))); all_goals (first | omega | (simp; done) | (simp; omega) | (simp [*]; done) | (simp at *; omega))), by simpa using mo.put2 _, by simpa [HC.out] using ho5, by simpa [HC.out] using hne4⟩
              case measure => simp [intOf]; omega
          · have HC := Lib.hid (crs_skip (l := l) hlt2 (show I = ri ∨ J = ci by omega))
            obtain ⟨b0, b1, b2⟩ := mb.cells
            by_cases h1 : I = ri
            · have e1 : ((I : Int) != (ri : Int)) = false := by rw [bne_eq_false_iff_eq]; omega
              clear h1 hc
              go_wp2_with fail
              go_round
              case rel => exact ⟨J + 1, v, by go_num, by omega, hg, mo, by rw [HC.out]; exact ho, hv⟩
              case measure => simp [intOf]; omega
            · have e1 : ((I : Int) != (ri : Int)) = true := by rw [bne_iff_ne]; omega
              have e2 : ((J : Int) != (ci : Int)) = false := by rw [bne_eq_false_iff_eq]; omega
              clear h1 hc
              go_wp2_with fail
              go_round
              case rel => exact ⟨J + 1, v, by go_num, by omega, hg, mo, by rw [HC.out]; exact ho, hv⟩
              case measure => simp [intOf]; omega
        · obtain rfl : J = C := by omega
          obtain ⟨b0, b1, b2⟩ := mb.cells
          go_wp2_with fail
          go_round
          case rel => exact ⟨I + 1, v, by go_num, by omega, hg, mo, by rw [Nat.add_mul, Nat.one_mul]; exact ho, hv⟩
          case measure => simp [intOf]; omega
    · obtain rfl : I = R := by omega
      have mb := mb1.grows hg
      have mr := mr1.grows hg
      obtain ⟨b0, b1, b2⟩ := mb.cells
      obtain ⟨c0, c1, c2⟩ := mo.cells
      obtain ⟨d0, d1, d2⟩ := mr.cells
      have df := mr.fz
      have dl := mr.lt
      obtain ⟨A4, c4, rfl, _, _⟩ := ho.val
      go_wp2_with fail
      refine bodyPost_ret (v := .agg #[.int .i64 ((I : Int) - 1), .int .i64 ((C : Int) - 1), .slice A4 (crs C l ri ci (I * C)).length c4]) ?_ rfl ?_
      · simp [results, Try.results128, go_sem, d0, d1, d2, df]
      · have hs1 := HS1.out
        exact ⟨_, rfl, by (refine Own.less (B := ?OB) ?_ ?_; (repeat' (first | with_reducible exact ho | with_reducible refine Own.alloc ?_ _ | with_reducible refine Own.drew ?_ | with_reducible refine Own.low ?_ ?_ _)); all_goals (first | omega | (simp; done) | (simp; omega) | (simp [*]; done) | (simp at *; omega))), by (have bz0 := Below.size (hg); (try simp at bz0); have bz1 := Below.size (hg01); (try simp at bz1); (repeat' (first | with_reducible exact Below.refl _ _ | with_reducible assumption | (with_reducible refine Below.setCell ?_ ?_ _) | (with_reducible refine Below.alloc ?_ ?_ _) | (with_reducible refine Below.drew ?_) | (with_reducible refine below_drewN ?_ _) | (with_reducible refine Below.trans ?_ (Below.mono (hg) ?_)) | (with_reducible refine Below.trans ?_ (Below.mono (hg01) ?_)))); all_goals (first | omega | (simp; done) | (simp; omega) | (simp [*]; done) | (simp at *; omega)))⟩
end
end Go.Proofs.Ytpfijhcjempfjaa
