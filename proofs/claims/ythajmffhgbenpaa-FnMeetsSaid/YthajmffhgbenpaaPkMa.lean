/- Contracts and lemmas, put together. -/
import Derived.Test.YthajmffhgbenpaaPkA
import Derived.Test.YthajmffhgbenpaaPkB
import Derived.Test.YthajmffhgbenpaaPkC
import Derived.Test.YthajmffhgbenpaaPkE
import Derived.Test.YthajmffhgbenpaaPkI
import Derived.Test.YthajmffhgbenpaaPkIf
import Derived.Test.YthajmffhgbenpaaPkT
/- Contracts: ChangeBasis. -/
namespace Go.Proofs.Ythajmffhgbenpaa
set_option linter.unusedSimpArgs false
set_option linter.unusedVariables false
open Go.RowKit

/-- a form in another basis -/
def cbO (g u : MX) : Option MX := if isGram g.r g.c g.l && u.ok then (mulO u g).bind fun p => mulO p (trM u) else none
theorem cbO_ok {g u m : MX} (h : cbO g u = some m) : m.ok = true := by
  unfold cbO at h
  split at h
  · obtain ⟨p, _, h2⟩ := Option.bind_eq_some_iff.1 h; exact mulO_ok h2
  · cases h

section
set_option maxHeartbeats 1000000

end
end Go.Proofs.Ythajmffhgbenpaa

/- Contracts: whether matrices are the same, the rows of two matrices below one another, whether lattices are the same, their sum. -/
namespace Go.Proofs.Ythajmffhgbenpaa
set_option linter.unusedSimpArgs false
set_option linter.unusedVariables false
open Go.RowKit

/-- the variables of a function with two matrices -/
theorem two_only (w : World) (r c r' c' : Int) (u v : Value) :
    ∃ w1, w1 = (w.alloc (.cells #[.int .i64 r, .int .i64 c, u] 26)).alloc (.cells #[.int .i64 r', .int .i64 c', v] 26) ∧
      MBox w1 w.heap.size r c u ∧ MBox w1 (w.heap.size + 1) r' c' v ∧ w1.heap.size = w.heap.size + 2 ∧ Grows w w1 :=
  ⟨_, rfl, (MBox.mk_ _ _ _ _ _).grows ((Below.refl _ _).alloc (Nat.le_refl _) _), MBox.new_ _ _ _ _ _ (by simp), by simp, by exact bel0⟩
def stkO (a b : MX) : Option MX := if a.ok && b.ok && decide (a.c = b.c) && decide (a.r + b.r ≤ 24) then some ⟨a.r + b.r, a.c, a.l ++ b.l⟩ else none
theorem stkO_no {a b : MX} (h : a.ok = false ∨ b.ok = false ∨ a.c ≠ b.c ∨ 24 < a.r + b.r) : stkO a b = none := by
  unfold stkO
  rw [if_neg]
  rcases h with h | h | h | h
  · simp [h]
  · simp [h]
  · simp [h]
  · simp only [Bool.and_eq_true, decide_eq_true_eq]; omega
theorem stkO_yes {a b : MX} (h1 : a.ok = true) (h2 : b.ok = true) (h3 : a.c = b.c) (h4 : a.r + b.r ≤ 24) : stkO a b = some ⟨a.r + b.r, a.c, a.l ++ b.l⟩ := by
  unfold stkO; rw [if_pos (by simp [h1, h2, h3, h4])]
theorem stkO_ok {a b m : MX} (h : stkO a b = some m) : m.ok = true := by
  unfold stkO at h
  split at h
  · rename_i hc
    simp only [Bool.and_eq_true, decide_eq_true_eq] at hc
    obtain ⟨⟨⟨h1, h2⟩, h3⟩, h4⟩ := hc
    cases h
    obtain ⟨R, C, e1, e2, hR, hC, hl, hn⟩ := isMat_ok h1
    obtain ⟨R', C', e3, e4, hR', hC', hl', hn'⟩ := isMat_ok h2
    obtain rfl : C = C' := by omega
    show isMat (a.r + b.r) a.c (a.l ++ b.l) = true
    rw [e1, e3, e2, ← Int.natCast_add]
    rw [isMat_made (by omega) hC (by rw [List.length_append, hl, hl', Nat.add_mul])]
    rw [allNum_iff]
    intro i hi
    by_cases e : i < a.l.length
    · rw [nth_append_left _ _ _ e]; exact hn i e
    · rw [nth_append_right _ _ _ (by omega)]; exact hn' _ (by simp at hi; omega)
  · cases h
/-- whether the rows span the same lattice, and whether that is known -/
def smlB (a b : MX) : Bool × Bool :=
  match basO a, basO b with
  | some x, some y => if a.c = b.c then (eqMat x.r x.c x.l y.r y.c y.l, true) else (false, false)
  | _, _ => (false, false)
def sumO (a b : MX) : Option MX := if latB a.r a.c a.l && latB b.r b.c b.l then (stkO a b).bind basO else none
theorem sumO_ok {a b m : MX} (h : sumO a b = some m) : m.ok = true := by
  unfold sumO at h
  split at h
  · obtain ⟨x, _, h2⟩ := Option.bind_eq_some_iff.1 h
    exact basO_ok h2
  · cases h

section
set_option maxHeartbeats 2000000
theorem iStk_c (r c r' c' : Int) (A B : Option Addr) (a b : List Int) (n m ca cb : Nat) (w : World) (hn : a.length = n) (hm : b.length = m) (ha : Rd w A a) (hb : Rd w B b) (hl : n ≤ 1099511627776) (hl2 : m ≤ 1099511627776) :
    Calls Try.prog 18 #[.agg #[.int .i64 r, .int .i64 c, .slice A n ca], .agg #[.int .i64 r', .int .i64 c', .slice B m cb]] w (MatRet (stkO ⟨r, c, a⟩ ⟨r', c', b⟩) w) := by
  have HA := fun W h => iIsMatrix_c r c A a n ca W hn h hl
  have HB := fun W h => iIsMatrix_c r' c' B b m cb W hm h hl2
  obtain ⟨w1, hw1, ma, mb, mr, hs1, HG⟩ := two_mats w r c r' c' (.slice A n ca) (.slice B m cb)
  have HW1 := Lib.hid hw1
  have HS1 := Lib.hid hs1
  have ha1 := ha.grows HG
  have hb1 := hb.grows HG
  obtain ⟨RES, hRES⟩ : ∃ x, x = stkO ⟨r, c, a⟩ ⟨r', c', b⟩ := ⟨_, rfl⟩
  rw [← hRES]
  cases h1 : isMat r c a
  · rw [stkO_no (a := ⟨r, c, a⟩) (.inl h1)] at hRES
    rw [h1] at HA
    have HA' := Lib.hid HA
    subst hRES
    clear hw1 hn hm HA HB hs1 h1
    go_enter Try.func18, Try.ntmps18
    go_wp2_with fail
    rw [← HW1.out]
    have ma_0 := ma.c0; have ma_1 := ma.c1; have ma_2 := ma.c2; have ma_l := ma.lt; have ma_f := ma.fz
    have mb_0 := mb.c0; have mb_1 := mb.c1; have mb_2 := mb.c2; have mb_l := mb.lt; have mb_f := mb.fz
    have mr_0 := mr.c0; have mr_1 := mr.c1; have mr_2 := mr.c2; have mr_l := mr.lt; have mr_f := mr.fz
    refine (HA'.out _ (by exact Rd.grows ha1 (by exact bel0))).mono ?_; rintro e w2 ⟨rfl, g_w2⟩
    have s_w2 := Below.size g_w2; (try simp at s_w2)
    clear ma_0 ma_1 ma_2 ma_l ma_f
    replace ma := ma.grows (w' := w2) (by exact bel1 g_w2)
    have ma_0 := ma.c0; have ma_1 := ma.c1; have ma_2 := ma.c2; have ma_l := ma.lt; have ma_f := ma.fz
    clear mb_0 mb_1 mb_2 mb_l mb_f
    replace mb := mb.grows (w' := w2) (by exact bel1 g_w2)
    have mb_0 := mb.c0; have mb_1 := mb.c1; have mb_2 := mb.c2; have mb_l := mb.lt; have mb_f := mb.fz
    clear mr_0 mr_1 mr_2 mr_l mr_f
    replace mr := mr.grows (w' := w2) (by exact bel1 g_w2)
    have mr_0 := mr.c0; have mr_1 := mr.c1; have mr_2 := mr.c2; have mr_l := mr.lt; have mr_f := mr.fz
    replace ha1 := ha1.grows (w' := w2) (by exact bel1 g_w2)
    replace hb1 := hb1.grows (w' := w2) (by exact bel1 g_w2)
    replace HG : Grows w w2 := by exact bel2 g_w2 HG
    have h_w2 := Below.size HG
    go_wp2_with fail
    refine bodyPost_ret (v := .tuple #[.agg #[.int .i64 0, .int .i64 0, .slice none 0 0], .bool false]) ?_ rfl ?_
    · simp [results, Try.results18, go_sem, mr_0, mr_1, mr_2, mr_f, mr_l]
    · exact ⟨_, rfl, Own.nil _ _, by exact bel1 HG⟩
  · rw [h1] at HA
    have HA' := Lib.hid HA
    cases h2 : isMat r' c' b
    · rw [stkO_no (b := ⟨r', c', b⟩) (.inr (.inl h2))] at hRES
      rw [h2] at HB
      have HB' := Lib.hid HB
      subst hRES
      clear hw1 hn hm HA HB hs1 h1 h2
      go_enter Try.func18, Try.ntmps18
      go_wp2_with fail
      rw [← HW1.out]
      have ma_0 := ma.c0; have ma_1 := ma.c1; have ma_2 := ma.c2; have ma_l := ma.lt; have ma_f := ma.fz
      have mb_0 := mb.c0; have mb_1 := mb.c1; have mb_2 := mb.c2; have mb_l := mb.lt; have mb_f := mb.fz
      have mr_0 := mr.c0; have mr_1 := mr.c1; have mr_2 := mr.c2; have mr_l := mr.lt; have mr_f := mr.fz
      refine (HA'.out _ (by exact Rd.grows ha1 (by exact bel0))).mono ?_; rintro e w2 ⟨rfl, g_w2⟩
      have s_w2 := Below.size g_w2; (try simp at s_w2)
      clear ma_0 ma_1 ma_2 ma_l ma_f
      replace ma := ma.grows (w' := w2) (by exact bel1 g_w2)
      have ma_0 := ma.c0; have ma_1 := ma.c1; have ma_2 := ma.c2; have ma_l := ma.lt; have ma_f := ma.fz
      clear mb_0 mb_1 mb_2 mb_l mb_f
      replace mb := mb.grows (w' := w2) (by exact bel1 g_w2)
      have mb_0 := mb.c0; have mb_1 := mb.c1; have mb_2 := mb.c2; have mb_l := mb.lt; have mb_f := mb.fz
      clear mr_0 mr_1 mr_2 mr_l mr_f
      replace mr := mr.grows (w' := w2) (by exact bel1 g_w2)
      have mr_0 := mr.c0; have mr_1 := mr.c1; have mr_2 := mr.c2; have mr_l := mr.lt; have mr_f := mr.fz
      replace ha1 := ha1.grows (w' := w2) (by exact bel1 g_w2)
      replace hb1 := hb1.grows (w' := w2) (by exact bel1 g_w2)
      replace HG : Grows w w2 := by exact bel2 g_w2 HG
      have h_w2 := Below.size HG
      go_wp2_with fail
      refine (HB'.out _ (by exact Rd.grows hb1 (by exact bel0))).mono ?_; rintro e w3 ⟨rfl, g_w3⟩
      have s_w3 := Below.size g_w3; (try simp at s_w3)
      clear ma_0 ma_1 ma_2 ma_l ma_f
      replace ma := ma.grows (w' := w3) (by exact bel1 g_w3)
      have ma_0 := ma.c0; have ma_1 := ma.c1; have ma_2 := ma.c2; have ma_l := ma.lt; have ma_f := ma.fz
      clear mb_0 mb_1 mb_2 mb_l mb_f
      replace mb := mb.grows (w' := w3) (by exact bel1 g_w3)
      have mb_0 := mb.c0; have mb_1 := mb.c1; have mb_2 := mb.c2; have mb_l := mb.lt; have mb_f := mb.fz
      clear mr_0 mr_1 mr_2 mr_l mr_f
      replace mr := mr.grows (w' := w3) (by exact bel1 g_w3)
      have mr_0 := mr.c0; have mr_1 := mr.c1; have mr_2 := mr.c2; have mr_l := mr.lt; have mr_f := mr.fz
      replace ha1 := ha1.grows (w' := w3) (by exact bel1 g_w3)
      replace hb1 := hb1.grows (w' := w3) (by exact bel1 g_w3)
      replace HG : Grows w w3 := by exact bel2 g_w3 HG
      have h_w3 := Below.size HG
      go_wp2_with fail
      refine bodyPost_ret (v := .tuple #[.agg #[.int .i64 0, .int .i64 0, .slice none 0 0], .bool false]) ?_ rfl ?_
      · simp [results, Try.results18, go_sem, mr_0, mr_1, mr_2, mr_f, mr_l]
      · exact ⟨_, rfl, Own.nil _ _, by exact bel1 HG⟩
    · rw [h2] at HB
      have HB' := Lib.hid HB
      by_cases h3 : c = c'
      · subst h3
        obtain ⟨R, C, rfl, rfl, hR, hC, hla, _⟩ := isMat_nat h1
        obtain ⟨R', C', rfl, e4, hR', hC', hlb, _⟩ := isMat_nat h2
        obtain rfl : C = C' := by omega
        by_cases h4 : R + R' ≤ 24
        · rw [stkO_yes (a := ⟨R, C, a⟩) (b := ⟨R', C, b⟩) h1 h2 rfl (by simp only; omega)] at hRES
          have hwr : IntKind.i64.wrap ((R : Int) + (R' : Int)) = (R : Int) + (R' : Int) := IntWalk.i64_in _ (by omega)
          have h4' : ¬ (24 : Int) < (R : Int) + (R' : Int) := by omega
          have hla2 : a.length ≤ 576 := by rw [hla]; exact Nat.mul_le_mul hR hC
          have hlb2 : b.length ≤ 576 := by rw [hlb]; exact Nat.mul_le_mul hR' hC
          have HN := Lib.hid hn
          have HM := Lib.hid hm
          subst hRES
          clear hw1 hn hm HA HB hs1 h1 h2 e4 h4 hla hlb
          go_enter Try.func18, Try.ntmps18
          go_wp2_with fail
          rw [← HW1.out]
          have ma_0 := ma.c0; have ma_1 := ma.c1; have ma_2 := ma.c2; have ma_l := ma.lt; have ma_f := ma.fz
          have mb_0 := mb.c0; have mb_1 := mb.c1; have mb_2 := mb.c2; have mb_l := mb.lt; have mb_f := mb.fz
          have mr_0 := mr.c0; have mr_1 := mr.c1; have mr_2 := mr.c2; have mr_l := mr.lt; have mr_f := mr.fz
          refine (HA'.out _ (by exact Rd.grows ha1 (by exact bel0))).mono ?_; rintro e w2 ⟨rfl, g_w2⟩
          have s_w2 := Below.size g_w2; (try simp at s_w2)
          clear ma_0 ma_1 ma_2 ma_l ma_f
          replace ma := ma.grows (w' := w2) (by exact bel1 g_w2)
          have ma_0 := ma.c0; have ma_1 := ma.c1; have ma_2 := ma.c2; have ma_l := ma.lt; have ma_f := ma.fz
          clear mb_0 mb_1 mb_2 mb_l mb_f
          replace mb := mb.grows (w' := w2) (by exact bel1 g_w2)
          have mb_0 := mb.c0; have mb_1 := mb.c1; have mb_2 := mb.c2; have mb_l := mb.lt; have mb_f := mb.fz
          clear mr_0 mr_1 mr_2 mr_l mr_f
          replace mr := mr.grows (w' := w2) (by exact bel1 g_w2)
          have mr_0 := mr.c0; have mr_1 := mr.c1; have mr_2 := mr.c2; have mr_l := mr.lt; have mr_f := mr.fz
          replace ha1 := ha1.grows (w' := w2) (by exact bel1 g_w2)
          replace hb1 := hb1.grows (w' := w2) (by exact bel1 g_w2)
          replace HG : Grows w w2 := by exact bel2 g_w2 HG
          have h_w2 := Below.size HG
          go_wp2_with fail
          refine (HB'.out _ (by exact Rd.grows hb1 (by exact bel0))).mono ?_; rintro e w3 ⟨rfl, g_w3⟩
          have s_w3 := Below.size g_w3; (try simp at s_w3)
          clear ma_0 ma_1 ma_2 ma_l ma_f
          replace ma := ma.grows (w' := w3) (by exact bel1 g_w3)
          have ma_0 := ma.c0; have ma_1 := ma.c1; have ma_2 := ma.c2; have ma_l := ma.lt; have ma_f := ma.fz
          clear mb_0 mb_1 mb_2 mb_l mb_f
          replace mb := mb.grows (w' := w3) (by exact bel1 g_w3)
          have mb_0 := mb.c0; have mb_1 := mb.c1; have mb_2 := mb.c2; have mb_l := mb.lt; have mb_f := mb.fz
          clear mr_0 mr_1 mr_2 mr_l mr_f
          replace mr := mr.grows (w' := w3) (by exact bel1 g_w3)
          have mr_0 := mr.c0; have mr_1 := mr.c1; have mr_2 := mr.c2; have mr_l := mr.lt; have mr_f := mr.fz
          replace ha1 := ha1.grows (w' := w3) (by exact bel1 g_w3)
          replace hb1 := hb1.grows (w' := w3) (by exact bel1 g_w3)
          replace HG : Grows w w3 := by exact bel2 g_w3 HG
          have h_w3 := Below.size HG
          go_wp2_with fail
          have hnew : Own (w3.alloc (.cells #[] 3)).drew w3.heap.size (.slice (some ⟨w3.heap.size, 0, none⟩) 0 0) [] := (Own.new_ w3 rfl (Nat.le_refl _)).drew
          have ma3 := ma; have mb3 := mb; have mr3 := mr
          clear mr_0 mr_1 mr_2 mr_l mr_f
          clear mr
          (refine wp_region_heldL (fun W => W.cell? ⟨w.heap.size, 0, none⟩ = some (.int .i64 R) ∧ W.cell? ⟨w.heap.size, 1, none⟩ = some (.int .i64 C) ∧ W.cell? ⟨w.heap.size, 2, none⟩ = some (.slice A n ca) ∧ W.cell? ⟨w.heap.size + 1, 0, none⟩ = some (.int .i64 R') ∧ W.cell? ⟨w.heap.size + 1, 1, none⟩ = some (.int .i64 C) ∧ W.cell? ⟨w.heap.size + 1, 2, none⟩ = some (.slice B m cb)) (by kernel_rfl) (by ((try dsimp only); (first | exact two_boxes2 ma9 mb9 | ((have _tt := ma9); exact two_boxes2 (v := .slice A n ca) (v' := .slice B m cb) (by ((repeat' (first | with_reducible exact ma9 | with_reducible refine MBox.alloc ?_ _ | with_reducible refine MBox.drew_ ?_ | with_reducible refine MBox.far ?_ ?_ _)); all_goals (first | omega | (simp; done) | (simp; omega)))) (by ((repeat' (first | with_reducible exact mb9 | with_reducible refine MBox.alloc ?_ _ | with_reducible refine MBox.drew_ ?_ | with_reducible refine MBox.far ?_ ?_ _)); all_goals (first | omega | (simp; done) | (simp; omega))))) | exact two_boxes2 ma7 mb7 | exact two_boxes2 (ma3.grows (by exact bel0)) (mb3.grows (by exact bel0))))) (fun hHeld => ?_); refine heldL_take (i := 0) (v := _) (by rfl) (by kernel_rfl) (by kernel_rfl) (by kernel_rfl) (fun _ _ _ h => h) (Or.inl ⟨by rfl, fun wS hSw => by ((try dsimp only at hSw); go_simp; (try with_reducible rfl))⟩) (by assumption) ?_; simp only [Act.put, List.setIfInBounds_toArray, List.set_cons_zero, List.set_cons_succ]; refine heldL_take (i := 1) (v := _) (by rfl) (by kernel_rfl) (by kernel_rfl) (by kernel_rfl) (fun _ _ _ h => h) (Or.inl ⟨by rfl, fun wS hSw => by ((try dsimp only at hSw); go_simp; (try with_reducible rfl))⟩) (by assumption) ?_; simp only [Act.put, List.setIfInBounds_toArray, List.set_cons_zero, List.set_cons_succ]; refine heldL_take (i := 2) (v := _) (by rfl) (by kernel_rfl) (by kernel_rfl) (by kernel_rfl) (fun _ _ _ h => h) (Or.inl ⟨by rfl, fun wS hSw => by ((try dsimp only at hSw); go_simp; (try with_reducible rfl))⟩) (by assumption) ?_; simp only [Act.put, List.setIfInBounds_toArray, List.set_cons_zero, List.set_cons_succ]; refine heldL_take (i := 3) (v := _) (by rfl) (by kernel_rfl) (by kernel_rfl) (by kernel_rfl) (fun _ _ _ h => h) (Or.inl ⟨by rfl, fun wS hSw => by ((try dsimp only at hSw); go_simp; (try with_reducible rfl))⟩) (by assumption) ?_; simp only [Act.put, List.setIfInBounds_toArray, List.set_cons_zero, List.set_cons_succ]; refine heldL_take (i := 4) (v := _) (by rfl) (by kernel_rfl) (by kernel_rfl) (by kernel_rfl) (fun _ _ _ h => h) (Or.inl ⟨by rfl, fun wS hSw => by ((try dsimp only at hSw); go_simp; (try with_reducible rfl))⟩) (by assumption) ?_; simp only [Act.put, List.setIfInBounds_toArray, List.set_cons_zero, List.set_cons_succ]; refine heldL_take (i := 5) (v := _) (by rfl) (by kernel_rfl) (by kernel_rfl) (by kernel_rfl) (fun _ _ _ h => h) (Or.inl ⟨by rfl, fun wS hSw => by ((try dsimp only at hSw); go_simp; (try with_reducible rfl))⟩) (by assumption) ?_; simp only [Act.put, List.setIfInBounds_toArray, List.set_cons_zero, List.set_cons_succ]; refine heldL_take (i := 6) (v := _) (by rfl) (by kernel_rfl) (by kernel_rfl) (by kernel_rfl) (fun _ _ _ h => h) (Or.inl ⟨by rfl, fun wS hSw => by ((try dsimp only at hSw); go_simp; (try with_reducible rfl))⟩) (by assumption) ?_; simp only [Act.put, List.setIfInBounds_toArray, List.set_cons_zero, List.set_cons_succ]; refine heldL_take (i := 8) (v := _) (by rfl) (by kernel_rfl) (by kernel_rfl) (by kernel_rfl) (fun _ _ _ h => h) (Or.inl ⟨by rfl, fun wS hSw => by ((try dsimp only at hSw); go_simp; (try with_reducible rfl))⟩) (by assumption) ?_; simp only [Act.put, List.setIfInBounds_toArray, List.set_cons_zero, List.set_cons_succ]; refine heldL_take (i := 9) (v := _) (by rfl) (by kernel_rfl) (by kernel_rfl) (by kernel_rfl) (fun _ _ _ h => h) (Or.inl ⟨by rfl, fun wS hSw => by ((try dsimp only at hSw); go_simp; (try with_reducible rfl))⟩) (by assumption) ?_; simp only [Act.put, List.setIfInBounds_toArray, List.set_cons_zero, List.set_cons_succ]; refine heldL_take (i := 11) (v := _) (by rfl) (by kernel_rfl) (by kernel_rfl) (by kernel_rfl) (fun _ _ _ h => h) (Or.inl ⟨by rfl, fun wS hSw => by ((try dsimp only at hSw); go_simp; (try with_reducible rfl))⟩) (by assumption) ?_; simp only [Act.put, List.setIfInBounds_toArray, List.set_cons_zero, List.set_cons_succ]; refine heldL_take (i := 12) (v := _) (by rfl) (by kernel_rfl) (by kernel_rfl) (by kernel_rfl) (fun _ _ _ h => h) (Or.inl ⟨by rfl, fun wS hSw => by ((try dsimp only at hSw); go_simp; (try with_reducible rfl))⟩) (by assumption) ?_; simp only [Act.put, List.setIfInBounds_toArray, List.set_cons_zero, List.set_cons_succ]; refine heldL_step (i := 7) (by kernel_rfl) (by rfl) (fun K hK => ?_); go_simp; refine hK.out _ _ (by ((try dsimp only); (first | exact two_boxes2 ma9 mb9 | ((have _tt := ma9); exact two_boxes2 (v := .slice A n ca) (v' := .slice B m cb) (by ((repeat' (first | with_reducible exact ma9 | with_reducible refine MBox.alloc ?_ _ | with_reducible refine MBox.drew_ ?_ | with_reducible refine MBox.far ?_ ?_ _)); all_goals (first | omega | (simp; done) | (simp; omega)))) (by ((repeat' (first | with_reducible exact mb9 | with_reducible refine MBox.alloc ?_ _ | with_reducible refine MBox.drew_ ?_ | with_reducible refine MBox.far ?_ ?_ _)); all_goals (first | omega | (simp; done) | (simp; omega))))) | exact two_boxes2 ma7 mb7 | exact two_boxes2 (ma3.grows (by exact bel0)) (mb3.grows (by exact bel0))))) (fun hHeld => ?_); clear hK K; (try simp only [Act.put, List.setIfInBounds_toArray, List.set_cons_zero, List.set_cons_succ]); refine heldL_step (i := 10) (by kernel_rfl) (by rfl) (fun K hK => ?_); (refine step_app rfl (.tmp 37) (.tmp 39) rfl _ w3.heap.size _ [] (by rfl) hnew A a n ca (by rfl) HN.out (by exact (Rd.grows ha1 (by exact bel0))) (by simp; omega) (by simp) ?_; intro v7 w7 ho7 hg7 hv7; have hb7 : Below w3.heap.size w3 w7 := Below.trans (show Grows w3 (w3.alloc (.cells #[] 3)).drew by exact bel0) (below_app hnew (by simp) hg7); rw [List.nil_append] at ho7; obtain ⟨A7, c7, rfl, _, _⟩ := ho7.val; have ma7 := ma3.keep hb7 ma3.lt; have mb7 := mb3.keep hb7 mb3.lt; have hs7 := hb7.size) ; refine hK.out _ _ (by ((try dsimp only); (first | exact two_boxes2 ma9 mb9 | ((have _tt := ma9); exact two_boxes2 (v := .slice A n ca) (v' := .slice B m cb) (by ((repeat' (first | with_reducible exact ma9 | with_reducible refine MBox.alloc ?_ _ | with_reducible refine MBox.drew_ ?_ | with_reducible refine MBox.far ?_ ?_ _)); all_goals (first | omega | (simp; done) | (simp; omega)))) (by ((repeat' (first | with_reducible exact mb9 | with_reducible refine MBox.alloc ?_ _ | with_reducible refine MBox.drew_ ?_ | with_reducible refine MBox.far ?_ ?_ _)); all_goals (first | omega | (simp; done) | (simp; omega))))) | exact two_boxes2 ma7 mb7 | exact two_boxes2 (ma3.grows (by exact bel0)) (mb3.grows (by exact bel0))))) (fun hHeld => ?_); clear hK K; (try simp only [Act.put, List.setIfInBounds_toArray, List.set_cons_zero, List.set_cons_succ]); refine heldL_step (i := 13) (by kernel_rfl) (by rfl) (fun K hK => ?_); (refine step_app rfl (.tmp 40) (.tmp 42) rfl _ w3.heap.size _ a (by rfl) ho7 B b m cb (by rfl) HM.out (by exact (Rd.grows hb1 (by exact bel1 hb7))) (by omega) (by omega) ?_; intro v9 w9 ho9 hg9 hv9; have hb9 : Below w3.heap.size w3 w9 := Below.trans hb7 (below_app ho7 (by omega) hg9); obtain ⟨A9, c9, rfl, _, _⟩ := ho9.val; have ma9 := ma3.keep hb9 ma3.lt; have mb9 := mb3.keep hb9 mb3.lt; have mr9 := mr3.keep hb9 mr3.lt; obtain ⟨r0, r1, r2⟩ := mr9.cells; have rf := mr9.fz; have rl := mr9.lt; have hs9 := hb9.size) ; refine hK.out _ _ (by ((try dsimp only); (first | exact two_boxes2 ma9 mb9 | ((have _tt := ma9); exact two_boxes2 (v := .slice A n ca) (v' := .slice B m cb) (by ((repeat' (first | with_reducible exact ma9 | with_reducible refine MBox.alloc ?_ _ | with_reducible refine MBox.drew_ ?_ | with_reducible refine MBox.far ?_ ?_ _)); all_goals (first | omega | (simp; done) | (simp; omega)))) (by ((repeat' (first | with_reducible exact mb9 | with_reducible refine MBox.alloc ?_ _ | with_reducible refine MBox.drew_ ?_ | with_reducible refine MBox.far ?_ ?_ _)); all_goals (first | omega | (simp; done) | (simp; omega))))) | exact two_boxes2 ma7 mb7 | exact two_boxes2 (ma3.grows (by exact bel0)) (mb3.grows (by exact bel0))))) (fun hHeld => ?_); clear hK K; (try simp only [Act.put, List.setIfInBounds_toArray, List.set_cons_zero, List.set_cons_succ]); refine heldL_take (i := 14) (v := _) (by rfl) (by kernel_rfl) (by kernel_rfl) (by kernel_rfl) (fun _ _ _ h => h) (Or.inl ⟨by rfl, fun wS hSw => by ((try dsimp only at hSw); go_simp; (try with_reducible rfl))⟩) (by assumption) ?_; simp only [Act.put, List.setIfInBounds_toArray, List.set_cons_zero, List.set_cons_succ]; refine heldL_step (i := 15) (by kernel_rfl) (by rfl) (fun K hK => ?_); go_simp; refine hK.out _ _ (by ((try dsimp only); (first | exact two_boxes2 ma9 mb9 | ((have _tt := ma9); exact two_boxes2 (v := .slice A n ca) (v' := .slice B m cb) (by ((repeat' (first | with_reducible exact ma9 | with_reducible refine MBox.alloc ?_ _ | with_reducible refine MBox.drew_ ?_ | with_reducible refine MBox.far ?_ ?_ _)); all_goals (first | omega | (simp; done) | (simp; omega)))) (by ((repeat' (first | with_reducible exact mb9 | with_reducible refine MBox.alloc ?_ _ | with_reducible refine MBox.drew_ ?_ | with_reducible refine MBox.far ?_ ?_ _)); all_goals (first | omega | (simp; done) | (simp; omega))))) | exact two_boxes2 ma7 mb7 | exact two_boxes2 (ma3.grows (by exact bel0)) (mb3.grows (by exact bel0))))) (fun hHeld => ?_); clear hK K; (try simp only [Act.put, List.setIfInBounds_toArray, List.set_cons_zero, List.set_cons_succ]); refine heldL_take (i := 16) (v := _) (by rfl) (by kernel_rfl) (by kernel_rfl) (by kernel_rfl) (fun _ _ _ h => h) (Or.inl ⟨by rfl, fun wS hSw => by ((try dsimp only at hSw); go_simp; (try with_reducible rfl))⟩) (by assumption) ?_; simp only [Act.put, List.setIfInBounds_toArray, List.set_cons_zero, List.set_cons_succ]; refine wpAnyH_done (by kernel_rfl) ?_ _; refine NoPanic.normal ?_)
          go_wp2_with fail
          refine bodyPost_ret (v := .tuple #[.agg #[.int .i64 ((R : Int) + (R' : Int)), .int .i64 C, .slice A9 (a ++ b).length c9], .bool true]) ?_ rfl ?_
          · simp [results, Try.results18, go_sem, r0, r1, r2, rf, rl]
          · have hs1 := HS1.out
            have ho8 := ho9.less (B' := w.heap.size) (by omega)
            have hf : ∀ g, (Value.slice A9 (a ++ b).length c9).ownBlock = some g → g ≠ w.heap.size + 1 + 1 := fun g hg => by have := (World.ownsRow.lt ho9 g hg).1; omega
            exact ⟨_, rfl, ((ho8.far (p := ⟨w.heap.size + 1 + 1, 0, none⟩) hf _).far (p := ⟨w.heap.size + 1 + 1, 1, none⟩) hf _).far (p := ⟨w.heap.size + 1 + 1, 2, none⟩) hf _, by exact bel2 hb9 HG⟩
        · rw [stkO_no (a := ⟨R, C, a⟩) (b := ⟨R', C, b⟩) (.inr (.inr (.inr (by simp only; omega))))] at hRES
          have h4' : (24 : Int) < (R : Int) + (R' : Int) := by omega
          subst hRES
          clear hw1 hn hm HA HB hs1 h1 h2 e4 h4 hla hlb
          go_enter Try.func18, Try.ntmps18
          go_wp2_with fail
          rw [← HW1.out]
          have ma_0 := ma.c0; have ma_1 := ma.c1; have ma_2 := ma.c2; have ma_l := ma.lt; have ma_f := ma.fz
          have mb_0 := mb.c0; have mb_1 := mb.c1; have mb_2 := mb.c2; have mb_l := mb.lt; have mb_f := mb.fz
          have mr_0 := mr.c0; have mr_1 := mr.c1; have mr_2 := mr.c2; have mr_l := mr.lt; have mr_f := mr.fz
          refine (HA'.out _ (by exact Rd.grows ha1 (by exact bel0))).mono ?_; rintro e w2 ⟨rfl, g_w2⟩
          have s_w2 := Below.size g_w2; (try simp at s_w2)
          clear ma_0 ma_1 ma_2 ma_l ma_f
          replace ma := ma.grows (w' := w2) (by exact bel1 g_w2)
          have ma_0 := ma.c0; have ma_1 := ma.c1; have ma_2 := ma.c2; have ma_l := ma.lt; have ma_f := ma.fz
          clear mb_0 mb_1 mb_2 mb_l mb_f
          replace mb := mb.grows (w' := w2) (by exact bel1 g_w2)
          have mb_0 := mb.c0; have mb_1 := mb.c1; have mb_2 := mb.c2; have mb_l := mb.lt; have mb_f := mb.fz
          clear mr_0 mr_1 mr_2 mr_l mr_f
          replace mr := mr.grows (w' := w2) (by exact bel1 g_w2)
          have mr_0 := mr.c0; have mr_1 := mr.c1; have mr_2 := mr.c2; have mr_l := mr.lt; have mr_f := mr.fz
          replace ha1 := ha1.grows (w' := w2) (by exact bel1 g_w2)
          replace hb1 := hb1.grows (w' := w2) (by exact bel1 g_w2)
          replace HG : Grows w w2 := by exact bel2 g_w2 HG
          have h_w2 := Below.size HG
          go_wp2_with fail
          refine (HB'.out _ (by exact Rd.grows hb1 (by exact bel0))).mono ?_; rintro e w3 ⟨rfl, g_w3⟩
          have s_w3 := Below.size g_w3; (try simp at s_w3)
          clear ma_0 ma_1 ma_2 ma_l ma_f
          replace ma := ma.grows (w' := w3) (by exact bel1 g_w3)
          have ma_0 := ma.c0; have ma_1 := ma.c1; have ma_2 := ma.c2; have ma_l := ma.lt; have ma_f := ma.fz
          clear mb_0 mb_1 mb_2 mb_l mb_f
          replace mb := mb.grows (w' := w3) (by exact bel1 g_w3)
          have mb_0 := mb.c0; have mb_1 := mb.c1; have mb_2 := mb.c2; have mb_l := mb.lt; have mb_f := mb.fz
          clear mr_0 mr_1 mr_2 mr_l mr_f
          replace mr := mr.grows (w' := w3) (by exact bel1 g_w3)
          have mr_0 := mr.c0; have mr_1 := mr.c1; have mr_2 := mr.c2; have mr_l := mr.lt; have mr_f := mr.fz
          replace ha1 := ha1.grows (w' := w3) (by exact bel1 g_w3)
          replace hb1 := hb1.grows (w' := w3) (by exact bel1 g_w3)
          replace HG : Grows w w3 := by exact bel2 g_w3 HG
          have h_w3 := Below.size HG
          go_wp2_with fail
          refine bodyPost_ret (v := .tuple #[.agg #[.int .i64 0, .int .i64 0, .slice none 0 0], .bool false]) ?_ rfl ?_
          · simp [results, Try.results18, go_sem, mr_0, mr_1, mr_2, mr_f, mr_l]
          · exact ⟨_, rfl, Own.nil _ _, by exact bel1 HG⟩
      · rw [stkO_no (a := ⟨r, c, a⟩) (b := ⟨r', c', b⟩) (.inr (.inr (.inl h3)))] at hRES
        have h3' : (c != c') = true := by simpa using h3
        subst hRES
        clear hw1 hn hm HA HB hs1 h1 h2 h3
        go_enter Try.func18, Try.ntmps18
        go_wp2_with fail
        rw [← HW1.out]
        have ma_0 := ma.c0; have ma_1 := ma.c1; have ma_2 := ma.c2; have ma_l := ma.lt; have ma_f := ma.fz
        have mb_0 := mb.c0; have mb_1 := mb.c1; have mb_2 := mb.c2; have mb_l := mb.lt; have mb_f := mb.fz
        have mr_0 := mr.c0; have mr_1 := mr.c1; have mr_2 := mr.c2; have mr_l := mr.lt; have mr_f := mr.fz
        refine (HA'.out _ (by exact Rd.grows ha1 (by exact bel0))).mono ?_; rintro e w2 ⟨rfl, g_w2⟩
        have s_w2 := Below.size g_w2; (try simp at s_w2)
        clear ma_0 ma_1 ma_2 ma_l ma_f
        replace ma := ma.grows (w' := w2) (by exact bel1 g_w2)
        have ma_0 := ma.c0; have ma_1 := ma.c1; have ma_2 := ma.c2; have ma_l := ma.lt; have ma_f := ma.fz
        clear mb_0 mb_1 mb_2 mb_l mb_f
        replace mb := mb.grows (w' := w2) (by exact bel1 g_w2)
        have mb_0 := mb.c0; have mb_1 := mb.c1; have mb_2 := mb.c2; have mb_l := mb.lt; have mb_f := mb.fz
        clear mr_0 mr_1 mr_2 mr_l mr_f
        replace mr := mr.grows (w' := w2) (by exact bel1 g_w2)
        have mr_0 := mr.c0; have mr_1 := mr.c1; have mr_2 := mr.c2; have mr_l := mr.lt; have mr_f := mr.fz
        replace ha1 := ha1.grows (w' := w2) (by exact bel1 g_w2)
        replace hb1 := hb1.grows (w' := w2) (by exact bel1 g_w2)
        replace HG : Grows w w2 := by exact bel2 g_w2 HG
        have h_w2 := Below.size HG
        go_wp2_with fail
        refine (HB'.out _ (by exact Rd.grows hb1 (by exact bel0))).mono ?_; rintro e w3 ⟨rfl, g_w3⟩
        have s_w3 := Below.size g_w3; (try simp at s_w3)
        clear ma_0 ma_1 ma_2 ma_l ma_f
        replace ma := ma.grows (w' := w3) (by exact bel1 g_w3)
        have ma_0 := ma.c0; have ma_1 := ma.c1; have ma_2 := ma.c2; have ma_l := ma.lt; have ma_f := ma.fz
        clear mb_0 mb_1 mb_2 mb_l mb_f
        replace mb := mb.grows (w' := w3) (by exact bel1 g_w3)
        have mb_0 := mb.c0; have mb_1 := mb.c1; have mb_2 := mb.c2; have mb_l := mb.lt; have mb_f := mb.fz
        clear mr_0 mr_1 mr_2 mr_l mr_f
        replace mr := mr.grows (w' := w3) (by exact bel1 g_w3)
        have mr_0 := mr.c0; have mr_1 := mr.c1; have mr_2 := mr.c2; have mr_l := mr.lt; have mr_f := mr.fz
        replace ha1 := ha1.grows (w' := w3) (by exact bel1 g_w3)
        replace hb1 := hb1.grows (w' := w3) (by exact bel1 g_w3)
        replace HG : Grows w w3 := by exact bel2 g_w3 HG
        have h_w3 := Below.size HG
        go_wp2_with fail
        refine bodyPost_ret (v := .tuple #[.agg #[.int .i64 0, .int .i64 0, .slice none 0 0], .bool false]) ?_ rfl ?_
        · simp [results, Try.results18, go_sem, mr_0, mr_1, mr_2, mr_f, mr_l]
        · exact ⟨_, rfl, Own.nil _ _, by exact bel1 HG⟩
theorem sStk_c (r c r' c' : Int) (A B : Option Addr) (a b : List Int) (n m ca cb : Nat) (w : World) (hn : a.length = n) (hm : b.length = m) (ha : Rd w A a) (hb : Rd w B b) (hl : n ≤ 1099511627776) (hl2 : m ≤ 1099511627776) :
    Calls Try.prog 21 #[.agg #[.int .i64 r, .int .i64 c, .slice A n ca], .agg #[.int .i64 r', .int .i64 c', .slice B m cb]] w (MatRet (stkO ⟨r, c, a⟩ ⟨r', c', b⟩) w) := by
  have HA := fun W h => sIsMatrix_c r c A a n ca W hn h hl
  have HB := fun W h => sIsMatrix_c r' c' B b m cb W hm h hl2
  obtain ⟨w1, hw1, ma, mb, mr, hs1, HG⟩ := two_mats w r c r' c' (.slice A n ca) (.slice B m cb)
  have HW1 := Lib.hid hw1
  have HS1 := Lib.hid hs1
  have ha1 := ha.grows HG
  have hb1 := hb.grows HG
  obtain ⟨RES, hRES⟩ : ∃ x, x = stkO ⟨r, c, a⟩ ⟨r', c', b⟩ := ⟨_, rfl⟩
  rw [← hRES]
  cases h1 : isMat r c a
  · rw [stkO_no (a := ⟨r, c, a⟩) (.inl h1)] at hRES
    rw [h1] at HA
    have HA' := Lib.hid HA
    subst hRES
    clear hw1 hn hm HA HB hs1 h1
    go_enter Try.func21, Try.ntmps21
    go_wp2_with fail
    rw [← HW1.out]
    have ma_0 := ma.c0; have ma_1 := ma.c1; have ma_2 := ma.c2; have ma_l := ma.lt; have ma_f := ma.fz
    have mb_0 := mb.c0; have mb_1 := mb.c1; have mb_2 := mb.c2; have mb_l := mb.lt; have mb_f := mb.fz
    have mr_0 := mr.c0; have mr_1 := mr.c1; have mr_2 := mr.c2; have mr_l := mr.lt; have mr_f := mr.fz
    refine (HA'.out _ (by exact Rd.grows ha1 (by exact bel0))).mono ?_; rintro e w2 ⟨rfl, g_w2⟩
    have s_w2 := Below.size g_w2; (try simp at s_w2)
    clear ma_0 ma_1 ma_2 ma_l ma_f
    replace ma := ma.grows (w' := w2) (by exact bel1 g_w2)
    have ma_0 := ma.c0; have ma_1 := ma.c1; have ma_2 := ma.c2; have ma_l := ma.lt; have ma_f := ma.fz
    clear mb_0 mb_1 mb_2 mb_l mb_f
    replace mb := mb.grows (w' := w2) (by exact bel1 g_w2)
    have mb_0 := mb.c0; have mb_1 := mb.c1; have mb_2 := mb.c2; have mb_l := mb.lt; have mb_f := mb.fz
    clear mr_0 mr_1 mr_2 mr_l mr_f
    replace mr := mr.grows (w' := w2) (by exact bel1 g_w2)
    have mr_0 := mr.c0; have mr_1 := mr.c1; have mr_2 := mr.c2; have mr_l := mr.lt; have mr_f := mr.fz
    replace ha1 := ha1.grows (w' := w2) (by exact bel1 g_w2)
    replace hb1 := hb1.grows (w' := w2) (by exact bel1 g_w2)
    replace HG : Grows w w2 := by exact bel2 g_w2 HG
    have h_w2 := Below.size HG
    go_wp2_with fail
    refine bodyPost_ret (v := .tuple #[.agg #[.int .i64 0, .int .i64 0, .slice none 0 0], .bool false]) ?_ rfl ?_
    · simp [results, Try.results21, go_sem, mr_0, mr_1, mr_2, mr_f, mr_l]
    · exact ⟨_, rfl, Own.nil _ _, by exact bel1 HG⟩
  · rw [h1] at HA
    have HA' := Lib.hid HA
    cases h2 : isMat r' c' b
    · rw [stkO_no (b := ⟨r', c', b⟩) (.inr (.inl h2))] at hRES
      rw [h2] at HB
      have HB' := Lib.hid HB
      subst hRES
      clear hw1 hn hm HA HB hs1 h1 h2
      go_enter Try.func21, Try.ntmps21
      go_wp2_with fail
      rw [← HW1.out]
      have ma_0 := ma.c0; have ma_1 := ma.c1; have ma_2 := ma.c2; have ma_l := ma.lt; have ma_f := ma.fz
      have mb_0 := mb.c0; have mb_1 := mb.c1; have mb_2 := mb.c2; have mb_l := mb.lt; have mb_f := mb.fz
      have mr_0 := mr.c0; have mr_1 := mr.c1; have mr_2 := mr.c2; have mr_l := mr.lt; have mr_f := mr.fz
      refine (HA'.out _ (by exact Rd.grows ha1 (by exact bel0))).mono ?_; rintro e w2 ⟨rfl, g_w2⟩
      have s_w2 := Below.size g_w2; (try simp at s_w2)
      clear ma_0 ma_1 ma_2 ma_l ma_f
      replace ma := ma.grows (w' := w2) (by exact bel1 g_w2)
      have ma_0 := ma.c0; have ma_1 := ma.c1; have ma_2 := ma.c2; have ma_l := ma.lt; have ma_f := ma.fz
      clear mb_0 mb_1 mb_2 mb_l mb_f
      replace mb := mb.grows (w' := w2) (by exact bel1 g_w2)
      have mb_0 := mb.c0; have mb_1 := mb.c1; have mb_2 := mb.c2; have mb_l := mb.lt; have mb_f := mb.fz
      clear mr_0 mr_1 mr_2 mr_l mr_f
      replace mr := mr.grows (w' := w2) (by exact bel1 g_w2)
      have mr_0 := mr.c0; have mr_1 := mr.c1; have mr_2 := mr.c2; have mr_l := mr.lt; have mr_f := mr.fz
      replace ha1 := ha1.grows (w' := w2) (by exact bel1 g_w2)
      replace hb1 := hb1.grows (w' := w2) (by exact bel1 g_w2)
      replace HG : Grows w w2 := by exact bel2 g_w2 HG
      have h_w2 := Below.size HG
      go_wp2_with fail
      refine (HB'.out _ (by exact Rd.grows hb1 (by exact bel0))).mono ?_; rintro e w3 ⟨rfl, g_w3⟩
      have s_w3 := Below.size g_w3; (try simp at s_w3)
      clear ma_0 ma_1 ma_2 ma_l ma_f
      replace ma := ma.grows (w' := w3) (by exact bel1 g_w3)
      have ma_0 := ma.c0; have ma_1 := ma.c1; have ma_2 := ma.c2; have ma_l := ma.lt; have ma_f := ma.fz
      clear mb_0 mb_1 mb_2 mb_l mb_f
      replace mb := mb.grows (w' := w3) (by exact bel1 g_w3)
      have mb_0 := mb.c0; have mb_1 := mb.c1; have mb_2 := mb.c2; have mb_l := mb.lt; have mb_f := mb.fz
      clear mr_0 mr_1 mr_2 mr_l mr_f
      replace mr := mr.grows (w' := w3) (by exact bel1 g_w3)
      have mr_0 := mr.c0; have mr_1 := mr.c1; have mr_2 := mr.c2; have mr_l := mr.lt; have mr_f := mr.fz
      replace ha1 := ha1.grows (w' := w3) (by exact bel1 g_w3)
      replace hb1 := hb1.grows (w' := w3) (by exact bel1 g_w3)
      replace HG : Grows w w3 := by exact bel2 g_w3 HG
      have h_w3 := Below.size HG
      go_wp2_with fail
      refine bodyPost_ret (v := .tuple #[.agg #[.int .i64 0, .int .i64 0, .slice none 0 0], .bool false]) ?_ rfl ?_
      · simp [results, Try.results21, go_sem, mr_0, mr_1, mr_2, mr_f, mr_l]
      · exact ⟨_, rfl, Own.nil _ _, by exact bel1 HG⟩
    · rw [h2] at HB
      have HB' := Lib.hid HB
      by_cases h3 : c = c'
      · subst h3
        obtain ⟨R, C, rfl, rfl, hR, hC, hla, _⟩ := isMat_nat h1
        obtain ⟨R', C', rfl, e4, hR', hC', hlb, _⟩ := isMat_nat h2
        obtain rfl : C = C' := by omega
        by_cases h4 : R + R' ≤ 24
        · rw [stkO_yes (a := ⟨R, C, a⟩) (b := ⟨R', C, b⟩) h1 h2 rfl (by simp only; omega)] at hRES
          have hwr : IntKind.i64.wrap ((R : Int) + (R' : Int)) = (R : Int) + (R' : Int) := IntWalk.i64_in _ (by omega)
          have h4' : ¬ (24 : Int) < (R : Int) + (R' : Int) := by omega
          have hla2 : a.length ≤ 576 := by rw [hla]; exact Nat.mul_le_mul hR hC
          have hlb2 : b.length ≤ 576 := by rw [hlb]; exact Nat.mul_le_mul hR' hC
          have HN := Lib.hid hn
          have HM := Lib.hid hm
          subst hRES
          clear hw1 hn hm HA HB hs1 h1 h2 e4 h4 hla hlb
          go_enter Try.func21, Try.ntmps21
          go_wp2_with fail
          rw [← HW1.out]
          have ma_0 := ma.c0; have ma_1 := ma.c1; have ma_2 := ma.c2; have ma_l := ma.lt; have ma_f := ma.fz
          have mb_0 := mb.c0; have mb_1 := mb.c1; have mb_2 := mb.c2; have mb_l := mb.lt; have mb_f := mb.fz
          have mr_0 := mr.c0; have mr_1 := mr.c1; have mr_2 := mr.c2; have mr_l := mr.lt; have mr_f := mr.fz
          refine (HA'.out _ (by exact Rd.grows ha1 (by exact bel0))).mono ?_; rintro e w2 ⟨rfl, g_w2⟩
          have s_w2 := Below.size g_w2; (try simp at s_w2)
          clear ma_0 ma_1 ma_2 ma_l ma_f
          replace ma := ma.grows (w' := w2) (by exact bel1 g_w2)
          have ma_0 := ma.c0; have ma_1 := ma.c1; have ma_2 := ma.c2; have ma_l := ma.lt; have ma_f := ma.fz
          clear mb_0 mb_1 mb_2 mb_l mb_f
          replace mb := mb.grows (w' := w2) (by exact bel1 g_w2)
          have mb_0 := mb.c0; have mb_1 := mb.c1; have mb_2 := mb.c2; have mb_l := mb.lt; have mb_f := mb.fz
          clear mr_0 mr_1 mr_2 mr_l mr_f
          replace mr := mr.grows (w' := w2) (by exact bel1 g_w2)
          have mr_0 := mr.c0; have mr_1 := mr.c1; have mr_2 := mr.c2; have mr_l := mr.lt; have mr_f := mr.fz
          replace ha1 := ha1.grows (w' := w2) (by exact bel1 g_w2)
          replace hb1 := hb1.grows (w' := w2) (by exact bel1 g_w2)
          replace HG : Grows w w2 := by exact bel2 g_w2 HG
          have h_w2 := Below.size HG
          go_wp2_with fail
          refine (HB'.out _ (by exact Rd.grows hb1 (by exact bel0))).mono ?_; rintro e w3 ⟨rfl, g_w3⟩
          have s_w3 := Below.size g_w3; (try simp at s_w3)
          clear ma_0 ma_1 ma_2 ma_l ma_f
          replace ma := ma.grows (w' := w3) (by exact bel1 g_w3)
          have ma_0 := ma.c0; have ma_1 := ma.c1; have ma_2 := ma.c2; have ma_l := ma.lt; have ma_f := ma.fz
          clear mb_0 mb_1 mb_2 mb_l mb_f
          replace mb := mb.grows (w' := w3) (by exact bel1 g_w3)
          have mb_0 := mb.c0; have mb_1 := mb.c1; have mb_2 := mb.c2; have mb_l := mb.lt; have mb_f := mb.fz
          clear mr_0 mr_1 mr_2 mr_l mr_f
          replace mr := mr.grows (w' := w3) (by exact bel1 g_w3)
          have mr_0 := mr.c0; have mr_1 := mr.c1; have mr_2 := mr.c2; have mr_l := mr.lt; have mr_f := mr.fz
          replace ha1 := ha1.grows (w' := w3) (by exact bel1 g_w3)
          replace hb1 := hb1.grows (w' := w3) (by exact bel1 g_w3)
          replace HG : Grows w w3 := by exact bel2 g_w3 HG
          have h_w3 := Below.size HG
          go_wp2_with fail
          have hnew : Own (w3.alloc (.cells #[] 3)).drew w3.heap.size (.slice (some ⟨w3.heap.size, 0, none⟩) 0 0) [] := (Own.new_ w3 rfl (Nat.le_refl _)).drew
          have ma3 := ma; have mb3 := mb; have mr3 := mr
          clear mr_0 mr_1 mr_2 mr_l mr_f
          clear mr
          (refine wp_region_heldL (fun W => W.cell? ⟨w.heap.size, 0, none⟩ = some (.int .i64 R) ∧ W.cell? ⟨w.heap.size, 1, none⟩ = some (.int .i64 C) ∧ W.cell? ⟨w.heap.size, 2, none⟩ = some (.slice A n ca) ∧ W.cell? ⟨w.heap.size + 1, 0, none⟩ = some (.int .i64 R') ∧ W.cell? ⟨w.heap.size + 1, 1, none⟩ = some (.int .i64 C) ∧ W.cell? ⟨w.heap.size + 1, 2, none⟩ = some (.slice B m cb)) (by kernel_rfl) (by ((try dsimp only); (first | exact two_boxes2 ma9 mb9 | ((have _tt := ma9); exact two_boxes2 (v := .slice A n ca) (v' := .slice B m cb) (by ((repeat' (first | with_reducible exact ma9 | with_reducible refine MBox.alloc ?_ _ | with_reducible refine MBox.drew_ ?_ | with_reducible refine MBox.far ?_ ?_ _)); all_goals (first | omega | (simp; done) | (simp; omega)))) (by ((repeat' (first | with_reducible exact mb9 | with_reducible refine MBox.alloc ?_ _ | with_reducible refine MBox.drew_ ?_ | with_reducible refine MBox.far ?_ ?_ _)); all_goals (first | omega | (simp; done) | (simp; omega))))) | exact two_boxes2 ma7 mb7 | exact two_boxes2 (ma3.grows (by exact bel0)) (mb3.grows (by exact bel0))))) (fun hHeld => ?_); refine heldL_take (i := 0) (v := _) (by rfl) (by kernel_rfl) (by kernel_rfl) (by kernel_rfl) (fun _ _ _ h => h) (Or.inl ⟨by rfl, fun wS hSw => by ((try dsimp only at hSw); go_simp; (try with_reducible rfl))⟩) (by assumption) ?_; simp only [Act.put, List.setIfInBounds_toArray, List.set_cons_zero, List.set_cons_succ]; refine heldL_take (i := 1) (v := _) (by rfl) (by kernel_rfl) (by kernel_rfl) (by kernel_rfl) (fun _ _ _ h => h) (Or.inl ⟨by rfl, fun wS hSw => by ((try dsimp only at hSw); go_simp; (try with_reducible rfl))⟩) (by assumption) ?_; simp only [Act.put, List.setIfInBounds_toArray, List.set_cons_zero, List.set_cons_succ]; refine heldL_take (i := 2) (v := _) (by rfl) (by kernel_rfl) (by kernel_rfl) (by kernel_rfl) (fun _ _ _ h => h) (Or.inl ⟨by rfl, fun wS hSw => by ((try dsimp only at hSw); go_simp; (try with_reducible rfl))⟩) (by assumption) ?_; simp only [Act.put, List.setIfInBounds_toArray, List.set_cons_zero, List.set_cons_succ]; refine heldL_take (i := 3) (v := _) (by rfl) (by kernel_rfl) (by kernel_rfl) (by kernel_rfl) (fun _ _ _ h => h) (Or.inl ⟨by rfl, fun wS hSw => by ((try dsimp only at hSw); go_simp; (try with_reducible rfl))⟩) (by assumption) ?_; simp only [Act.put, List.setIfInBounds_toArray, List.set_cons_zero, List.set_cons_succ]; refine heldL_take (i := 4) (v := _) (by rfl) (by kernel_rfl) (by kernel_rfl) (by kernel_rfl) (fun _ _ _ h => h) (Or.inl ⟨by rfl, fun wS hSw => by ((try dsimp only at hSw); go_simp; (try with_reducible rfl))⟩) (by assumption) ?_; simp only [Act.put, List.setIfInBounds_toArray, List.set_cons_zero, List.set_cons_succ]; refine heldL_take (i := 5) (v := _) (by rfl) (by kernel_rfl) (by kernel_rfl) (by kernel_rfl) (fun _ _ _ h => h) (Or.inl ⟨by rfl, fun wS hSw => by ((try dsimp only at hSw); go_simp; (try with_reducible rfl))⟩) (by assumption) ?_; simp only [Act.put, List.setIfInBounds_toArray, List.set_cons_zero, List.set_cons_succ]; refine heldL_take (i := 6) (v := _) (by rfl) (by kernel_rfl) (by kernel_rfl) (by kernel_rfl) (fun _ _ _ h => h) (Or.inl ⟨by rfl, fun wS hSw => by ((try dsimp only at hSw); go_simp; (try with_reducible rfl))⟩) (by assumption) ?_; simp only [Act.put, List.setIfInBounds_toArray, List.set_cons_zero, List.set_cons_succ]; refine heldL_take (i := 8) (v := _) (by rfl) (by kernel_rfl) (by kernel_rfl) (by kernel_rfl) (fun _ _ _ h => h) (Or.inl ⟨by rfl, fun wS hSw => by ((try dsimp only at hSw); go_simp; (try with_reducible rfl))⟩) (by assumption) ?_; simp only [Act.put, List.setIfInBounds_toArray, List.set_cons_zero, List.set_cons_succ]; refine heldL_take (i := 9) (v := _) (by rfl) (by kernel_rfl) (by kernel_rfl) (by kernel_rfl) (fun _ _ _ h => h) (Or.inl ⟨by rfl, fun wS hSw => by ((try dsimp only at hSw); go_simp; (try with_reducible rfl))⟩) (by assumption) ?_; simp only [Act.put, List.setIfInBounds_toArray, List.set_cons_zero, List.set_cons_succ]; refine heldL_take (i := 11) (v := _) (by rfl) (by kernel_rfl) (by kernel_rfl) (by kernel_rfl) (fun _ _ _ h => h) (Or.inl ⟨by rfl, fun wS hSw => by ((try dsimp only at hSw); go_simp; (try with_reducible rfl))⟩) (by assumption) ?_; simp only [Act.put, List.setIfInBounds_toArray, List.set_cons_zero, List.set_cons_succ]; refine heldL_take (i := 12) (v := _) (by rfl) (by kernel_rfl) (by kernel_rfl) (by kernel_rfl) (fun _ _ _ h => h) (Or.inl ⟨by rfl, fun wS hSw => by ((try dsimp only at hSw); go_simp; (try with_reducible rfl))⟩) (by assumption) ?_; simp only [Act.put, List.setIfInBounds_toArray, List.set_cons_zero, List.set_cons_succ]; refine heldL_step (i := 7) (by kernel_rfl) (by rfl) (fun K hK => ?_); go_simp; refine hK.out _ _ (by ((try dsimp only); (first | exact two_boxes2 ma9 mb9 | ((have _tt := ma9); exact two_boxes2 (v := .slice A n ca) (v' := .slice B m cb) (by ((repeat' (first | with_reducible exact ma9 | with_reducible refine MBox.alloc ?_ _ | with_reducible refine MBox.drew_ ?_ | with_reducible refine MBox.far ?_ ?_ _)); all_goals (first | omega | (simp; done) | (simp; omega)))) (by ((repeat' (first | with_reducible exact mb9 | with_reducible refine MBox.alloc ?_ _ | with_reducible refine MBox.drew_ ?_ | with_reducible refine MBox.far ?_ ?_ _)); all_goals (first | omega | (simp; done) | (simp; omega))))) | exact two_boxes2 ma7 mb7 | exact two_boxes2 (ma3.grows (by exact bel0)) (mb3.grows (by exact bel0))))) (fun hHeld => ?_); clear hK K; (try simp only [Act.put, List.setIfInBounds_toArray, List.set_cons_zero, List.set_cons_succ]); refine heldL_step (i := 10) (by kernel_rfl) (by rfl) (fun K hK => ?_); (refine step_app rfl (.tmp 37) (.tmp 39) rfl _ w3.heap.size _ [] (by rfl) hnew A a n ca (by rfl) HN.out (by exact (Rd.grows ha1 (by exact bel0))) (by simp; omega) (by simp) ?_; intro v7 w7 ho7 hg7 hv7; have hb7 : Below w3.heap.size w3 w7 := Below.trans (show Grows w3 (w3.alloc (.cells #[] 3)).drew by exact bel0) (below_app hnew (by simp) hg7); rw [List.nil_append] at ho7; obtain ⟨A7, c7, rfl, _, _⟩ := ho7.val; have ma7 := ma3.keep hb7 ma3.lt; have mb7 := mb3.keep hb7 mb3.lt; have hs7 := hb7.size) ; refine hK.out _ _ (by ((try dsimp only); (first | exact two_boxes2 ma9 mb9 | ((have _tt := ma9); exact two_boxes2 (v := .slice A n ca) (v' := .slice B m cb) (by ((repeat' (first | with_reducible exact ma9 | with_reducible refine MBox.alloc ?_ _ | with_reducible refine MBox.drew_ ?_ | with_reducible refine MBox.far ?_ ?_ _)); all_goals (first | omega | (simp; done) | (simp; omega)))) (by ((repeat' (first | with_reducible exact mb9 | with_reducible refine MBox.alloc ?_ _ | with_reducible refine MBox.drew_ ?_ | with_reducible refine MBox.far ?_ ?_ _)); all_goals (first | omega | (simp; done) | (simp; omega))))) | exact two_boxes2 ma7 mb7 | exact two_boxes2 (ma3.grows (by exact bel0)) (mb3.grows (by exact bel0))))) (fun hHeld => ?_); clear hK K; (try simp only [Act.put, List.setIfInBounds_toArray, List.set_cons_zero, List.set_cons_succ]); refine heldL_step (i := 13) (by kernel_rfl) (by rfl) (fun K hK => ?_); (refine step_app rfl (.tmp 40) (.tmp 42) rfl _ w3.heap.size _ a (by rfl) ho7 B b m cb (by rfl) HM.out (by exact (Rd.grows hb1 (by exact bel1 hb7))) (by omega) (by omega) ?_; intro v9 w9 ho9 hg9 hv9; have hb9 : Below w3.heap.size w3 w9 := Below.trans hb7 (below_app ho7 (by omega) hg9); obtain ⟨A9, c9, rfl, _, _⟩ := ho9.val; have ma9 := ma3.keep hb9 ma3.lt; have mb9 := mb3.keep hb9 mb3.lt; have mr9 := mr3.keep hb9 mr3.lt; obtain ⟨r0, r1, r2⟩ := mr9.cells; have rf := mr9.fz; have rl := mr9.lt; have hs9 := hb9.size) ; refine hK.out _ _ (by ((try dsimp only); (first | exact two_boxes2 ma9 mb9 | ((have _tt := ma9); exact two_boxes2 (v := .slice A n ca) (v' := .slice B m cb) (by ((repeat' (first | with_reducible exact ma9 | with_reducible refine MBox.alloc ?_ _ | with_reducible refine MBox.drew_ ?_ | with_reducible refine MBox.far ?_ ?_ _)); all_goals (first | omega | (simp; done) | (simp; omega)))) (by ((repeat' (first | with_reducible exact mb9 | with_reducible refine MBox.alloc ?_ _ | with_reducible refine MBox.drew_ ?_ | with_reducible refine MBox.far ?_ ?_ _)); all_goals (first | omega | (simp; done) | (simp; omega))))) | exact two_boxes2 ma7 mb7 | exact two_boxes2 (ma3.grows (by exact bel0)) (mb3.grows (by exact bel0))))) (fun hHeld => ?_); clear hK K; (try simp only [Act.put, List.setIfInBounds_toArray, List.set_cons_zero, List.set_cons_succ]); refine heldL_take (i := 14) (v := _) (by rfl) (by kernel_rfl) (by kernel_rfl) (by kernel_rfl) (fun _ _ _ h => h) (Or.inl ⟨by rfl, fun wS hSw => by ((try dsimp only at hSw); go_simp; (try with_reducible rfl))⟩) (by assumption) ?_; simp only [Act.put, List.setIfInBounds_toArray, List.set_cons_zero, List.set_cons_succ]; refine heldL_step (i := 15) (by kernel_rfl) (by rfl) (fun K hK => ?_); go_simp; refine hK.out _ _ (by ((try dsimp only); (first | exact two_boxes2 ma9 mb9 | ((have _tt := ma9); exact two_boxes2 (v := .slice A n ca) (v' := .slice B m cb) (by ((repeat' (first | with_reducible exact ma9 | with_reducible refine MBox.alloc ?_ _ | with_reducible refine MBox.drew_ ?_ | with_reducible refine MBox.far ?_ ?_ _)); all_goals (first | omega | (simp; done) | (simp; omega)))) (by ((repeat' (first | with_reducible exact mb9 | with_reducible refine MBox.alloc ?_ _ | with_reducible refine MBox.drew_ ?_ | with_reducible refine MBox.far ?_ ?_ _)); all_goals (first | omega | (simp; done) | (simp; omega))))) | exact two_boxes2 ma7 mb7 | exact two_boxes2 (ma3.grows (by exact bel0)) (mb3.grows (by exact bel0))))) (fun hHeld => ?_); clear hK K; (try simp only [Act.put, List.setIfInBounds_toArray, List.set_cons_zero, List.set_cons_succ]); refine heldL_take (i := 16) (v := _) (by rfl) (by kernel_rfl) (by kernel_rfl) (by kernel_rfl) (fun _ _ _ h => h) (Or.inl ⟨by rfl, fun wS hSw => by ((try dsimp only at hSw); go_simp; (try with_reducible rfl))⟩) (by assumption) ?_; simp only [Act.put, List.setIfInBounds_toArray, List.set_cons_zero, List.set_cons_succ]; refine wpAnyH_done (by kernel_rfl) ?_ _; refine NoPanic.normal ?_)
          go_wp2_with fail
          refine bodyPost_ret (v := .tuple #[.agg #[.int .i64 ((R : Int) + (R' : Int)), .int .i64 C, .slice A9 (a ++ b).length c9], .bool true]) ?_ rfl ?_
          · simp [results, Try.results21, go_sem, r0, r1, r2, rf, rl]
          · have hs1 := HS1.out
            have ho8 := ho9.less (B' := w.heap.size) (by omega)
            have hf : ∀ g, (Value.slice A9 (a ++ b).length c9).ownBlock = some g → g ≠ w.heap.size + 1 + 1 := fun g hg => by have := (World.ownsRow.lt ho9 g hg).1; omega
            exact ⟨_, rfl, ((ho8.far (p := ⟨w.heap.size + 1 + 1, 0, none⟩) hf _).far (p := ⟨w.heap.size + 1 + 1, 1, none⟩) hf _).far (p := ⟨w.heap.size + 1 + 1, 2, none⟩) hf _, by exact bel2 hb9 HG⟩
        · rw [stkO_no (a := ⟨R, C, a⟩) (b := ⟨R', C, b⟩) (.inr (.inr (.inr (by simp only; omega))))] at hRES
          have h4' : (24 : Int) < (R : Int) + (R' : Int) := by omega
          subst hRES
          clear hw1 hn hm HA HB hs1 h1 h2 e4 h4 hla hlb
          go_enter Try.func21, Try.ntmps21
          go_wp2_with fail
          rw [← HW1.out]
          have ma_0 := ma.c0; have ma_1 := ma.c1; have ma_2 := ma.c2; have ma_l := ma.lt; have ma_f := ma.fz
          have mb_0 := mb.c0; have mb_1 := mb.c1; have mb_2 := mb.c2; have mb_l := mb.lt; have mb_f := mb.fz
          have mr_0 := mr.c0; have mr_1 := mr.c1; have mr_2 := mr.c2; have mr_l := mr.lt; have mr_f := mr.fz
          refine (HA'.out _ (by exact Rd.grows ha1 (by exact bel0))).mono ?_; rintro e w2 ⟨rfl, g_w2⟩
          have s_w2 := Below.size g_w2; (try simp at s_w2)
          clear ma_0 ma_1 ma_2 ma_l ma_f
          replace ma := ma.grows (w' := w2) (by exact bel1 g_w2)
          have ma_0 := ma.c0; have ma_1 := ma.c1; have ma_2 := ma.c2; have ma_l := ma.lt; have ma_f := ma.fz
          clear mb_0 mb_1 mb_2 mb_l mb_f
          replace mb := mb.grows (w' := w2) (by exact bel1 g_w2)
          have mb_0 := mb.c0; have mb_1 := mb.c1; have mb_2 := mb.c2; have mb_l := mb.lt; have mb_f := mb.fz
          clear mr_0 mr_1 mr_2 mr_l mr_f
          replace mr := mr.grows (w' := w2) (by exact bel1 g_w2)
          have mr_0 := mr.c0; have mr_1 := mr.c1; have mr_2 := mr.c2; have mr_l := mr.lt; have mr_f := mr.fz
          replace ha1 := ha1.grows (w' := w2) (by exact bel1 g_w2)
          replace hb1 := hb1.grows (w' := w2) (by exact bel1 g_w2)
          replace HG : Grows w w2 := by exact bel2 g_w2 HG
          have h_w2 := Below.size HG
          go_wp2_with fail
          refine (HB'.out _ (by exact Rd.grows hb1 (by exact bel0))).mono ?_; rintro e w3 ⟨rfl, g_w3⟩
          have s_w3 := Below.size g_w3; (try simp at s_w3)
          clear ma_0 ma_1 ma_2 ma_l ma_f
          replace ma := ma.grows (w' := w3) (by exact bel1 g_w3)
          have ma_0 := ma.c0; have ma_1 := ma.c1; have ma_2 := ma.c2; have ma_l := ma.lt; have ma_f := ma.fz
          clear mb_0 mb_1 mb_2 mb_l mb_f
          replace mb := mb.grows (w' := w3) (by exact bel1 g_w3)
          have mb_0 := mb.c0; have mb_1 := mb.c1; have mb_2 := mb.c2; have mb_l := mb.lt; have mb_f := mb.fz
          clear mr_0 mr_1 mr_2 mr_l mr_f
          replace mr := mr.grows (w' := w3) (by exact bel1 g_w3)
          have mr_0 := mr.c0; have mr_1 := mr.c1; have mr_2 := mr.c2; have mr_l := mr.lt; have mr_f := mr.fz
          replace ha1 := ha1.grows (w' := w3) (by exact bel1 g_w3)
          replace hb1 := hb1.grows (w' := w3) (by exact bel1 g_w3)
          replace HG : Grows w w3 := by exact bel2 g_w3 HG
          have h_w3 := Below.size HG
          go_wp2_with fail
          refine bodyPost_ret (v := .tuple #[.agg #[.int .i64 0, .int .i64 0, .slice none 0 0], .bool false]) ?_ rfl ?_
          · simp [results, Try.results21, go_sem, mr_0, mr_1, mr_2, mr_f, mr_l]
          · exact ⟨_, rfl, Own.nil _ _, by exact bel1 HG⟩
      · rw [stkO_no (a := ⟨r, c, a⟩) (b := ⟨r', c', b⟩) (.inr (.inr (.inl h3)))] at hRES
        have h3' : (c != c') = true := by simpa using h3
        subst hRES
        clear hw1 hn hm HA HB hs1 h1 h2 h3
        go_enter Try.func21, Try.ntmps21
        go_wp2_with fail
        rw [← HW1.out]
        have ma_0 := ma.c0; have ma_1 := ma.c1; have ma_2 := ma.c2; have ma_l := ma.lt; have ma_f := ma.fz
        have mb_0 := mb.c0; have mb_1 := mb.c1; have mb_2 := mb.c2; have mb_l := mb.lt; have mb_f := mb.fz
        have mr_0 := mr.c0; have mr_1 := mr.c1; have mr_2 := mr.c2; have mr_l := mr.lt; have mr_f := mr.fz
        refine (HA'.out _ (by exact Rd.grows ha1 (by exact bel0))).mono ?_; rintro e w2 ⟨rfl, g_w2⟩
        have s_w2 := Below.size g_w2; (try simp at s_w2)
        clear ma_0 ma_1 ma_2 ma_l ma_f
        replace ma := ma.grows (w' := w2) (by exact bel1 g_w2)
        have ma_0 := ma.c0; have ma_1 := ma.c1; have ma_2 := ma.c2; have ma_l := ma.lt; have ma_f := ma.fz
        clear mb_0 mb_1 mb_2 mb_l mb_f
        replace mb := mb.grows (w' := w2) (by exact bel1 g_w2)
        have mb_0 := mb.c0; have mb_1 := mb.c1; have mb_2 := mb.c2; have mb_l := mb.lt; have mb_f := mb.fz
        clear mr_0 mr_1 mr_2 mr_l mr_f
        replace mr := mr.grows (w' := w2) (by exact bel1 g_w2)
        have mr_0 := mr.c0; have mr_1 := mr.c1; have mr_2 := mr.c2; have mr_l := mr.lt; have mr_f := mr.fz
        replace ha1 := ha1.grows (w' := w2) (by exact bel1 g_w2)
        replace hb1 := hb1.grows (w' := w2) (by exact bel1 g_w2)
        replace HG : Grows w w2 := by exact bel2 g_w2 HG
        have h_w2 := Below.size HG
        go_wp2_with fail
        refine (HB'.out _ (by exact Rd.grows hb1 (by exact bel0))).mono ?_; rintro e w3 ⟨rfl, g_w3⟩
        have s_w3 := Below.size g_w3; (try simp at s_w3)
        clear ma_0 ma_1 ma_2 ma_l ma_f
        replace ma := ma.grows (w' := w3) (by exact bel1 g_w3)
        have ma_0 := ma.c0; have ma_1 := ma.c1; have ma_2 := ma.c2; have ma_l := ma.lt; have ma_f := ma.fz
        clear mb_0 mb_1 mb_2 mb_l mb_f
        replace mb := mb.grows (w' := w3) (by exact bel1 g_w3)
        have mb_0 := mb.c0; have mb_1 := mb.c1; have mb_2 := mb.c2; have mb_l := mb.lt; have mb_f := mb.fz
        clear mr_0 mr_1 mr_2 mr_l mr_f
        replace mr := mr.grows (w' := w3) (by exact bel1 g_w3)
        have mr_0 := mr.c0; have mr_1 := mr.c1; have mr_2 := mr.c2; have mr_l := mr.lt; have mr_f := mr.fz
        replace ha1 := ha1.grows (w' := w3) (by exact bel1 g_w3)
        replace hb1 := hb1.grows (w' := w3) (by exact bel1 g_w3)
        replace HG : Grows w w3 := by exact bel2 g_w3 HG
        have h_w3 := Below.size HG
        go_wp2_with fail
        refine bodyPost_ret (v := .tuple #[.agg #[.int .i64 0, .int .i64 0, .slice none 0 0], .bool false]) ?_ rfl ?_
        · simp [results, Try.results21, go_sem, mr_0, mr_1, mr_2, mr_f, mr_l]
        · exact ⟨_, rfl, Own.nil _ _, by exact bel1 HG⟩
end
end Go.Proofs.Ythajmffhgbenpaa

/- Contracts: the sum of two lattices. -/
namespace Go.Proofs.Ythajmffhgbenpaa
set_option linter.unusedSimpArgs false
set_option linter.unusedVariables false
open Go.RowKit

section
set_option maxHeartbeats 2000000
theorem iSum_c (r c r' c' : Int) (A B : Option Addr) (a b : List Int) (n m ca cb : Nat) (w : World) (hn : a.length = n) (hm : b.length = m) (hca : n ≤ ca) (hca2 : ca ≤ 9223372036854775807) (hcb : m ≤ cb) (hcb2 : cb ≤ 9223372036854775807) (ha : Rd w A a) (hb : Rd w B b) (hl : n ≤ 1099511627776) (hl2 : m ≤ 1099511627776) :
    Calls Try.prog 7 #[.agg #[.int .i64 r, .int .i64 c, .slice A n ca], .agg #[.int .i64 r', .int .i64 c', .slice B m cb]] w (MatRet (sumO ⟨r, c, a⟩ ⟨r', c', b⟩) w) := by
  have HS := fun W h h' => (iStk_c r c r' c' A B a b n m ca cb W hn hm h h' hl hl2).mono fun _ _ h => matRet_out h
  have HA := fun W h => iIsLat_c r c A a n ca W hn hca hca2 h hl
  have HB := fun W h => iIsLat_c r' c' B b m cb W hm hcb hcb2 h hl2
  have XB := Lib.hid fun (x : MX) (h : stkO ⟨r, c, a⟩ ⟨r', c', b⟩ = some x) => (oM_length (o := some x) fun m h2 => by cases h2; exact stkO_ok h)
  obtain ⟨w1, hw1, ma, mb, mr, hs1, HG⟩ := two_mats w r c r' c' (.slice A n ca) (.slice B m cb)
  have HW1 := Lib.hid hw1
  have hr0 := mr.lt
  have ha1 := ha.grows HG
  have hb1 := hb.grows HG
  obtain ⟨RES, hRES⟩ : ∃ x, x = sumO ⟨r, c, a⟩ ⟨r', c', b⟩ := ⟨_, rfl⟩
  rw [← hRES]
  unfold sumO at hRES
  simp only at hRES
  generalize stkO ⟨r, c, a⟩ ⟨r', c', b⟩ = SK at *
  generalize latB r c a = LA at *
  generalize latB r' c' b = LB at *
  have HR := Lib.hid hRES
  have HS' := Lib.hid HS
  have HA' := Lib.hid HA
  have HB' := Lib.hid HB
  clear hw1 hRES hn hm HS HA HB hs1
  go_enter Try.func7, Try.ntmps7
  go_wp2_with fail
  rw [← HW1.out]
  have ma_0 := ma.c0; have ma_1 := ma.c1; have ma_2 := ma.c2; have ma_l := ma.lt; have ma_f := ma.fz
  have mb_0 := mb.c0; have mb_1 := mb.c1; have mb_2 := mb.c2; have mb_l := mb.lt; have mb_f := mb.fz
  have mr_0 := mr.c0; have mr_1 := mr.c1; have mr_2 := mr.c2; have mr_l := mr.lt; have mr_f := mr.fz
  refine (HS'.out _ (by exact Rd.grows ha1 (by exact bel0)) (by exact Rd.grows hb1 (by exact bel0))).mono ?_; rintro e w2 ⟨v2, rfl, o2, g_w2⟩
  have s_w2 := Below.size g_w2; (try simp at s_w2)
  clear ma_0 ma_1 ma_2 ma_l ma_f
  replace ma := ma.grows (w' := w2) (by exact bel1 g_w2)
  have ma_0 := ma.c0; have ma_1 := ma.c1; have ma_2 := ma.c2; have ma_l := ma.lt; have ma_f := ma.fz
  clear mb_0 mb_1 mb_2 mb_l mb_f
  replace mb := mb.grows (w' := w2) (by exact bel1 g_w2)
  have mb_0 := mb.c0; have mb_1 := mb.c1; have mb_2 := mb.c2; have mb_l := mb.lt; have mb_f := mb.fz
  clear mr_0 mr_1 mr_2 mr_l mr_f
  replace mr := mr.grows (w' := w2) (by exact bel1 g_w2)
  have mr_0 := mr.c0; have mr_1 := mr.c1; have mr_2 := mr.c2; have mr_l := mr.lt; have mr_f := mr.fz
  replace ha1 := ha1.grows (w' := w2) (by exact bel1 g_w2)
  replace hb1 := hb1.grows (w' := w2) (by exact bel1 g_w2)
  replace HG : Grows w w2 := by exact bel2 g_w2 HG
  have h_w2 := Below.size HG
  obtain ⟨A2, c2, rfl, hr2, _⟩ := o2.val
  go_wp2_with fail
  refine (HA'.out _ (by exact Rd.grows ha1 (by exact bel0))).mono ?_; rintro e w3 ⟨rfl, g_w3⟩
  have s_w3 := Below.size g_w3; (try simp at s_w3)
  clear ma_0 ma_1 ma_2 ma_l ma_f
  replace ma := ma.grows (w' := w3) (by exact bel1 g_w3)
  have ma_0 := ma.c0; have ma_1 := ma.c1; have ma_2 := ma.c2; have ma_l := ma.lt; have ma_f := ma.fz
  clear mb_0 mb_1 mb_2 mb_l mb_f
  replace mb := mb.grows (w' := w3) (by exact bel1 g_w3)
  have mb_0 := mb.c0; have mb_1 := mb.c1; have mb_2 := mb.c2; have mb_l := mb.lt; have mb_f := mb.fz
  clear mr_0 mr_1 mr_2 mr_l mr_f
  replace mr := mr.grows (w' := w3) (by exact bel1 g_w3)
  have mr_0 := mr.c0; have mr_1 := mr.c1; have mr_2 := mr.c2; have mr_l := mr.lt; have mr_f := mr.fz
  replace ha1 := ha1.grows (w' := w3) (by exact bel1 g_w3)
  replace hb1 := hb1.grows (w' := w3) (by exact bel1 g_w3)
  replace hr2 := hr2.grows (w' := w3) (by exact bel1 g_w3)
  have ms : MBox w3 (w2.heap.size) (oM SK).r (oM SK).c (.slice A2 (oM SK).l.length c2) := MBox.grows (MBox.new_ w2 (oM SK).r (oM SK).c (.slice A2 (oM SK).l.length c2) 26 (by simp)) (w' := w3) (by exact bel1 g_w3)
  have ms_0 := ms.c0; have ms_1 := ms.c1; have ms_2 := ms.c2; have ms_l := ms.lt; have ms_f := ms.fz
  replace HG : Grows w w3 := by exact bel2 g_w3 HG
  have h_w3 := Below.size HG
  cases LA
  · obtain rfl : RES = none := HR.out
    go_wp2_with fail
    refine bodyPost_ret (v := .tuple #[.agg #[.int .i64 0, .int .i64 0, .slice none 0 0], .bool false]) ?_ rfl ?_
    · simp [results, Try.results7, go_sem, mr_0, mr_1, mr_2, mr_f, mr_l]
    · exact ⟨_, rfl, Own.nil _ _, by exact bel1 HG⟩
  · go_wp2_with fail
    refine (HB'.out _ (by exact Rd.grows hb1 (by exact bel0))).mono ?_; rintro e w4 ⟨rfl, g_w4⟩
    have s_w4 := Below.size g_w4; (try simp at s_w4)
    clear ma_0 ma_1 ma_2 ma_l ma_f
    replace ma := ma.grows (w' := w4) (by exact bel1 g_w4)
    have ma_0 := ma.c0; have ma_1 := ma.c1; have ma_2 := ma.c2; have ma_l := ma.lt; have ma_f := ma.fz
    clear mb_0 mb_1 mb_2 mb_l mb_f
    replace mb := mb.grows (w' := w4) (by exact bel1 g_w4)
    have mb_0 := mb.c0; have mb_1 := mb.c1; have mb_2 := mb.c2; have mb_l := mb.lt; have mb_f := mb.fz
    clear mr_0 mr_1 mr_2 mr_l mr_f
    replace mr := mr.grows (w' := w4) (by exact bel1 g_w4)
    have mr_0 := mr.c0; have mr_1 := mr.c1; have mr_2 := mr.c2; have mr_l := mr.lt; have mr_f := mr.fz
    replace ha1 := ha1.grows (w' := w4) (by exact bel1 g_w4)
    replace hb1 := hb1.grows (w' := w4) (by exact bel1 g_w4)
    replace hr2 := hr2.grows (w' := w4) (by exact bel1 g_w4)
    clear ms_0 ms_1 ms_2 ms_l ms_f
    replace ms := ms.grows (w' := w4) (by exact bel1 g_w4)
    have ms_0 := ms.c0; have ms_1 := ms.c1; have ms_2 := ms.c2; have ms_l := ms.lt; have ms_f := ms.fz
    replace HG : Grows w w4 := by exact bel2 g_w4 HG
    have h_w4 := Below.size HG
    cases LB
    · obtain rfl : RES = none := HR.out
      go_wp2_with fail
      refine bodyPost_ret (v := .tuple #[.agg #[.int .i64 0, .int .i64 0, .slice none 0 0], .bool false]) ?_ rfl ?_
      · simp [results, Try.results7, go_sem, mr_0, mr_1, mr_2, mr_f, mr_l]
      · exact ⟨_, rfl, Own.nil _ _, by exact bel1 HG⟩
    · cases SK with
      | none =>
        obtain rfl : RES = none := HR.out
        go_wp2_with fail
        refine bodyPost_ret (v := .tuple #[.agg #[.int .i64 0, .int .i64 0, .slice none 0 0], .bool false]) ?_ rfl ?_
        · simp [results, Try.results7, go_sem, mr_0, mr_1, mr_2, mr_f, mr_l]
        · exact ⟨_, rfl, Own.nil _ _, by exact bel1 HG⟩
      | some s =>
        have hx : s.l.length ≤ 576 := XB.out s rfl
        simp only [oM_some] at hx ms ms_0 ms_1 ms_2 hr2 ⊢
        have HRB := HR.out
        change RES = basO s at HRB
        have CB := fun W A cp h => (iBas_c s.r s.c A s.l s.l.length cp W rfl h (by omega)).mono fun _ _ h => matRet_out h
        rw [← HRB] at CB
        have CB' := Lib.hid CB
        clear CB HRB
        go_wp2_with fail
        refine (CB'.out _ _ _ (by exact Rd.grows hr2 (by exact bel0))).mono ?_; rintro e w5 ⟨v5, rfl, o5, g_w5⟩
        have s_w5 := Below.size g_w5; (try simp at s_w5)
        clear ma_0 ma_1 ma_2 ma_l ma_f
        replace ma := ma.grows (w' := w5) (by exact bel1 g_w5)
        have ma_0 := ma.c0; have ma_1 := ma.c1; have ma_2 := ma.c2; have ma_l := ma.lt; have ma_f := ma.fz
        clear mb_0 mb_1 mb_2 mb_l mb_f
        replace mb := mb.grows (w' := w5) (by exact bel1 g_w5)
        have mb_0 := mb.c0; have mb_1 := mb.c1; have mb_2 := mb.c2; have mb_l := mb.lt; have mb_f := mb.fz
        clear mr_0 mr_1 mr_2 mr_l mr_f
        replace mr := mr.grows (w' := w5) (by exact bel1 g_w5)
        have mr_0 := mr.c0; have mr_1 := mr.c1; have mr_2 := mr.c2; have mr_l := mr.lt; have mr_f := mr.fz
        replace ha1 := ha1.grows (w' := w5) (by exact bel1 g_w5)
        replace hb1 := hb1.grows (w' := w5) (by exact bel1 g_w5)
        replace hr2 := hr2.grows (w' := w5) (by exact bel1 g_w5)
        clear ms_0 ms_1 ms_2 ms_l ms_f
        replace ms := ms.grows (w' := w5) (by exact bel1 g_w5)
        have ms_0 := ms.c0; have ms_1 := ms.c1; have ms_2 := ms.c2; have ms_l := ms.lt; have ms_f := ms.fz
        replace HG : Grows w w5 := by exact bel2 g_w5 HG
        have h_w5 := Below.size HG
        obtain ⟨A5, c5, rfl, _, _⟩ := o5.val
        go_wp2_with fail
        refine bodyPost_ret (v := .tuple #[.agg #[.int .i64 (oM RES).r, .int .i64 (oM RES).c, .slice A5 (oM RES).l.length c5], .bool RES.isSome]) ?_ rfl ?_
        · simp [results, Try.results7, go_sem, mr_0, mr_1, mr_2, mr_f, mr_l]
        · exact ⟨_, rfl, by exact ownl o5, by exact bel1 HG⟩
theorem sSum_c (r c r' c' : Int) (A B : Option Addr) (a b : List Int) (n m ca cb : Nat) (w : World) (hn : a.length = n) (hm : b.length = m) (ha : Rd w A a) (hb : Rd w B b) (hl : n ≤ 1099511627776) (hl2 : m ≤ 1099511627776) :
    Calls Try.prog 8 #[.agg #[.int .i64 r, .int .i64 c, .slice A n ca], .agg #[.int .i64 r', .int .i64 c', .slice B m cb]] w (MatRet (sumO ⟨r, c, a⟩ ⟨r', c', b⟩) w) := by
  have HS := fun W h h' => (sStk_c r c r' c' A B a b n m ca cb W hn hm h h' hl hl2).mono fun _ _ h => matRet_out h
  have HA := fun W h => sIsLat_c r c A a n ca W hn h hl
  have HB := fun W h => sIsLat_c r' c' B b m cb W hm h hl2
  have XB := Lib.hid fun (x : MX) (h : stkO ⟨r, c, a⟩ ⟨r', c', b⟩ = some x) => (oM_length (o := some x) fun m h2 => by cases h2; exact stkO_ok h)
  obtain ⟨w1, hw1, ma, mb, mr, hs1, HG⟩ := two_mats w r c r' c' (.slice A n ca) (.slice B m cb)
  have HW1 := Lib.hid hw1
  have hr0 := mr.lt
  have ha1 := ha.grows HG
  have hb1 := hb.grows HG
  obtain ⟨RES, hRES⟩ : ∃ x, x = sumO ⟨r, c, a⟩ ⟨r', c', b⟩ := ⟨_, rfl⟩
  rw [← hRES]
  unfold sumO at hRES
  simp only at hRES
  generalize stkO ⟨r, c, a⟩ ⟨r', c', b⟩ = SK at *
  generalize latB r c a = LA at *
  generalize latB r' c' b = LB at *
  have HR := Lib.hid hRES
  have HS' := Lib.hid HS
  have HA' := Lib.hid HA
  have HB' := Lib.hid HB
  clear hw1 hRES hn hm HS HA HB hs1
  go_enter Try.func8, Try.ntmps8
  go_wp2_with fail
  rw [← HW1.out]
  have ma_0 := ma.c0; have ma_1 := ma.c1; have ma_2 := ma.c2; have ma_l := ma.lt; have ma_f := ma.fz
  have mb_0 := mb.c0; have mb_1 := mb.c1; have mb_2 := mb.c2; have mb_l := mb.lt; have mb_f := mb.fz
  have mr_0 := mr.c0; have mr_1 := mr.c1; have mr_2 := mr.c2; have mr_l := mr.lt; have mr_f := mr.fz
  refine (HS'.out _ (by exact Rd.grows ha1 (by exact bel0)) (by exact Rd.grows hb1 (by exact bel0))).mono ?_; rintro e w2 ⟨v2, rfl, o2, g_w2⟩
  have s_w2 := Below.size g_w2; (try simp at s_w2)
  clear ma_0 ma_1 ma_2 ma_l ma_f
  replace ma := ma.grows (w' := w2) (by exact bel1 g_w2)
  have ma_0 := ma.c0; have ma_1 := ma.c1; have ma_2 := ma.c2; have ma_l := ma.lt; have ma_f := ma.fz
  clear mb_0 mb_1 mb_2 mb_l mb_f
  replace mb := mb.grows (w' := w2) (by exact bel1 g_w2)
  have mb_0 := mb.c0; have mb_1 := mb.c1; have mb_2 := mb.c2; have mb_l := mb.lt; have mb_f := mb.fz
  clear mr_0 mr_1 mr_2 mr_l mr_f
  replace mr := mr.grows (w' := w2) (by exact bel1 g_w2)
  have mr_0 := mr.c0; have mr_1 := mr.c1; have mr_2 := mr.c2; have mr_l := mr.lt; have mr_f := mr.fz
  replace ha1 := ha1.grows (w' := w2) (by exact bel1 g_w2)
  replace hb1 := hb1.grows (w' := w2) (by exact bel1 g_w2)
  replace HG : Grows w w2 := by exact bel2 g_w2 HG
  have h_w2 := Below.size HG
  obtain ⟨A2, c2, rfl, hr2, _⟩ := o2.val
  cases SK with
  | none =>
    obtain rfl : RES = none := by have := HR.out; cases LA <;> cases LB <;> exact this
    go_wp2_with fail
    refine bodyPost_ret (v := .tuple #[.agg #[.int .i64 0, .int .i64 0, .slice none 0 0], .bool false]) ?_ rfl ?_
    · simp [results, Try.results8, go_sem, mr_0, mr_1, mr_2, mr_f, mr_l]
    · exact ⟨_, rfl, Own.nil _ _, by exact bel1 HG⟩
  | some s =>
    simp only [oM_some] at hr2 ⊢
    go_wp2_with fail
    refine (HA'.out _ (by exact Rd.grows ha1 (by exact bel0))).mono ?_; rintro e w3 ⟨rfl, g_w3⟩
    have s_w3 := Below.size g_w3; (try simp at s_w3)
    clear ma_0 ma_1 ma_2 ma_l ma_f
    replace ma := ma.grows (w' := w3) (by exact bel1 g_w3)
    have ma_0 := ma.c0; have ma_1 := ma.c1; have ma_2 := ma.c2; have ma_l := ma.lt; have ma_f := ma.fz
    clear mb_0 mb_1 mb_2 mb_l mb_f
    replace mb := mb.grows (w' := w3) (by exact bel1 g_w3)
    have mb_0 := mb.c0; have mb_1 := mb.c1; have mb_2 := mb.c2; have mb_l := mb.lt; have mb_f := mb.fz
    clear mr_0 mr_1 mr_2 mr_l mr_f
    replace mr := mr.grows (w' := w3) (by exact bel1 g_w3)
    have mr_0 := mr.c0; have mr_1 := mr.c1; have mr_2 := mr.c2; have mr_l := mr.lt; have mr_f := mr.fz
    replace ha1 := ha1.grows (w' := w3) (by exact bel1 g_w3)
    replace hb1 := hb1.grows (w' := w3) (by exact bel1 g_w3)
    replace hr2 := hr2.grows (w' := w3) (by exact bel1 g_w3)
    have ms : MBox w3 (w2.heap.size) s.r s.c (.slice A2 s.l.length c2) := MBox.grows (MBox.new_ w2 s.r s.c (.slice A2 s.l.length c2) 26 (by simp)) (w' := w3) (by exact bel1 g_w3)
    have ms_0 := ms.c0; have ms_1 := ms.c1; have ms_2 := ms.c2; have ms_l := ms.lt; have ms_f := ms.fz
    replace HG : Grows w w3 := by exact bel2 g_w3 HG
    have h_w3 := Below.size HG
    cases LA
    · obtain rfl : RES = none := HR.out
      go_wp2_with fail
      refine bodyPost_ret (v := .tuple #[.agg #[.int .i64 0, .int .i64 0, .slice none 0 0], .bool false]) ?_ rfl ?_
      · simp [results, Try.results8, go_sem, mr_0, mr_1, mr_2, mr_f, mr_l]
      · exact ⟨_, rfl, Own.nil _ _, by exact bel1 HG⟩
    · go_wp2_with fail
      refine (HB'.out _ (by exact Rd.grows hb1 (by exact bel0))).mono ?_; rintro e w4 ⟨rfl, g_w4⟩
      have s_w4 := Below.size g_w4; (try simp at s_w4)
      clear ma_0 ma_1 ma_2 ma_l ma_f
      replace ma := ma.grows (w' := w4) (by exact bel1 g_w4)
      have ma_0 := ma.c0; have ma_1 := ma.c1; have ma_2 := ma.c2; have ma_l := ma.lt; have ma_f := ma.fz
      clear mb_0 mb_1 mb_2 mb_l mb_f
      replace mb := mb.grows (w' := w4) (by exact bel1 g_w4)
      have mb_0 := mb.c0; have mb_1 := mb.c1; have mb_2 := mb.c2; have mb_l := mb.lt; have mb_f := mb.fz
      clear mr_0 mr_1 mr_2 mr_l mr_f
      replace mr := mr.grows (w' := w4) (by exact bel1 g_w4)
      have mr_0 := mr.c0; have mr_1 := mr.c1; have mr_2 := mr.c2; have mr_l := mr.lt; have mr_f := mr.fz
      replace ha1 := ha1.grows (w' := w4) (by exact bel1 g_w4)
      replace hb1 := hb1.grows (w' := w4) (by exact bel1 g_w4)
      replace hr2 := hr2.grows (w' := w4) (by exact bel1 g_w4)
      clear ms_0 ms_1 ms_2 ms_l ms_f
      replace ms := ms.grows (w' := w4) (by exact bel1 g_w4)
      have ms_0 := ms.c0; have ms_1 := ms.c1; have ms_2 := ms.c2; have ms_l := ms.lt; have ms_f := ms.fz
      replace HG : Grows w w4 := by exact bel2 g_w4 HG
      have h_w4 := Below.size HG
      cases LB
      · obtain rfl : RES = none := HR.out
        go_wp2_with fail
        refine bodyPost_ret (v := .tuple #[.agg #[.int .i64 0, .int .i64 0, .slice none 0 0], .bool false]) ?_ rfl ?_
        · simp [results, Try.results8, go_sem, mr_0, mr_1, mr_2, mr_f, mr_l]
        · exact ⟨_, rfl, Own.nil _ _, by exact bel1 HG⟩
      · have hx : s.l.length ≤ 576 := XB.out s rfl
        have HRB := HR.out
        change RES = basO s at HRB
        have CB := fun W A cp h => (sBas_c s.r s.c A s.l s.l.length cp W rfl h (by omega)).mono fun _ _ h => matRet_out h
        rw [← HRB] at CB
        have CB' := Lib.hid CB
        clear CB HRB
        go_wp2_with fail
        refine (CB'.out _ _ _ (by exact Rd.grows hr2 (by exact bel0))).mono ?_; rintro e w5 ⟨v5, rfl, o5, g_w5⟩
        have s_w5 := Below.size g_w5; (try simp at s_w5)
        clear ma_0 ma_1 ma_2 ma_l ma_f
        replace ma := ma.grows (w' := w5) (by exact bel1 g_w5)
        have ma_0 := ma.c0; have ma_1 := ma.c1; have ma_2 := ma.c2; have ma_l := ma.lt; have ma_f := ma.fz
        clear mb_0 mb_1 mb_2 mb_l mb_f
        replace mb := mb.grows (w' := w5) (by exact bel1 g_w5)
        have mb_0 := mb.c0; have mb_1 := mb.c1; have mb_2 := mb.c2; have mb_l := mb.lt; have mb_f := mb.fz
        clear mr_0 mr_1 mr_2 mr_l mr_f
        replace mr := mr.grows (w' := w5) (by exact bel1 g_w5)
        have mr_0 := mr.c0; have mr_1 := mr.c1; have mr_2 := mr.c2; have mr_l := mr.lt; have mr_f := mr.fz
        replace ha1 := ha1.grows (w' := w5) (by exact bel1 g_w5)
        replace hb1 := hb1.grows (w' := w5) (by exact bel1 g_w5)
        replace hr2 := hr2.grows (w' := w5) (by exact bel1 g_w5)
        clear ms_0 ms_1 ms_2 ms_l ms_f
        replace ms := ms.grows (w' := w5) (by exact bel1 g_w5)
        have ms_0 := ms.c0; have ms_1 := ms.c1; have ms_2 := ms.c2; have ms_l := ms.lt; have ms_f := ms.fz
        replace HG : Grows w w5 := by exact bel2 g_w5 HG
        have h_w5 := Below.size HG
        obtain ⟨A5, c5, rfl, _, _⟩ := o5.val
        go_wp2_with fail
        refine bodyPost_ret (v := .tuple #[.agg #[.int .i64 (oM RES).r, .int .i64 (oM RES).c, .slice A5 (oM RES).l.length c5], .bool RES.isSome]) ?_ rfl ?_
        · simp [results, Try.results8, go_sem, mr_0, mr_1, mr_2, mr_f, mr_l]
        · exact ⟨_, rfl, by exact ownl o5, by exact bel1 HG⟩
end
end Go.Proofs.Ythajmffhgbenpaa

/- Contracts: the lattice of the vectors whose products with a vector are multiples of a number. -/
namespace Go.Proofs.Ythajmffhgbenpaa
set_option linter.unusedSimpArgs false
set_option linter.unusedVariables false
open Go.RowKit

/-- the first N columns of a kernel, a basis of their rows -/
def cutO (o : Option MX) (N : Nat) : Option MX := o.bind fun k => basO ⟨k.r, N, fcL k.r.toNat k.c.toNat N k.l⟩
def conO (v : List Int) (n : Int) : Option MX := if 1 ≤ n then cutO (kerO ⟨((v.length + 1 : Nat) : Int), 1, v ++ [n]⟩) v.length else none
theorem cutO_ok {o : Option MX} {N : Nat} {m : MX} (h : cutO o N = some m) : m.ok = true := by
  unfold cutO at h
  obtain ⟨x, _, h2⟩ := Option.bind_eq_some_iff.1 h
  exact basO_ok h2
theorem conO_ok {v : List Int} {n : Int} {m : MX} (h : conO v n = some m) : m.ok = true := by
  unfold conO at h
  split at h
  · exact cutO_ok h
  · cases h
theorem cutO_some {T C N : Nat} {l : List Int} : cutO (some ⟨T, C, l⟩) N = basO ⟨T, N, fcL T C N l⟩ := by
  show basO _ = _
  simp only [Int.toNat_natCast]

section
set_option maxHeartbeats 2000000
theorem kerO_no {a : MX} (h : a.ok = false) : kerO a = none := by unfold kerO; rw [hermO_no h]; rfl
theorem keep3 {W : World} {b b' : Nat} {r c r' c' : Int} {v v' : Value} (h : MBox W b r c v) (h' : MBox W b' r' c' v') : W.cell? ⟨b, 1, none⟩ = some (.int .i64 c) ∧ W.cell? ⟨b, 2, none⟩ = some v ∧ W.cell? ⟨b', 2, none⟩ = some v' := ⟨h.c1, h.c2, h'.c2⟩
end
end Go.Proofs.Ythajmffhgbenpaa

/- Contracts: what two lattices have in common. -/
namespace Go.Proofs.Ythajmffhgbenpaa
set_option linter.unusedSimpArgs false
set_option linter.unusedVariables false
open Go.RowKit

def meetK (a : MX) (k : MX) : Option MX := (mulO ⟨k.r, a.r, fcL k.r.toNat k.c.toNat a.r.toNat k.l⟩ a).bind basO
def meetO (a b : MX) : Option MX := if latB a.r a.c a.l && latB b.r b.c b.l then (stkO a b).bind fun s => (kerO s).bind (meetK a) else none
theorem meetO_ok {a b m : MX} (h : meetO a b = some m) : m.ok = true := by
  unfold meetO at h
  split at h
  · obtain ⟨s, _, h⟩ := Option.bind_eq_some_iff.1 h
    obtain ⟨k, _, h⟩ := Option.bind_eq_some_iff.1 h
    unfold meetK at h
    obtain ⟨p, _, h⟩ := Option.bind_eq_some_iff.1 h
    exact basO_ok h
  · cases h
theorem meetK_nat {N C T : Nat} {c : Int} {a l : List Int} : meetK ⟨N, c, a⟩ ⟨T, C, l⟩ = (mulO ⟨T, N, fcL T C N l⟩ ⟨N, c, a⟩).bind basO := by
  unfold meetK
  simp only [Int.toNat_natCast]
theorem stkO_rows {a b s : MX} (h : stkO a b = some s) : s.r = a.r + b.r := by
  unfold stkO at h
  split at h
  · cases h; rfl
  · cases h
theorem meet_shape {N M C T : Nat} {s k : MX} {c : Int} {a : List Int} (hs : s.r = (N : Int) + (M : Int)) (hk : kerO s = some k) : ∃ (T C : Nat) (l : List Int), k = ⟨T, C, l⟩ ∧ T ≤ 24 ∧ C ≤ 24 ∧ N ≤ C ∧ l.length = T * C := by
  obtain ⟨T, C, l, rfl, e, h1, h2, h3, _⟩ := kerO_shape hk
  exact ⟨T, C, l, rfl, h1, h2, by omega, h3⟩
theorem lat_rows {r c : Int} {l : List Int} (h : latB r c l = true) : ∃ R : Nat, r = R ∧ R ≤ 24 := by
  obtain ⟨R, C, e1, _, hR, _⟩ := isMat_nat (latB_parts h).1
  exact ⟨R, e1, hR⟩

section
set_option maxHeartbeats 4000000
theorem iMeet_c (r c r' c' : Int) (A B : Option Addr) (a b : List Int) (n m ca cb : Nat) (w : World) (hn : a.length = n) (hm : b.length = m) (hca : n ≤ ca) (hca2 : ca ≤ 9223372036854775807) (hcb : m ≤ cb) (hcb2 : cb ≤ 9223372036854775807) (ha : Rd w A a) (hb : Rd w B b) (hl : n ≤ 1099511627776) (hl2 : m ≤ 1099511627776) :
    Calls Try.prog 9 #[.agg #[.int .i64 r, .int .i64 c, .slice A n ca], .agg #[.int .i64 r', .int .i64 c', .slice B m cb]] w (MatRet (meetO ⟨r, c, a⟩ ⟨r', c', b⟩) w) := by
  have HS := fun W h h' => (iStk_c r c r' c' A B a b n m ca cb W hn hm h h' hl hl2).mono fun _ _ h => matRet_out h
  have HA := fun W h => iIsLat_c r c A a n ca W hn hca hca2 h hl
  have HB := fun W h => iIsLat_c r' c' B b m cb W hm hcb hcb2 h hl2
  have XB := Lib.hid fun (x : MX) (h : stkO ⟨r, c, a⟩ ⟨r', c', b⟩ = some x) => (oM_length (o := some x) fun m h2 => by cases h2; exact stkO_ok h)
  have XR := Lib.hid fun (x : MX) (h : stkO ⟨r, c, a⟩ ⟨r', c', b⟩ = some x) => stkO_rows h
  have LR := Lib.hid fun (h : latB r c a = true) => lat_rows h
  have LR' := Lib.hid fun (h : latB r' c' b = true) => lat_rows h
  have HN := Lib.hid hn
  obtain ⟨w1, hw1, ma, mb, mr, hs1, HG⟩ := two_mats w r c r' c' (.slice A n ca) (.slice B m cb)
  have HW1 := Lib.hid hw1
  have hr0 := mr.lt
  have ha1 := ha.grows HG
  have hb1 := hb.grows HG
  obtain ⟨RES, hRES⟩ : ∃ x, x = meetO ⟨r, c, a⟩ ⟨r', c', b⟩ := ⟨_, rfl⟩
  rw [← hRES]
  unfold meetO at hRES
  simp only at hRES
  generalize stkO ⟨r, c, a⟩ ⟨r', c', b⟩ = SK at *
  generalize latB r c a = LA at *
  generalize latB r' c' b = LB at *
  have HR := Lib.hid hRES
  have HS' := Lib.hid HS
  have HA' := Lib.hid HA
  have HB' := Lib.hid HB
  clear hw1 hRES hn hm HS HA HB hs1
  go_enter Try.func9, Try.ntmps9
  go_wp2_with fail
  rw [← HW1.out]
  have ma_0 := ma.c0; have ma_1 := ma.c1; have ma_2 := ma.c2; have ma_l := ma.lt; have ma_f := ma.fz
  have mb_0 := mb.c0; have mb_1 := mb.c1; have mb_2 := mb.c2; have mb_l := mb.lt; have mb_f := mb.fz
  have mr_0 := mr.c0; have mr_1 := mr.c1; have mr_2 := mr.c2; have mr_l := mr.lt; have mr_f := mr.fz
  refine (HS'.out _ (by exact Rd.grows ha1 (by exact bel0)) (by exact Rd.grows hb1 (by exact bel0))).mono ?_; rintro e w2 ⟨v2, rfl, o2, g_w2⟩
  have s_w2 := Below.size g_w2; (try simp at s_w2)
  clear ma_0 ma_1 ma_2 ma_l ma_f
  replace ma := ma.grows (w' := w2) (by exact bel1 g_w2)
  have ma_0 := ma.c0; have ma_1 := ma.c1; have ma_2 := ma.c2; have ma_l := ma.lt; have ma_f := ma.fz
  clear mb_0 mb_1 mb_2 mb_l mb_f
  replace mb := mb.grows (w' := w2) (by exact bel1 g_w2)
  have mb_0 := mb.c0; have mb_1 := mb.c1; have mb_2 := mb.c2; have mb_l := mb.lt; have mb_f := mb.fz
  clear mr_0 mr_1 mr_2 mr_l mr_f
  replace mr := mr.grows (w' := w2) (by exact bel1 g_w2)
  have mr_0 := mr.c0; have mr_1 := mr.c1; have mr_2 := mr.c2; have mr_l := mr.lt; have mr_f := mr.fz
  replace ha1 := ha1.grows (w' := w2) (by exact bel1 g_w2)
  replace hb1 := hb1.grows (w' := w2) (by exact bel1 g_w2)
  replace HG : Grows w w2 := by exact bel2 g_w2 HG
  have h_w2 := Below.size HG
  obtain ⟨A2, c2, rfl, hr2, _⟩ := o2.val
  go_wp2_with fail
  refine (HA'.out _ (by exact Rd.grows ha1 (by exact bel0))).mono ?_; rintro e w3 ⟨rfl, g_w3⟩
  have s_w3 := Below.size g_w3; (try simp at s_w3)
  clear ma_0 ma_1 ma_2 ma_l ma_f
  replace ma := ma.grows (w' := w3) (by exact bel1 g_w3)
  have ma_0 := ma.c0; have ma_1 := ma.c1; have ma_2 := ma.c2; have ma_l := ma.lt; have ma_f := ma.fz
  clear mb_0 mb_1 mb_2 mb_l mb_f
  replace mb := mb.grows (w' := w3) (by exact bel1 g_w3)
  have mb_0 := mb.c0; have mb_1 := mb.c1; have mb_2 := mb.c2; have mb_l := mb.lt; have mb_f := mb.fz
  clear mr_0 mr_1 mr_2 mr_l mr_f
  replace mr := mr.grows (w' := w3) (by exact bel1 g_w3)
  have mr_0 := mr.c0; have mr_1 := mr.c1; have mr_2 := mr.c2; have mr_l := mr.lt; have mr_f := mr.fz
  replace ha1 := ha1.grows (w' := w3) (by exact bel1 g_w3)
  replace hb1 := hb1.grows (w' := w3) (by exact bel1 g_w3)
  replace hr2 := hr2.grows (w' := w3) (by exact bel1 g_w3)
  have ms : MBox w3 (w2.heap.size) (oM SK).r (oM SK).c (.slice A2 (oM SK).l.length c2) := MBox.grows (MBox.new_ w2 (oM SK).r (oM SK).c (.slice A2 (oM SK).l.length c2) 26 (by simp)) (w' := w3) (by exact bel1 g_w3)
  have ms_0 := ms.c0; have ms_1 := ms.c1; have ms_2 := ms.c2; have ms_l := ms.lt; have ms_f := ms.fz
  replace HG : Grows w w3 := by exact bel2 g_w3 HG
  have h_w3 := Below.size HG
  cases LA
  · obtain rfl : RES = none := HR.out
    go_wp2_with fail
    refine bodyPost_ret (v := .tuple #[.agg #[.int .i64 0, .int .i64 0, .slice none 0 0], .bool false]) ?_ rfl ?_
    · simp [results, Try.results9, go_sem, mr_0, mr_1, mr_2, mr_f, mr_l]
    · exact ⟨_, rfl, Own.nil _ _, by exact bel1 HG⟩
  · go_wp2_with fail
    refine (HB'.out _ (by exact Rd.grows hb1 (by exact bel0))).mono ?_; rintro e w4 ⟨rfl, g_w4⟩
    have s_w4 := Below.size g_w4; (try simp at s_w4)
    clear ma_0 ma_1 ma_2 ma_l ma_f
    replace ma := ma.grows (w' := w4) (by exact bel1 g_w4)
    have ma_0 := ma.c0; have ma_1 := ma.c1; have ma_2 := ma.c2; have ma_l := ma.lt; have ma_f := ma.fz
    clear mb_0 mb_1 mb_2 mb_l mb_f
    replace mb := mb.grows (w' := w4) (by exact bel1 g_w4)
    have mb_0 := mb.c0; have mb_1 := mb.c1; have mb_2 := mb.c2; have mb_l := mb.lt; have mb_f := mb.fz
    clear mr_0 mr_1 mr_2 mr_l mr_f
    replace mr := mr.grows (w' := w4) (by exact bel1 g_w4)
    have mr_0 := mr.c0; have mr_1 := mr.c1; have mr_2 := mr.c2; have mr_l := mr.lt; have mr_f := mr.fz
    replace ha1 := ha1.grows (w' := w4) (by exact bel1 g_w4)
    replace hb1 := hb1.grows (w' := w4) (by exact bel1 g_w4)
    replace hr2 := hr2.grows (w' := w4) (by exact bel1 g_w4)
    clear ms_0 ms_1 ms_2 ms_l ms_f
    replace ms := ms.grows (w' := w4) (by exact bel1 g_w4)
    have ms_0 := ms.c0; have ms_1 := ms.c1; have ms_2 := ms.c2; have ms_l := ms.lt; have ms_f := ms.fz
    replace HG : Grows w w4 := by exact bel2 g_w4 HG
    have h_w4 := Below.size HG
    cases LB
    · obtain rfl : RES = none := HR.out
      go_wp2_with fail
      refine bodyPost_ret (v := .tuple #[.agg #[.int .i64 0, .int .i64 0, .slice none 0 0], .bool false]) ?_ rfl ?_
      · simp [results, Try.results9, go_sem, mr_0, mr_1, mr_2, mr_f, mr_l]
      · exact ⟨_, rfl, Own.nil _ _, by exact bel1 HG⟩
    · cases SK with
      | none =>
        obtain rfl : RES = none := HR.out
        go_wp2_with fail
        refine bodyPost_ret (v := .tuple #[.agg #[.int .i64 0, .int .i64 0, .slice none 0 0], .bool false]) ?_ rfl ?_
        · simp [results, Try.results9, go_sem, mr_0, mr_1, mr_2, mr_f, mr_l]
        · exact ⟨_, rfl, Own.nil _ _, by exact bel1 HG⟩
      | some s =>
        have hx : s.l.length ≤ 576 := XB.out s rfl
        obtain ⟨N, rfl, hN24⟩ := LR.out (by simp)
        obtain ⟨M, rfl, hM24⟩ := LR'.out (by simp)
        have hsr : s.r = (N : Int) + (M : Int) := XR.out s rfl
        simp only [oM_some] at hx ms ms_0 ms_1 ms_2 hr2 ⊢
        have HRB := HR.out
        change RES = (kerO s).bind (meetK ⟨N, c, a⟩) at HRB
        have CK := fun W A cp h => (iKer_c s.r s.c A s.l s.l.length cp W rfl h (by omega)).mono fun _ _ h => matRet_out h
        change ∀ W A cp h, Calls _ _ _ W (fun e w' => ∃ v, e = .returned (.tuple #[.agg #[.int .i64 (oM (kerO s)).r, .int .i64 (oM (kerO s)).c, v], .bool (kerO s).isSome]) ∧ Own w' W.heap.size v (oM (kerO s)).l ∧ Grows W w') at CK
        have KSH := Lib.hid fun k h => meet_shape (N := N) (M := M) (s := s) (k := k) (T := 0) (C := 0) (c := 0) (a := []) hsr h
        generalize kerO s = KO at *
        have CK' := Lib.hid CK
        have HR2 := Lib.hid HRB
        clear CK HRB hsr
        go_wp2_with fail
        refine (CK'.out _ _ _ (by exact Rd.grows hr2 (by exact bel0))).mono ?_; rintro e w5 ⟨v5, rfl, o5, g_w5⟩
        have s_w5 := Below.size g_w5; (try simp at s_w5)
        clear ma_0 ma_1 ma_2 ma_l ma_f
        replace ma := ma.grows (w' := w5) (by exact bel1 g_w5)
        have ma_0 := ma.c0; have ma_1 := ma.c1; have ma_2 := ma.c2; have ma_l := ma.lt; have ma_f := ma.fz
        clear mb_0 mb_1 mb_2 mb_l mb_f
        replace mb := mb.grows (w' := w5) (by exact bel1 g_w5)
        have mb_0 := mb.c0; have mb_1 := mb.c1; have mb_2 := mb.c2; have mb_l := mb.lt; have mb_f := mb.fz
        clear mr_0 mr_1 mr_2 mr_l mr_f
        replace mr := mr.grows (w' := w5) (by exact bel1 g_w5)
        have mr_0 := mr.c0; have mr_1 := mr.c1; have mr_2 := mr.c2; have mr_l := mr.lt; have mr_f := mr.fz
        replace ha1 := ha1.grows (w' := w5) (by exact bel1 g_w5)
        replace hb1 := hb1.grows (w' := w5) (by exact bel1 g_w5)
        replace hr2 := hr2.grows (w' := w5) (by exact bel1 g_w5)
        clear ms_0 ms_1 ms_2 ms_l ms_f
        replace ms := ms.grows (w' := w5) (by exact bel1 g_w5)
        have ms_0 := ms.c0; have ms_1 := ms.c1; have ms_2 := ms.c2; have ms_l := ms.lt; have ms_f := ms.fz
        replace HG : Grows w w5 := by exact bel2 g_w5 HG
        have h_w5 := Below.size HG
        obtain ⟨A5, c5, rfl, hr5, _⟩ := o5.val
        cases KO with
        | none =>
          obtain rfl : RES = none := HR2.out
          go_wp2_with fail
          refine bodyPost_ret (v := .tuple #[.agg #[.int .i64 0, .int .i64 0, .slice none 0 0], .bool false]) ?_ rfl ?_
          · simp [results, Try.results9, go_sem, mr_0, mr_1, mr_2, mr_f, mr_l]
          · exact ⟨_, rfl, Own.nil _ _, by exact bel1 HG⟩
        | some k =>
          obtain ⟨T, C, l, rfl, hT, hC24, hNC, hll⟩ := KSH.out k rfl
          simp only [oM_some] at o5 hr5 ⊢
          have hcp := o5.caps
          have HLL := Lib.hid hll
          have CF := Lib.hid fun W A cp h1 h2 h => firstCols_c T C N A l l.length cp W rfl HLL.out hT hC24 hNC h1 h2 h
          have hRB : RES = (mulO ⟨T, N, fcL T C N l⟩ ⟨N, c, a⟩).bind basO := HR2.out.trans meetK_nat
          have hTN : T * N ≤ 576 := by have := Nat.mul_le_mul hT hN24; omega
          have hfl := fcL_length T C N l
          have CM := fun W A' cp h h' => (iMul_m T N N c A' A (fcL T C N l) a (T * N) n cp ca W hfl HN.out h h' (by omega) hl).mono fun _ _ h => matRet_out h
          have XP := Lib.hid fun (x : MX) (h : mulO ⟨T, N, fcL T C N l⟩ ⟨N, c, a⟩ = some x) => (oM_length (o := some x) fun m h2 => by cases h2; exact mulO_ok h)
          generalize mulO ⟨T, N, fcL T C N l⟩ ⟨N, c, a⟩ = PO at *
          generalize fcL T C N l = F at *
          have CM' := Lib.hid CM
          have HFL := Lib.hid hfl
          have HR3 := Lib.hid hRB
          clear CM hRB hll hfl
          obtain ⟨wk, hwk⟩ : ∃ wk, wk = w5.alloc (.cells #[.int .i64 T, .int .i64 C, .slice A5 l.length c5] 26) := ⟨_, rfl⟩
          have mk : MBox wk w5.heap.size T C (.slice A5 l.length c5) := by rw [hwk]; exact MBox.mk_ _ _ _ _ _
          have g5k : Grows w5 wk := by rw [hwk]; exact bel0
          have mak := ma.grows (w' := wk) g5k
          have hrk := hr5.grows g5k
          have hak := ha1.grows g5k
          have HWK := Lib.hid hwk
          clear hwk
          go_wp2_with fail
          rw [← HWK.out]
          go_cut [10, 11] (fun s10 s11 wx => ∃ (g : Nat) (A8 : Option Addr) (c8 : Nat), s10 = .pointer (some ⟨g, 0, none⟩) ∧ s11 = .bool PO.isSome ∧ MBox wx g (oM PO).r (oM PO).c (.slice A8 (oM PO).l.length c8) ∧ Own wx wk.heap.size (.slice A8 (oM PO).l.length c8) (oM PO).l ∧ Grows wk wx)
          case first =>
            go_region_held3 (fun W => W.cell? ⟨w.heap.size, 0, none⟩ = some (.int .i64 N) ∧ W.cell? ⟨w.heap.size, 1, none⟩ = some (.int .i64 c) ∧ W.cell? ⟨w.heap.size, 2, none⟩ = some (.slice A n ca) ∧ W.cell? ⟨w5.heap.size, 0, none⟩ = some (.int .i64 T) ∧ W.cell? ⟨w5.heap.size, 1, none⟩ = some (.int .i64 C) ∧ W.cell? ⟨w5.heap.size, 2, none⟩ = some (.slice A5 l.length c5)) ((refine two_boxes2 (v := .slice A n ca) (v' := .slice A5 l.length c5) (mak.grows ?_) (mk.grows ?_)) <;> first | exact bel2 p7 p6 | exact bel1 p6 | exact bel0)
              (first
                | (go_at_call 26; with_reducible refine (CF.out _ _ _ hcp.2.1 hcp.2.2 (by exact (Rd.grows hrk (by exact bel0)))).mono ?_; rintro e w6 hop; obtain ⟨v6, rfl, o6, p6⟩ := mat1_out hop; clear hop; obtain ⟨A6, c6, rfl, hr6, _⟩ := o6.val; simp only at hr6 ⊢; rw [HFL.out]; have z6 := Below.size p6; (try simp at z6); (try (have q := (MBox.mk_ wk 0 0 (.slice none 0 0) 26).grows (w' := w6) (Grows.trans (show Grows _ _ from (Below.refl _ _).drew) p6))))
                | (go_at_call 25; refine (CM'.out _ _ _ (by exact (Rd.grows hr6 (by exact bel0))) (by exact (Rd.grows hak (by exact bel1 p6)))).mono ?_; rintro e w7 ⟨v7, rfl, o7, p7⟩; obtain ⟨A7, c7, rfl, _, _⟩ := o7.val; have z7 := Below.size p7; (try simp at z7); (first | (replace q := q.grows p7) | (have q := MBox.grows (MBox.mk_ w6 0 0 (.slice none 0 0) 26) p7) | skip); (try (obtain ⟨q0, q1, q2⟩ := q.cells; have qf := q.fz; have ql := q.lt))))
            all_goals
              go_wp2_with fail
              go_meet
              exact ⟨_, A7, c7, rfl, rfl, (by first | exact MBox.put q _ _ _ | exact MBox.mk_ _ _ _ _ _ | exact MBox.put (MBox.mk_ _ _ _ _ _) _ _ _), (by (have hb_ := fun k hk => World.ownsRow.lt o7 k hk; have ho_ := Own.less o7 (show wk.heap.size ≤ _ by first | omega | (simp; done) | (simp; omega)); (repeat' (first | with_reducible exact ho_ | with_reducible refine Own.alloc ?_ _ | with_reducible refine Own.drew ?_ | with_reducible refine Own.far ?_ ?_ _)); all_goals first | (intro k hk; have := hb_ k hk; (try simp at this); (try simp); omega) | omega | (simp; done) | (simp; omega))), (by exact bel2 p7 p6)⟩
          case rest =>
            obtain ⟨g, A7, c7, rfl, rfl, mp, o7, gkc⟩ := hcut
            obtain ⟨w7, rfl⟩ : ∃ x : World, x = wc := ⟨_, rfl⟩
            have hr7 := o7.rd'
            have g_w7 : Grows (w5.alloc (.cells #[.int .i64 T, .int .i64 C, .slice A5 l.length c5] 26)) w7 := by rw [← HWK.out]; exact gkc
            clear mk mak hrk hak
            have s_w7 := Below.size g_w7; (try simp at s_w7)
            clear ma_0 ma_1 ma_2 ma_l ma_f
            replace ma := ma.grows (w' := w7) (by exact bel1 g_w7)
            have ma_0 := ma.c0; have ma_1 := ma.c1; have ma_2 := ma.c2; have ma_l := ma.lt; have ma_f := ma.fz
            clear mb_0 mb_1 mb_2 mb_l mb_f
            replace mb := mb.grows (w' := w7) (by exact bel1 g_w7)
            have mb_0 := mb.c0; have mb_1 := mb.c1; have mb_2 := mb.c2; have mb_l := mb.lt; have mb_f := mb.fz
            clear mr_0 mr_1 mr_2 mr_l mr_f
            replace mr := mr.grows (w' := w7) (by exact bel1 g_w7)
            have mr_0 := mr.c0; have mr_1 := mr.c1; have mr_2 := mr.c2; have mr_l := mr.lt; have mr_f := mr.fz
            replace ha1 := ha1.grows (w' := w7) (by exact bel1 g_w7)
            replace hb1 := hb1.grows (w' := w7) (by exact bel1 g_w7)
            replace hr2 := hr2.grows (w' := w7) (by exact bel1 g_w7)
            clear ms_0 ms_1 ms_2 ms_l ms_f
            replace ms := ms.grows (w' := w7) (by exact bel1 g_w7)
            have ms_0 := ms.c0; have ms_1 := ms.c1; have ms_2 := ms.c2; have ms_l := ms.lt; have ms_f := ms.fz
            replace hr5 := hr5.grows (w' := w7) (by exact bel1 g_w7)
            replace o5 := o5.grows (w' := w7) (by exact bel1 g_w7)
            have mk : MBox w7 (w5.heap.size) T C (.slice A5 l.length c5) := MBox.grows (MBox.new_ w5 T C (.slice A5 l.length c5) 26 (by simp)) (w' := w7) (by exact bel1 g_w7)
            have mk_0 := mk.c0; have mk_1 := mk.c1; have mk_2 := mk.c2; have mk_l := mk.lt; have mk_f := mk.fz
            replace HG : Grows w w7 := by exact bel2 g_w7 HG
            have h_w7 := Below.size HG
            have mp_0 := mp.c0; have mp_1 := mp.c1; have mp_2 := mp.c2; have mp_l := mp.lt; have mp_f := mp.fz
            cases PO with
            | none =>
              obtain rfl : RES = none := HR3.out
              go_wp2_with fail
              refine bodyPost_ret (v := .tuple #[.agg #[.int .i64 0, .int .i64 0, .slice none 0 0], .bool false]) ?_ rfl ?_
              · simp [results, Try.results9, go_sem, mr_0, mr_1, mr_2, mr_f, mr_l]
              · exact ⟨_, rfl, Own.nil _ _, by exact bel1 HG⟩
            | some p =>
              have hxp : p.l.length ≤ 576 := XP.out p rfl
              simp only [oM_some] at hr7 hxp mp mp_0 mp_1 mp_2 ⊢
              have CB := fun W A cp h => (iBas_c p.r p.c A p.l p.l.length cp W rfl h (by omega)).mono fun _ _ h => matRet_out h
              have HRB : RES = basO p := HR3.out
              rw [show (⟨p.r, p.c, p.l⟩ : MX) = p from rfl, ← HRB] at CB
              have CB' := Lib.hid CB
              clear CB HRB
              go_wp2_with fail
              refine (CB'.out _ _ _ (by exact Rd.grows hr7 (by exact bel0))).mono ?_; rintro e w8 ⟨v8, rfl, o8, g_w8⟩
              have s_w8 := Below.size g_w8; (try simp at s_w8)
              clear ma_0 ma_1 ma_2 ma_l ma_f
              replace ma := ma.grows (w' := w8) (by exact bel1 g_w8)
              have ma_0 := ma.c0; have ma_1 := ma.c1; have ma_2 := ma.c2; have ma_l := ma.lt; have ma_f := ma.fz
              clear mb_0 mb_1 mb_2 mb_l mb_f
              replace mb := mb.grows (w' := w8) (by exact bel1 g_w8)
              have mb_0 := mb.c0; have mb_1 := mb.c1; have mb_2 := mb.c2; have mb_l := mb.lt; have mb_f := mb.fz
              clear mr_0 mr_1 mr_2 mr_l mr_f
              replace mr := mr.grows (w' := w8) (by exact bel1 g_w8)
              have mr_0 := mr.c0; have mr_1 := mr.c1; have mr_2 := mr.c2; have mr_l := mr.lt; have mr_f := mr.fz
              replace ha1 := ha1.grows (w' := w8) (by exact bel1 g_w8)
              replace hb1 := hb1.grows (w' := w8) (by exact bel1 g_w8)
              replace hr2 := hr2.grows (w' := w8) (by exact bel1 g_w8)
              clear ms_0 ms_1 ms_2 ms_l ms_f
              replace ms := ms.grows (w' := w8) (by exact bel1 g_w8)
              have ms_0 := ms.c0; have ms_1 := ms.c1; have ms_2 := ms.c2; have ms_l := ms.lt; have ms_f := ms.fz
              replace hr5 := hr5.grows (w' := w8) (by exact bel1 g_w8)
              replace o5 := o5.grows (w' := w8) (by exact bel1 g_w8)
              clear mk_0 mk_1 mk_2 mk_l mk_f
              replace mk := mk.grows (w' := w8) (by exact bel1 g_w8)
              have mk_0 := mk.c0; have mk_1 := mk.c1; have mk_2 := mk.c2; have mk_l := mk.lt; have mk_f := mk.fz
              clear mp_0 mp_1 mp_2 mp_l mp_f
              replace mp := mp.grows (w' := w8) (by exact bel1 g_w8)
              have mp_0 := mp.c0; have mp_1 := mp.c1; have mp_2 := mp.c2; have mp_l := mp.lt; have mp_f := mp.fz
              replace hr7 := hr7.grows (w' := w8) (by exact bel1 g_w8)
              replace HG : Grows w w8 := by exact bel2 g_w8 HG
              have h_w8 := Below.size HG
              obtain ⟨A8, c8, rfl, _, _⟩ := o8.val
              go_wp2_with fail
              refine bodyPost_ret (v := .tuple #[.agg #[.int .i64 (oM RES).r, .int .i64 (oM RES).c, .slice A8 (oM RES).l.length c8], .bool RES.isSome]) ?_ rfl ?_
              · simp [results, Try.results9, go_sem, mr_0, mr_1, mr_2, mr_f, mr_l]
              · exact ⟨_, rfl, by exact ownl o8, by exact bel1 HG⟩
end
end Go.Proofs.Ythajmffhgbenpaa

/- Plain: two matrices span one lattice exactly if the rows of each are in the other's; small cells. -/
namespace Go.Proofs.Ythajmffhgbenpaa
set_option linter.unusedSimpArgs false
set_option linter.unusedVariables false
open Go.RowKit

theorem eqL_iff (a b : List Int) : eqL a b = true ↔ a = b := by unfold eqL; exact decide_eq_true_iff
/-- all cells are small -/
def tameB (l : List Int) : Bool := l.all fun x => decide (-1000 ≤ x) && decide (x ≤ 1000)
theorem tameB_iff (l : List Int) : tameB l = true ↔ ∀ i, i < l.length → -1000 ≤ nth l i ∧ nth l i ≤ 1000 := by
  unfold tameB
  rw [List.all_eq_true]
  constructor
  · intro h i hi
    have := h l[i] (List.getElem_mem hi)
    rw [nth_get _ _ hi]
    simpa using this
  · intro h x hx
    obtain ⟨i, hi, rfl⟩ := List.getElem_of_mem hx
    have := h i hi
    rw [nth_get _ _ hi] at this
    simpa using this
theorem basO_mat {a x : MX} (h : basO a = some x) : ∃ (R C : Nat) (l : List Int), a = ⟨R, C, l⟩ ∧ isMat R C l = true := by
  obtain ⟨r, c, l⟩ := a
  unfold basO at h
  obtain ⟨y, h1, _⟩ := Option.map_eq_some_iff.1 h
  have hm : isMat r c l = true := by
    cases e : isMat r c l
    · have h0 := hermO_no (a := ⟨r, c, l⟩) e
      rw [h0] at h1; cases h1
    · rfl
  obtain ⟨R, C, e1, e2, _⟩ := isMat_nat hm
  subst e1 e2
  exact ⟨R, C, l, rfl, hm⟩
theorem MX.ext' {a b : MX} (h1 : a.r = b.r) (h2 : a.c = b.c) (h3 : a.l = b.l) : a = b := by
  cases a; cases b; simp only at h1 h2 h3; subst h1 h2 h3; rfl
theorem sml_law {a b x y : MX} (hx : basO a = some x) (hy : basO b = some y) (hc : a.c = b.c) : eqMat x.r x.c x.l y.r y.c y.l = ((crmO x y).isSome && (crmO y x).isSome) := by
  obtain ⟨R, C, la, rfl, hm⟩ := basO_mat hx
  obtain ⟨R', C', lb, rfl, hm'⟩ := basO_mat hy
  obtain rfl : C = C' := by simp only at hc; omega
  obtain ⟨T, _, B⟩ := basO_D hm hx
  obtain ⟨T', _, B'⟩ := basO_D hm' hy
  obtain ⟨xr, xc, xl⟩ := x
  obtain ⟨yr, yc, yl⟩ := y
  have e1 := B.r; have e2 := B.c; have e3 := B'.r; have e4 := B'.c
  simp only at e1 e2 e3 e4
  subst e1 e2 e3 e4
  have L1 := B.lat
  have L2 := B'.lat
  by_cases e : T = T' ∧ xl = yl
  · obtain ⟨rfl, rfl⟩ := e
    rw [crmO_self L1]
    simp [eqMat, (eqL_iff _ _).2 rfl]
  · have h1 : eqMat T C xl T' C yl = false := by
      cases h : eqMat T C xl T' C yl
      · rfl
      · unfold eqMat at h
        simp only [Bool.and_eq_true, beq_iff_eq] at h
        exact absurd ⟨by omega, (eqL_iff _ _).1 h.2.2⟩ e
    rw [h1]
    cases h2 : crmO ⟨T, C, xl⟩ ⟨T', C, yl⟩ with
    | none => rfl
    | some p =>
      cases h3 : crmO ⟨T', C, yl⟩ ⟨T, C, xl⟩ with
      | none => rfl
      | some q =>
        exfalso
        obtain ⟨_, _, _, c, _, _, _, hr⟩ := crmO_D h2
        obtain ⟨_, _, _, d, _, _, _, hr'⟩ := crmO_D h3
        refine e (her_eq B.len B'.len B.her B'.her fun v => ⟨fun h => h.trans fun i hi => ⟨_, fun j hj => hr' i hi j hj⟩, fun h => h.trans fun i hi => ⟨_, fun j hj => hr i hi j hj⟩⟩)
end Go.Proofs.Ythajmffhgbenpaa

/- Contracts: the laws' row, absolute value, equal lists. -/
namespace Go.Proofs.Ythajmffhgbenpaa
set_option linter.unusedSimpArgs false
set_option linter.unusedVariables false
open Go.RowKit

section
set_option maxHeartbeats 4000000
set_option maxRecDepth 10000
theorem sameInts_c (A B : Option Addr) (a b : List Int) (c d : Nat) (w : World) (ha : Rd w A a) (hb : Rd w B b) (hl : a.length ≤ 1099511627776) (hl2 : b.length ≤ 1099511627776) :
    Calls Try.prog 49 #[.slice A a.length c, .slice B b.length d] w fun e w' => e = .returned (.bool (eqL a b)) ∧ Grows w w' := by
  by_cases hnm : b.length = a.length
  · obtain ⟨n, hn⟩ : ∃ n, n = a.length := ⟨_, rfl⟩
    rw [hnm] at hl2 ⊢
    rw [← hn] at hl hl2 hnm ⊢
    have HN := Lib.hid hn
    have HM := Lib.hid hnm
    clear hn hnm
    go_enter Try.func49, Try.ntmps49
    go_wp2_with fail
    go_loopw [5] (fun k wr => ∃ (i : Nat), k = .int .i64 i ∧ i ≤ n ∧ (∀ t, t < i → nth a t = nth b t) ∧ Grows w wr) (fun k _ => n - (intOf k).toNat)
    case atStart => exact ⟨0, rfl, Nat.zero_le _, fun t h => by omega, Below.refl _ _⟩
    case round =>
      obtain ⟨i, rfl, hi, he, hgr⟩ := hrel
      have HE := Lib.hid he
      clear he
      by_cases hlt : i < n
      · obtain ⟨b1, o1, rfl, hbs1, hc1⟩ := (ha.grows hgr).at_ i (by rw [← HN.out]; exact hlt)
        obtain ⟨b2, o2, rfl, hbs2, hc2⟩ := (hb.grows hgr).at_ i (by rw [HM.out]; exact hlt)
        have i1 : (i : Int) < (n : Int) := by omega
        by_cases hx : nth a i = nth b i
        · have hx' : (nth a i != nth b i) = false := by simpa using hx
          have HX := Lib.hid hx
          clear hx
          go_wp2_with fail
          go_quiet (fail)
          go_wp2_with fail
          go_round
          case rel => exact ⟨i + 1, by go_num, by omega, fun t ht => by (by_cases e : t = i); (· subst e; exact HX.out); (· exact HE.out t (by omega)), below_drewN hgr _⟩
          case measure => simp [intOf]; omega
        · have hx' : (nth a i != nth b i) = true := by simpa using hx
          have HX := Lib.hid (eqL_at hx)
          clear hx
          go_wp2_with fail
          go_quiet (fail)
          go_wp2_with fail
          go_ret
          exact ⟨by rw [HX.out]; rfl, below_drewN hgr _⟩
      · obtain rfl : i = n := by omega
        have HX := Lib.hid (eqL_all (a := a) (b := b) (by rw [HM.out]; exact HN.out.symm) (fun t ht => HE.out t (by have := HN.out; omega)))
        go_wp2_with fail
        go_ret
        exact ⟨by rw [HX.out]; rfl, hgr⟩
  · have HX := Lib.hid (eqL_len (a := a) (b := b) (fun e => hnm e.symm))
    generalize a.length = n at *
    generalize b.length = m at *
    have hnm' : ((n : Int) != (m : Int)) = true := by simp; omega
    go_enter Try.func49, Try.ntmps49
    go_wp2_with fail
    go_ret
    exact ⟨by rw [HX.out]; rfl, Below.refl _ _⟩
end
end Go.Proofs.Ythajmffhgbenpaa

/- Contracts: the laws' own helpers. -/
namespace Go.Proofs.Ythajmffhgbenpaa
set_option linter.unusedSimpArgs false
set_option linter.unusedVariables false
open Go.RowKit

theorem tameB_no {l : List Int} {i : Nat} (hi : i < l.length) (h : 1000 < nth l i ∨ nth l i < -1000) : tameB l = false := by
  cases e : tameB l
  · rfl
  · have := (tameB_iff l).1 e i hi; omega
theorem tameB_yes {l : List Int} (h : ∀ i, i < l.length → -1000 ≤ nth l i ∧ nth l i ≤ 1000) : tameB l = true := (tameB_iff l).2 h
section
set_option maxHeartbeats 4000000
set_option maxRecDepth 10000
theorem tame_c (r c : Int) (A : Option Addr) (l : List Int) (cap : Nat) (w : World) (ha : Rd w A l) (hl : l.length ≤ 1099511627776) :
    Calls Try.prog 10 #[.agg #[.int .i64 r, .int .i64 c, .slice A l.length cap]] w fun e w' => e = .returned (.bool (tameB l)) ∧ Grows w w' := by
  obtain ⟨w1, hw1⟩ : ∃ w1, w1 = w.alloc (.cells #[.int .i64 r, .int .i64 c, .slice A l.length cap] 26) := ⟨_, rfl⟩
  have mb : MBox w1 w.heap.size r c (.slice A l.length cap) := by rw [hw1]; exact MBox.mk_ _ _ _ _ _
  have g01 : Grows w w1 := by rw [hw1]; exact bel0
  have ha1 := ha.grows g01
  have HW1 := Lib.hid hw1
  have HN := Lib.hid fun i (hi : i < l.length) h => tameB_no hi h
  have HY := Lib.hid (@tameB_yes l)
  clear hw1 ha
  generalize tameB l = RES at *
  obtain ⟨mb_0, mb_1, mb_2⟩ := mb.cells
  go_enter Try.func10, Try.ntmps10
  go_wp2_with fail
  rw [← HW1.out]
  go_loopw [3] (fun i wr => ∃ I : Nat, i = .int .i64 I ∧ I ≤ l.length ∧ wr = w1 ∧ RowKit.Hid (∀ k, k < I → -1000 ≤ nth l k ∧ nth l k ≤ 1000)) (fun i _ => l.length - (intOf i).toNat)
  case atStart => exact ⟨0, rfl, Nat.zero_le _, by first | rfl | trivial, Lib.hid fun k hk => absurd hk (Nat.not_lt_zero _)⟩
  case round =>
    obtain ⟨I, rfl, hI, rfl, HD⟩ := hrel
    by_cases hlt : I < l.length
    · have hlt' : (I : Int) < (l.length : Int) := by omega
      obtain ⟨bs, fs, rfl, hbs, s0⟩ := ha1.at_ I hlt
      obtain ⟨y, hy⟩ : ∃ y, y = nth l I := ⟨_, rfl⟩
      rw [← hy] at s0
      have HYY := Lib.hid hy
      clear hy
      by_cases h1 : 1000 < y
      · obtain rfl := HN.out I hlt (.inl (by rw [← HYY.out]; exact h1))
        go_wp2_with fail
        go_ret
        exact ⟨rfl, by exact bel1 g01⟩
      · by_cases h2 : y < -1000
        · obtain rfl := HN.out I hlt (.inr (by rw [← HYY.out]; exact h2))
          go_wp2_with fail
          go_ret
          exact ⟨rfl, by exact bel1 g01⟩
        · have HD2 : RowKit.Hid (∀ k, k < I + 1 → -1000 ≤ nth l k ∧ nth l k ≤ 1000) := Lib.hid fun k hk => by
            by_cases e : k = I
            · rw [e, ← HYY.out]; omega
            · exact HD.out k (by omega)
          go_wp2_with fail
          go_round
          case rel => exact ⟨I + 1, by go_num, by omega, by first | rfl | trivial, HD2⟩
          case measure => first | (simp [intOf]; done) | (simp [intOf]; omega)
    · have hlt' : ¬ (I : Int) < (l.length : Int) := by omega
      obtain rfl : I = l.length := by omega
      obtain rfl := HY.out HD.out
      go_wp2_with fail
      go_ret
      exact ⟨rfl, by exact bel1 g01⟩
end
end Go.Proofs.Ythajmffhgbenpaa
