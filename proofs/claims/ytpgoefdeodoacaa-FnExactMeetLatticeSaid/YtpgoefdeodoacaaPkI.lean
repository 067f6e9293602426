/- Contracts and lemmas, put together. -/
import Derived.Test.YtpgoefdeodoacaaPkC
import Derived.Test.YtpgoefdeodoacaaPkE
import Derived.Test.YtpgoefdeodoacaaPkG
import Derived.Test.YtpgoefdeodoacaaPkH
/- Contracts: whether matrices are the same, the rows of two matrices below one another, whether lattices are the same, their sum. -/
namespace Go.Proofs.Ytpgoefdeodoacaa
set_option linter.unusedSimpArgs false
set_option linter.unusedVariables false
open Go.RowKit

/-- the variables of a function with two matrices -/
theorem two_only (w : World) (r c r' c' : Int) (u v : Value) :
    ∃ w1, w1 = (w.alloc (.cells #[.int .i64 r, .int .i64 c, u] 28)).alloc (.cells #[.int .i64 r', .int .i64 c', v] 28) ∧
      MBox w1 w.heap.size r c u ∧ MBox w1 (w.heap.size + 1) r' c' v ∧ w1.heap.size = w.heap.size + 2 ∧ Grows w w1 :=
  ⟨_, rfl, (MBox.mk_ _ _ _ _ _).grows ((Below.refl _ _).alloc (Nat.le_refl _) _), MBox.new_ _ _ _ _ _ (by simp), by simp, by exact bel0⟩
def stkO (a b : MX) : Option MX := if a.ok && b.ok && decide (a.c = b.c) && decide (a.r + b.r ≤ 24) then some ⟨a.r + b.r, a.c, a.l ++ b.l⟩ else none
theorem stkO_no {a b : MX} (h : a.ok = false ∨ b.ok = false ∨ a.c ≠ b.c ∨ 24 < a.r + b.r) : stkO a b = none := by
  unfold stkO
  rw [if_neg]
  rcases h with h | h | h | h
  · simp [h]
  · simp [h]
  · simp [h]
  · simp only [Bool.and_eq_true, decide_eq_true_eq]; omega
theorem stkO_yes {a b : MX} (h1 : a.ok = true) (h2 : b.ok = true) (h3 : a.c = b.c) (h4 : a.r + b.r ≤ 24) : stkO a b = some ⟨a.r + b.r, a.c, a.l ++ b.l⟩ := by
  unfold stkO; rw [if_pos (by simp [h1, h2, h3, h4])]
theorem stkO_ok {a b m : MX} (h : stkO a b = some m) : m.ok = true := by
  unfold stkO at h
  split at h
  · rename_i hc
    simp only [Bool.and_eq_true, decide_eq_true_eq] at hc
    obtain ⟨⟨⟨h1, h2⟩, h3⟩, h4⟩ := hc
    cases h
    obtain ⟨R, C, e1, e2, hR, hC, hl, hn⟩ := isMat_ok h1
    obtain ⟨R', C', e3, e4, hR', hC', hl', hn'⟩ := isMat_ok h2
    obtain rfl : C = C' := by omega
    show isMat (a.r + b.r) a.c (a.l ++ b.l) = true
    rw [e1, e3, e2, ← Int.natCast_add]
    rw [isMat_made (by omega) hC (by rw [List.length_append, hl, hl', Nat.add_mul])]
    rw [allNum_iff]
    intro i hi
    by_cases e : i < a.l.length
    · rw [nth_append_left _ _ _ e]; exact hn i e
    · rw [nth_append_right _ _ _ (by omega)]; exact hn' _ (by simp at hi; omega)
  · cases h
/-- whether the rows span the same lattice, and whether that is known -/
def smlB (a b : MX) : Bool × Bool :=
  match basO a, basO b with
  | some x, some y => if a.c = b.c then (eqMat x.r x.c x.l y.r y.c y.l, true) else (false, false)
  | _, _ => (false, false)
def sumO (a b : MX) : Option MX := if latB a.r a.c a.l && latB b.r b.c b.l then (stkO a b).bind basO else none
theorem sumO_ok {a b m : MX} (h : sumO a b = some m) : m.ok = true := by
  unfold sumO at h
  split at h
  · obtain ⟨x, _, h2⟩ := Option.bind_eq_some_iff.1 h
    exact basO_ok h2
  · cases h

section
set_option maxHeartbeats 2000000
theorem iStk_c (r c r' c' : Int) (A B : Option Addr) (a b : List Int) (n m ca cb : Nat) (w : World) (hn : a.length = n) (hm : b.length = m) (ha : Rd w A a) (hb : Rd w B b) (hl : n ≤ 1099511627776) (hl2 : m ≤ 1099511627776) :
    Calls Try.prog 69 #[.agg #[.int .i64 r, .int .i64 c, .slice A n ca], .agg #[.int .i64 r', .int .i64 c', .slice B m cb]] w (MatRet (stkO ⟨r, c, a⟩ ⟨r', c', b⟩) w) := by
  have HA := fun W h => iIsMatrix_c r c A a n ca W hn h hl
  have HB := fun W h => iIsMatrix_c r' c' B b m cb W hm h hl2
  obtain ⟨w1, hw1, ma, mb, mr, hs1, HG⟩ := two_mats w r c r' c' (.slice A n ca) (.slice B m cb)
  have HW1 := Lib.hid hw1
  have HS1 := Lib.hid hs1
  have ha1 := ha.grows HG
  have hb1 := hb.grows HG
  obtain ⟨RES, hRES⟩ : ∃ x, x = stkO ⟨r, c, a⟩ ⟨r', c', b⟩ := ⟨_, rfl⟩
  rw [← hRES]
  cases h1 : isMat r c a
  · rw [stkO_no (a := ⟨r, c, a⟩) (.inl h1)] at hRES
    rw [h1] at HA
    have HA' := Lib.hid HA
    subst hRES
    clear hw1 hn hm HA HB hs1 h1
    go_enter Try.func69, Try.ntmps69
    go_wp2_with fail
    rw [← HW1.out]
    have ma_0 := ma.c0; have ma_1 := ma.c1; have ma_2 := ma.c2; have ma_l := ma.lt; have ma_f := ma.fz
    have mb_0 := mb.c0; have mb_1 := mb.c1; have mb_2 := mb.c2; have mb_l := mb.lt; have mb_f := mb.fz
    have mr_0 := mr.c0; have mr_1 := mr.c1; have mr_2 := mr.c2; have mr_l := mr.lt; have mr_f := mr.fz
    refine (HA'.out _ (by exact Rd.grows ha1 (by exact bel0))).mono ?_; rintro e w2 ⟨rfl, g_w2⟩
    have s_w2 := Below.size g_w2; (try simp at s_w2)
    clear ma_0 ma_1 ma_2 ma_l ma_f
    replace ma := ma.grows (w' := w2) (by exact bel1 g_w2)
    have ma_0 := ma.c0; have ma_1 := ma.c1; have ma_2 := ma.c2; have ma_l := ma.lt; have ma_f := ma.fz
    clear mb_0 mb_1 mb_2 mb_l mb_f
    replace mb := mb.grows (w' := w2) (by exact bel1 g_w2)
    have mb_0 := mb.c0; have mb_1 := mb.c1; have mb_2 := mb.c2; have mb_l := mb.lt; have mb_f := mb.fz
    clear mr_0 mr_1 mr_2 mr_l mr_f
    replace mr := mr.grows (w' := w2) (by exact bel1 g_w2)
    have mr_0 := mr.c0; have mr_1 := mr.c1; have mr_2 := mr.c2; have mr_l := mr.lt; have mr_f := mr.fz
    replace ha1 := ha1.grows (w' := w2) (by exact bel1 g_w2)
    replace hb1 := hb1.grows (w' := w2) (by exact bel1 g_w2)
    replace HG : Grows w w2 := by exact bel2 g_w2 HG
    have h_w2 := Below.size HG
    go_wp2_with fail
    refine bodyPost_ret (v := .tuple #[.agg #[.int .i64 0, .int .i64 0, .slice none 0 0], .bool false]) ?_ rfl ?_
    · simp [results, Try.results69, go_sem, mr_0, mr_1, mr_2, mr_f, mr_l]
    · exact ⟨_, rfl, Own.nil _ _, by exact bel1 HG⟩
  · rw [h1] at HA
    have HA' := Lib.hid HA
    cases h2 : isMat r' c' b
    · rw [stkO_no (b := ⟨r', c', b⟩) (.inr (.inl h2))] at hRES
      rw [h2] at HB
      have HB' := Lib.hid HB
      subst hRES
      clear hw1 hn hm HA HB hs1 h1 h2
      go_enter Try.func69, Try.ntmps69
      go_wp2_with fail
      rw [← HW1.out]
      have ma_0 := ma.c0; have ma_1 := ma.c1; have ma_2 := ma.c2; have ma_l := ma.lt; have ma_f := ma.fz
      have mb_0 := mb.c0; have mb_1 := mb.c1; have mb_2 := mb.c2; have mb_l := mb.lt; have mb_f := mb.fz
      have mr_0 := mr.c0; have mr_1 := mr.c1; have mr_2 := mr.c2; have mr_l := mr.lt; have mr_f := mr.fz
      refine (HA'.out _ (by exact Rd.grows ha1 (by exact bel0))).mono ?_; rintro e w2 ⟨rfl, g_w2⟩
      have s_w2 := Below.size g_w2; (try simp at s_w2)
      clear ma_0 ma_1 ma_2 ma_l ma_f
      replace ma := ma.grows (w' := w2) (by exact bel1 g_w2)
      have ma_0 := ma.c0; have ma_1 := ma.c1; have ma_2 := ma.c2; have ma_l := ma.lt; have ma_f := ma.fz
      clear mb_0 mb_1 mb_2 mb_l mb_f
      replace mb := mb.grows (w' := w2) (by exact bel1 g_w2)
      have mb_0 := mb.c0; have mb_1 := mb.c1; have mb_2 := mb.c2; have mb_l := mb.lt; have mb_f := mb.fz
      clear mr_0 mr_1 mr_2 mr_l mr_f
      replace mr := mr.grows (w' := w2) (by exact bel1 g_w2)
      have mr_0 := mr.c0; have mr_1 := mr.c1; have mr_2 := mr.c2; have mr_l := mr.lt; have mr_f := mr.fz
      replace ha1 := ha1.grows (w' := w2) (by exact bel1 g_w2)
      replace hb1 := hb1.grows (w' := w2) (by exact bel1 g_w2)
      replace HG : Grows w w2 := by exact bel2 g_w2 HG
      have h_w2 := Below.size HG
      go_wp2_with fail
      refine (HB'.out _ (by exact Rd.grows hb1 (by exact bel0))).mono ?_; rintro e w3 ⟨rfl, g_w3⟩
      have s_w3 := Below.size g_w3; (try simp at s_w3)
      clear ma_0 ma_1 ma_2 ma_l ma_f
      replace ma := ma.grows (w' := w3) (by exact bel1 g_w3)
      have ma_0 := ma.c0; have ma_1 := ma.c1; have ma_2 := ma.c2; have ma_l := ma.lt; have ma_f := ma.fz
      clear mb_0 mb_1 mb_2 mb_l mb_f
      replace mb := mb.grows (w' := w3) (by exact bel1 g_w3)
      have mb_0 := mb.c0; have mb_1 := mb.c1; have mb_2 := mb.c2; have mb_l := mb.lt; have mb_f := mb.fz
      clear mr_0 mr_1 mr_2 mr_l mr_f
      replace mr := mr.grows (w' := w3) (by exact bel1 g_w3)
      have mr_0 := mr.c0; have mr_1 := mr.c1; have mr_2 := mr.c2; have mr_l := mr.lt; have mr_f := mr.fz
      replace ha1 := ha1.grows (w' := w3) (by exact bel1 g_w3)
      replace hb1 := hb1.grows (w' := w3) (by exact bel1 g_w3)
      replace HG : Grows w w3 := by exact bel2 g_w3 HG
      have h_w3 := Below.size HG
      go_wp2_with fail
      refine bodyPost_ret (v := .tuple #[.agg #[.int .i64 0, .int .i64 0, .slice none 0 0], .bool false]) ?_ rfl ?_
      · simp [results, Try.results69, go_sem, mr_0, mr_1, mr_2, mr_f, mr_l]
      · exact ⟨_, rfl, Own.nil _ _, by exact bel1 HG⟩
    · rw [h2] at HB
      have HB' := Lib.hid HB
      by_cases h3 : c = c'
      · subst h3
        obtain ⟨R, C, rfl, rfl, hR, hC, hla, _⟩ := isMat_nat h1
        obtain ⟨R', C', rfl, e4, hR', hC', hlb, _⟩ := isMat_nat h2
        obtain rfl : C = C' := by omega
        by_cases h4 : R + R' ≤ 24
        · rw [stkO_yes (a := ⟨R, C, a⟩) (b := ⟨R', C, b⟩) h1 h2 rfl (by simp only; omega)] at hRES
          have hwr : IntKind.i64.wrap ((R : Int) + (R' : Int)) = (R : Int) + (R' : Int) := IntWalk.i64_in _ (by omega)
          have h4' : ¬ (24 : Int) < (R : Int) + (R' : Int) := by omega
          have hla2 : a.length ≤ 576 := by rw [hla]; exact Nat.mul_le_mul hR hC
          have hlb2 : b.length ≤ 576 := by rw [hlb]; exact Nat.mul_le_mul hR' hC
          have HN := Lib.hid hn
          have HM := Lib.hid hm
          subst hRES
          clear hw1 hn hm HA HB hs1 h1 h2 e4 h4 hla hlb
          go_enter Try.func69, Try.ntmps69
          go_wp2_with fail
          rw [← HW1.out]
          have ma_0 := ma.c0; have ma_1 := ma.c1; have ma_2 := ma.c2; have ma_l := ma.lt; have ma_f := ma.fz
          have mb_0 := mb.c0; have mb_1 := mb.c1; have mb_2 := mb.c2; have mb_l := mb.lt; have mb_f := mb.fz
          have mr_0 := mr.c0; have mr_1 := mr.c1; have mr_2 := mr.c2; have mr_l := mr.lt; have mr_f := mr.fz
          refine (HA'.out _ (by exact Rd.grows ha1 (by exact bel0))).mono ?_; rintro e w2 ⟨rfl, g_w2⟩
          have s_w2 := Below.size g_w2; (try simp at s_w2)
          clear ma_0 ma_1 ma_2 ma_l ma_f
          replace ma := ma.grows (w' := w2) (by exact bel1 g_w2)
          have ma_0 := ma.c0; have ma_1 := ma.c1; have ma_2 := ma.c2; have ma_l := ma.lt; have ma_f := ma.fz
          clear mb_0 mb_1 mb_2 mb_l mb_f
          replace mb := mb.grows (w' := w2) (by exact bel1 g_w2)
          have mb_0 := mb.c0; have mb_1 := mb.c1; have mb_2 := mb.c2; have mb_l := mb.lt; have mb_f := mb.fz
          clear mr_0 mr_1 mr_2 mr_l mr_f
          replace mr := mr.grows (w' := w2) (by exact bel1 g_w2)
          have mr_0 := mr.c0; have mr_1 := mr.c1; have mr_2 := mr.c2; have mr_l := mr.lt; have mr_f := mr.fz
          replace ha1 := ha1.grows (w' := w2) (by exact bel1 g_w2)
          replace hb1 := hb1.grows (w' := w2) (by exact bel1 g_w2)
          replace HG : Grows w w2 := by exact bel2 g_w2 HG
          have h_w2 := Below.size HG
          go_wp2_with fail
          refine (HB'.out _ (by exact Rd.grows hb1 (by exact bel0))).mono ?_; rintro e w3 ⟨rfl, g_w3⟩
          have s_w3 := Below.size g_w3; (try simp at s_w3)
          clear ma_0 ma_1 ma_2 ma_l ma_f
          replace ma := ma.grows (w' := w3) (by exact bel1 g_w3)
          have ma_0 := ma.c0; have ma_1 := ma.c1; have ma_2 := ma.c2; have ma_l := ma.lt; have ma_f := ma.fz
          clear mb_0 mb_1 mb_2 mb_l mb_f
          replace mb := mb.grows (w' := w3) (by exact bel1 g_w3)
          have mb_0 := mb.c0; have mb_1 := mb.c1; have mb_2 := mb.c2; have mb_l := mb.lt; have mb_f := mb.fz
          clear mr_0 mr_1 mr_2 mr_l mr_f
          replace mr := mr.grows (w' := w3) (by exact bel1 g_w3)
          have mr_0 := mr.c0; have mr_1 := mr.c1; have mr_2 := mr.c2; have mr_l := mr.lt; have mr_f := mr.fz
          replace ha1 := ha1.grows (w' := w3) (by exact bel1 g_w3)
          replace hb1 := hb1.grows (w' := w3) (by exact bel1 g_w3)
          replace HG : Grows w w3 := by exact bel2 g_w3 HG
          have h_w3 := Below.size HG
          go_wp2_with fail
          have hnew : Own (w3.alloc (.cells #[] 3)).drew w3.heap.size (.slice (some ⟨w3.heap.size, 0, none⟩) 0 0) [] := (Own.new_ w3 rfl (Nat.le_refl _)).drew
          have ma3 := ma; have mb3 := mb; have mr3 := mr
          clear mr_0 mr_1 mr_2 mr_l mr_f
          clear mr
          (refine wp_region_heldL (fun W => W.cell? ⟨w.heap.size, 0, none⟩ = some (.int .i64 R) ∧ W.cell? ⟨w.heap.size, 1, none⟩ = some (.int .i64 C) ∧ W.cell? ⟨w.heap.size, 2, none⟩ = some (.slice A n ca) ∧ W.cell? ⟨w.heap.size + 1, 0, none⟩ = some (.int .i64 R') ∧ W.cell? ⟨w.heap.size + 1, 1, none⟩ = some (.int .i64 C) ∧ W.cell? ⟨w.heap.size + 1, 2, none⟩ = some (.slice B m cb)) (by kernel_rfl) (by ((try dsimp only); (first | exact two_boxes2 ma9 mb9 | ((have _tt := ma9); exact two_boxes2 (v := .slice A n ca) (v' := .slice B m cb) (by ((repeat' (first | with_reducible exact ma9 | with_reducible refine MBox.alloc ?_ _ | with_reducible refine MBox.drew_ ?_ | with_reducible refine MBox.far ?_ ?_ _)); all_goals (first | omega | (simp; done) | (simp; omega)))) (by ((repeat' (first | with_reducible exact mb9 | with_reducible refine MBox.alloc ?_ _ | with_reducible refine MBox.drew_ ?_ | with_reducible refine MBox.far ?_ ?_ _)); all_goals (first | omega | (simp; done) | (simp; omega))))) | exact two_boxes2 ma7 mb7 | exact two_boxes2 (ma3.grows (by exact bel0)) (mb3.grows (by exact bel0))))) (fun hHeld => ?_); refine heldL_take (i := 0) (v := _) (by rfl) (by kernel_rfl) (by kernel_rfl) (by kernel_rfl) (fun _ _ _ h => h) (Or.inl ⟨by rfl, fun wS hSw => by ((try dsimp only at hSw); go_simp; (try with_reducible rfl))⟩) (by assumption) ?_; simp only [Act.put, List.setIfInBounds_toArray, List.set_cons_zero, List.set_cons_succ]; refine heldL_take (i := 1) (v := _) (by rfl) (by kernel_rfl) (by kernel_rfl) (by kernel_rfl) (fun _ _ _ h => h) (Or.inl ⟨by rfl, fun wS hSw => by ((try dsimp only at hSw); go_simp; (try with_reducible rfl))⟩) (by assumption) ?_; simp only [Act.put, List.setIfInBounds_toArray, List.set_cons_zero, List.set_cons_succ]; refine heldL_take (i := 2) (v := _) (by rfl) (by kernel_rfl) (by kernel_rfl) (by kernel_rfl) (fun _ _ _ h => h) (Or.inl ⟨by rfl, fun wS hSw => by ((try dsimp only at hSw); go_simp; (try with_reducible rfl))⟩) (by assumption) ?_; simp only [Act.put, List.setIfInBounds_toArray, List.set_cons_zero, List.set_cons_succ]; refine heldL_take (i := 3) (v := _) (by rfl) (by kernel_rfl) (by kernel_rfl) (by kernel_rfl) (fun _ _ _ h => h) (Or.inl ⟨by rfl, fun wS hSw => by ((try dsimp only at hSw); go_simp; (try with_reducible rfl))⟩) (by assumption) ?_; simp only [Act.put, List.setIfInBounds_toArray, List.set_cons_zero, List.set_cons_succ]; refine heldL_take (i := 4) (v := _) (by rfl) (by kernel_rfl) (by kernel_rfl) (by kernel_rfl) (fun _ _ _ h => h) (Or.inl ⟨by rfl, fun wS hSw => by ((try dsimp only at hSw); go_simp; (try with_reducible rfl))⟩) (by assumption) ?_; simp only [Act.put, List.setIfInBounds_toArray, List.set_cons_zero, List.set_cons_succ]; refine heldL_take (i := 5) (v := _) (by rfl) (by kernel_rfl) (by kernel_rfl) (by kernel_rfl) (fun _ _ _ h => h) (Or.inl ⟨by rfl, fun wS hSw => by ((try dsimp only at hSw); go_simp; (try with_reducible rfl))⟩) (by assumption) ?_; simp only [Act.put, List.setIfInBounds_toArray, List.set_cons_zero, List.set_cons_succ]; refine heldL_take (i := 6) (v := _) (by rfl) (by kernel_rfl) (by kernel_rfl) (by kernel_rfl) (fun _ _ _ h => h) (Or.inl ⟨by rfl, fun wS hSw => by ((try dsimp only at hSw); go_simp; (try with_reducible rfl))⟩) (by assumption) ?_; simp only [Act.put, List.setIfInBounds_toArray, List.set_cons_zero, List.set_cons_succ]; refine heldL_take (i := 8) (v := _) (by rfl) (by kernel_rfl) (by kernel_rfl) (by kernel_rfl) (fun _ _ _ h => h) (Or.inl ⟨by rfl, fun wS hSw => by ((try dsimp only at hSw); go_simp; (try with_reducible rfl))⟩) (by assumption) ?_; simp only [Act.put, List.setIfInBounds_toArray, List.set_cons_zero, List.set_cons_succ]; refine heldL_take (i := 9) (v := _) (by rfl) (by kernel_rfl) (by kernel_rfl) (by kernel_rfl) (fun _ _ _ h => h) (Or.inl ⟨by rfl, fun wS hSw => by ((try dsimp only at hSw); go_simp; (try with_reducible rfl))⟩) (by assumption) ?_; simp only [Act.put, List.setIfInBounds_toArray, List.set_cons_zero, List.set_cons_succ]; refine heldL_take (i := 11) (v := _) (by rfl) (by kernel_rfl) (by kernel_rfl) (by kernel_rfl) (fun _ _ _ h => h) (Or.inl ⟨by rfl, fun wS hSw => by ((try dsimp only at hSw); go_simp; (try with_reducible rfl))⟩) (by assumption) ?_; simp only [Act.put, List.setIfInBounds_toArray, List.set_cons_zero, List.set_cons_succ]; refine heldL_take (i := 12) (v := _) (by rfl) (by kernel_rfl) (by kernel_rfl) (by kernel_rfl) (fun _ _ _ h => h) (Or.inl ⟨by rfl, fun wS hSw => by ((try dsimp only at hSw); go_simp; (try with_reducible rfl))⟩) (by assumption) ?_; simp only [Act.put, List.setIfInBounds_toArray, List.set_cons_zero, List.set_cons_succ]; refine heldL_step (i := 7) (by kernel_rfl) (by rfl) (fun K hK => ?_); go_simp; refine hK.out _ _ (by ((try dsimp only); (first | exact two_boxes2 ma9 mb9 | ((have _tt := ma9); exact two_boxes2 (v := .slice A n ca) (v' := .slice B m cb) (by ((repeat' (first | with_reducible exact ma9 | with_reducible refine MBox.alloc ?_ _ | with_reducible refine MBox.drew_ ?_ | with_reducible refine MBox.far ?_ ?_ _)); all_goals (first | omega | (simp; done) | (simp; omega)))) (by ((repeat' (first | with_reducible exact mb9 | with_reducible refine MBox.alloc ?_ _ | with_reducible refine MBox.drew_ ?_ | with_reducible refine MBox.far ?_ ?_ _)); all_goals (first | omega | (simp; done) | (simp; omega))))) | exact two_boxes2 ma7 mb7 | exact two_boxes2 (ma3.grows (by exact bel0)) (mb3.grows (by exact bel0))))) (fun hHeld => ?_); clear hK K; (try simp only [Act.put, List.setIfInBounds_toArray, List.set_cons_zero, List.set_cons_succ]); refine heldL_step (i := 10) (by kernel_rfl) (by rfl) (fun K hK => ?_); (refine step_app rfl (.tmp 37) (.tmp 39) rfl _ w3.heap.size _ [] (by rfl) hnew A a n ca (by rfl) HN.out (by exact (Rd.grows ha1 (by exact bel0))) (by simp; omega) (by simp) ?_; intro v7 w7 ho7 hg7 hv7; have hb7 : Below w3.heap.size w3 w7 := Below.trans (show Grows w3 (w3.alloc (.cells #[] 3)).drew by exact bel0) (below_app hnew (by simp) hg7); rw [List.nil_append] at ho7; obtain ⟨A7, c7, rfl, _, _⟩ := ho7.val; have ma7 := ma3.keep hb7 ma3.lt; have mb7 := mb3.keep hb7 mb3.lt; have hs7 := hb7.size) ; refine hK.out _ _ (by ((try dsimp only); (first | exact two_boxes2 ma9 mb9 | ((have _tt := ma9); exact two_boxes2 (v := .slice A n ca) (v' := .slice B m cb) (by ((repeat' (first | with_reducible exact ma9 | with_reducible refine MBox.alloc ?_ _ | with_reducible refine MBox.drew_ ?_ | with_reducible refine MBox.far ?_ ?_ _)); all_goals (first | omega | (simp; done) | (simp; omega)))) (by ((repeat' (first | with_reducible exact mb9 | with_reducible refine MBox.alloc ?_ _ | with_reducible refine MBox.drew_ ?_ | with_reducible refine MBox.far ?_ ?_ _)); all_goals (first | omega | (simp; done) | (simp; omega))))) | exact two_boxes2 ma7 mb7 | exact two_boxes2 (ma3.grows (by exact bel0)) (mb3.grows (by exact bel0))))) (fun hHeld => ?_); clear hK K; (try simp only [Act.put, List.setIfInBounds_toArray, List.set_cons_zero, List.set_cons_succ]); refine heldL_step (i := 13) (by kernel_rfl) (by rfl) (fun K hK => ?_); (refine step_app rfl (.tmp 40) (.tmp 42) rfl _ w3.heap.size _ a (by rfl) ho7 B b m cb (by rfl) HM.out (by exact (Rd.grows hb1 (by exact bel1 hb7))) (by omega) (by omega) ?_; intro v9 w9 ho9 hg9 hv9; have hb9 : Below w3.heap.size w3 w9 := Below.trans hb7 (below_app ho7 (by omega) hg9); obtain ⟨A9, c9, rfl, _, _⟩ := ho9.val; have ma9 := ma3.keep hb9 ma3.lt; have mb9 := mb3.keep hb9 mb3.lt; have mr9 := mr3.keep hb9 mr3.lt; obtain ⟨r0, r1, r2⟩ := mr9.cells; have rf := mr9.fz; have rl := mr9.lt; have hs9 := hb9.size) ; refine hK.out _ _ (by ((try dsimp only); (first | exact two_boxes2 ma9 mb9 | ((have _tt := ma9); exact two_boxes2 (v := .slice A n ca) (v' := .slice B m cb) (by ((repeat' (first | with_reducible exact ma9 | with_reducible refine MBox.alloc ?_ _ | with_reducible refine MBox.drew_ ?_ | with_reducible refine MBox.far ?_ ?_ _)); all_goals (first | omega | (simp; done) | (simp; omega)))) (by ((repeat' (first | with_reducible exact mb9 | with_reducible refine MBox.alloc ?_ _ | with_reducible refine MBox.drew_ ?_ | with_reducible refine MBox.far ?_ ?_ _)); all_goals (first | omega | (simp; done) | (simp; omega))))) | exact two_boxes2 ma7 mb7 | exact two_boxes2 (ma3.grows (by exact bel0)) (mb3.grows (by exact bel0))))) (fun hHeld => ?_); clear hK K; (try simp only [Act.put, List.setIfInBounds_toArray, List.set_cons_zero, List.set_cons_succ]); refine heldL_take (i := 14) (v := _) (by rfl) (by kernel_rfl) (by kernel_rfl) (by kernel_rfl) (fun _ _ _ h => h) (Or.inl ⟨by rfl, fun wS hSw => by ((try dsimp only at hSw); go_simp; (try with_reducible rfl))⟩) (by assumption) ?_; simp only [Act.put, List.setIfInBounds_toArray, List.set_cons_zero, List.set_cons_succ]; refine heldL_step (i := 15) (by kernel_rfl) (by rfl) (fun K hK => ?_); go_simp; refine hK.out _ _ (by ((try dsimp only); (first | exact two_boxes2 ma9 mb9 | ((have _tt := ma9); exact two_boxes2 (v := .slice A n ca) (v' := .slice B m cb) (by ((repeat' (first | with_reducible exact ma9 | with_reducible refine MBox.alloc ?_ _ | with_reducible refine MBox.drew_ ?_ | with_reducible refine MBox.far ?_ ?_ _)); all_goals (first | omega | (simp; done) | (simp; omega)))) (by ((repeat' (first | with_reducible exact mb9 | with_reducible refine MBox.alloc ?_ _ | with_reducible refine MBox.drew_ ?_ | with_reducible refine MBox.far ?_ ?_ _)); all_goals (first | omega | (simp; done) | (simp; omega))))) | exact two_boxes2 ma7 mb7 | exact two_boxes2 (ma3.grows (by exact bel0)) (mb3.grows (by exact bel0))))) (fun hHeld => ?_); clear hK K; (try simp only [Act.put, List.setIfInBounds_toArray, List.set_cons_zero, List.set_cons_succ]); refine heldL_take (i := 16) (v := _) (by rfl) (by kernel_rfl) (by kernel_rfl) (by kernel_rfl) (fun _ _ _ h => h) (Or.inl ⟨by rfl, fun wS hSw => by ((try dsimp only at hSw); go_simp; (try with_reducible rfl))⟩) (by assumption) ?_; simp only [Act.put, List.setIfInBounds_toArray, List.set_cons_zero, List.set_cons_succ]; refine wpAnyH_done (by kernel_rfl) ?_ _; refine NoPanic.normal ?_)
          go_wp2_with fail
          refine bodyPost_ret (v := .tuple #[.agg #[.int .i64 ((R : Int) + (R' : Int)), .int .i64 C, .slice A9 (a ++ b).length c9], .bool true]) ?_ rfl ?_
          · simp [results, Try.results69, go_sem, r0, r1, r2, rf, rl]
          · have hs1 := HS1.out
            have ho8 := ho9.less (B' := w.heap.size) (by omega)
            have hf : ∀ g, (Value.slice A9 (a ++ b).length c9).ownBlock = some g → g ≠ w.heap.size + 1 + 1 := fun g hg => by have := (World.ownsRow.lt ho9 g hg).1; omega
            exact ⟨_, rfl, ((ho8.far (p := ⟨w.heap.size + 1 + 1, 0, none⟩) hf _).far (p := ⟨w.heap.size + 1 + 1, 1, none⟩) hf _).far (p := ⟨w.heap.size + 1 + 1, 2, none⟩) hf _, by exact bel2 hb9 HG⟩
        · rw [stkO_no (a := ⟨R, C, a⟩) (b := ⟨R', C, b⟩) (.inr (.inr (.inr (by simp only; omega))))] at hRES
          have h4' : (24 : Int) < (R : Int) + (R' : Int) := by omega
          subst hRES
          clear hw1 hn hm HA HB hs1 h1 h2 e4 h4 hla hlb
          go_enter Try.func69, Try.ntmps69
          go_wp2_with fail
          rw [← HW1.out]
          have ma_0 := ma.c0; have ma_1 := ma.c1; have ma_2 := ma.c2; have ma_l := ma.lt; have ma_f := ma.fz
          have mb_0 := mb.c0; have mb_1 := mb.c1; have mb_2 := mb.c2; have mb_l := mb.lt; have mb_f := mb.fz
          have mr_0 := mr.c0; have mr_1 := mr.c1; have mr_2 := mr.c2; have mr_l := mr.lt; have mr_f := mr.fz
          refine (HA'.out _ (by exact Rd.grows ha1 (by exact bel0))).mono ?_; rintro e w2 ⟨rfl, g_w2⟩
          have s_w2 := Below.size g_w2; (try simp at s_w2)
          clear ma_0 ma_1 ma_2 ma_l ma_f
          replace ma := ma.grows (w' := w2) (by exact bel1 g_w2)
          have ma_0 := ma.c0; have ma_1 := ma.c1; have ma_2 := ma.c2; have ma_l := ma.lt; have ma_f := ma.fz
          clear mb_0 mb_1 mb_2 mb_l mb_f
          replace mb := mb.grows (w' := w2) (by exact bel1 g_w2)
          have mb_0 := mb.c0; have mb_1 := mb.c1; have mb_2 := mb.c2; have mb_l := mb.lt; have mb_f := mb.fz
          clear mr_0 mr_1 mr_2 mr_l mr_f
          replace mr := mr.grows (w' := w2) (by exact bel1 g_w2)
          have mr_0 := mr.c0; have mr_1 := mr.c1; have mr_2 := mr.c2; have mr_l := mr.lt; have mr_f := mr.fz
          replace ha1 := ha1.grows (w' := w2) (by exact bel1 g_w2)
          replace hb1 := hb1.grows (w' := w2) (by exact bel1 g_w2)
          replace HG : Grows w w2 := by exact bel2 g_w2 HG
          have h_w2 := Below.size HG
          go_wp2_with fail
          refine (HB'.out _ (by exact Rd.grows hb1 (by exact bel0))).mono ?_; rintro e w3 ⟨rfl, g_w3⟩
          have s_w3 := Below.size g_w3; (try simp at s_w3)
          clear ma_0 ma_1 ma_2 ma_l ma_f
          replace ma := ma.grows (w' := w3) (by exact bel1 g_w3)
          have ma_0 := ma.c0; have ma_1 := ma.c1; have ma_2 := ma.c2; have ma_l := ma.lt; have ma_f := ma.fz
          clear mb_0 mb_1 mb_2 mb_l mb_f
          replace mb := mb.grows (w' := w3) (by exact bel1 g_w3)
          have mb_0 := mb.c0; have mb_1 := mb.c1; have mb_2 := mb.c2; have mb_l := mb.lt; have mb_f := mb.fz
          clear mr_0 mr_1 mr_2 mr_l mr_f
          replace mr := mr.grows (w' := w3) (by exact bel1 g_w3)
          have mr_0 := mr.c0; have mr_1 := mr.c1; have mr_2 := mr.c2; have mr_l := mr.lt; have mr_f := mr.fz
          replace ha1 := ha1.grows (w' := w3) (by exact bel1 g_w3)
          replace hb1 := hb1.grows (w' := w3) (by exact bel1 g_w3)
          replace HG : Grows w w3 := by exact bel2 g_w3 HG
          have h_w3 := Below.size HG
          go_wp2_with fail
          refine bodyPost_ret (v := .tuple #[.agg #[.int .i64 0, .int .i64 0, .slice none 0 0], .bool false]) ?_ rfl ?_
          · simp [results, Try.results69, go_sem, mr_0, mr_1, mr_2, mr_f, mr_l]
          · exact ⟨_, rfl, Own.nil _ _, by exact bel1 HG⟩
      · rw [stkO_no (a := ⟨r, c, a⟩) (b := ⟨r', c', b⟩) (.inr (.inr (.inl h3)))] at hRES
        have h3' : (c != c') = true := by simpa using h3
        subst hRES
        clear hw1 hn hm HA HB hs1 h1 h2 h3
        go_enter Try.func69, Try.ntmps69
        go_wp2_with fail
        rw [← HW1.out]
        have ma_0 := ma.c0; have ma_1 := ma.c1; have ma_2 := ma.c2; have ma_l := ma.lt; have ma_f := ma.fz
        have mb_0 := mb.c0; have mb_1 := mb.c1; have mb_2 := mb.c2; have mb_l := mb.lt; have mb_f := mb.fz
        have mr_0 := mr.c0; have mr_1 := mr.c1; have mr_2 := mr.c2; have mr_l := mr.lt; have mr_f := mr.fz
        refine (HA'.out _ (by exact Rd.grows ha1 (by exact bel0))).mono ?_; rintro e w2 ⟨rfl, g_w2⟩
        have s_w2 := Below.size g_w2; (try simp at s_w2)
        clear ma_0 ma_1 ma_2 ma_l ma_f
        replace ma := ma.grows (w' := w2) (by exact bel1 g_w2)
        have ma_0 := ma.c0; have ma_1 := ma.c1; have ma_2 := ma.c2; have ma_l := ma.lt; have ma_f := ma.fz
        clear mb_0 mb_1 mb_2 mb_l mb_f
        replace mb := mb.grows (w' := w2) (by exact bel1 g_w2)
        have mb_0 := mb.c0; have mb_1 := mb.c1; have mb_2 := mb.c2; have mb_l := mb.lt; have mb_f := mb.fz
        clear mr_0 mr_1 mr_2 mr_l mr_f
        replace mr := mr.grows (w' := w2) (by exact bel1 g_w2)
        have mr_0 := mr.c0; have mr_1 := mr.c1; have mr_2 := mr.c2; have mr_l := mr.lt; have mr_f := mr.fz
        replace ha1 := ha1.grows (w' := w2) (by exact bel1 g_w2)
        replace hb1 := hb1.grows (w' := w2) (by exact bel1 g_w2)
        replace HG : Grows w w2 := by exact bel2 g_w2 HG
        have h_w2 := Below.size HG
        go_wp2_with fail
        refine (HB'.out _ (by exact Rd.grows hb1 (by exact bel0))).mono ?_; rintro e w3 ⟨rfl, g_w3⟩
        have s_w3 := Below.size g_w3; (try simp at s_w3)
        clear ma_0 ma_1 ma_2 ma_l ma_f
        replace ma := ma.grows (w' := w3) (by exact bel1 g_w3)
        have ma_0 := ma.c0; have ma_1 := ma.c1; have ma_2 := ma.c2; have ma_l := ma.lt; have ma_f := ma.fz
        clear mb_0 mb_1 mb_2 mb_l mb_f
        replace mb := mb.grows (w' := w3) (by exact bel1 g_w3)
        have mb_0 := mb.c0; have mb_1 := mb.c1; have mb_2 := mb.c2; have mb_l := mb.lt; have mb_f := mb.fz
        clear mr_0 mr_1 mr_2 mr_l mr_f
        replace mr := mr.grows (w' := w3) (by exact bel1 g_w3)
        have mr_0 := mr.c0; have mr_1 := mr.c1; have mr_2 := mr.c2; have mr_l := mr.lt; have mr_f := mr.fz
        replace ha1 := ha1.grows (w' := w3) (by exact bel1 g_w3)
        replace hb1 := hb1.grows (w' := w3) (by exact bel1 g_w3)
        replace HG : Grows w w3 := by exact bel2 g_w3 HG
        have h_w3 := Below.size HG
        go_wp2_with fail
        refine bodyPost_ret (v := .tuple #[.agg #[.int .i64 0, .int .i64 0, .slice none 0 0], .bool false]) ?_ rfl ?_
        · simp [results, Try.results69, go_sem, mr_0, mr_1, mr_2, mr_f, mr_l]
        · exact ⟨_, rfl, Own.nil _ _, by exact bel1 HG⟩
theorem sStk_c (r c r' c' : Int) (A B : Option Addr) (a b : List Int) (n m ca cb : Nat) (w : World) (hn : a.length = n) (hm : b.length = m) (ha : Rd w A a) (hb : Rd w B b) (hl : n ≤ 1099511627776) (hl2 : m ≤ 1099511627776) :
    Calls Try.prog 64 #[.agg #[.int .i64 r, .int .i64 c, .slice A n ca], .agg #[.int .i64 r', .int .i64 c', .slice B m cb]] w (MatRet (stkO ⟨r, c, a⟩ ⟨r', c', b⟩) w) := by
  have HA := fun W h => sIsMatrix_c r c A a n ca W hn h hl
  have HB := fun W h => sIsMatrix_c r' c' B b m cb W hm h hl2
  obtain ⟨w1, hw1, ma, mb, mr, hs1, HG⟩ := two_mats w r c r' c' (.slice A n ca) (.slice B m cb)
  have HW1 := Lib.hid hw1
  have HS1 := Lib.hid hs1
  have ha1 := ha.grows HG
  have hb1 := hb.grows HG
  obtain ⟨RES, hRES⟩ : ∃ x, x = stkO ⟨r, c, a⟩ ⟨r', c', b⟩ := ⟨_, rfl⟩
  rw [← hRES]
  cases h1 : isMat r c a
  · rw [stkO_no (a := ⟨r, c, a⟩) (.inl h1)] at hRES
    rw [h1] at HA
    have HA' := Lib.hid HA
    subst hRES
    clear hw1 hn hm HA HB hs1 h1
    go_enter Try.func64, Try.ntmps64
    go_wp2_with fail
    rw [← HW1.out]
    have ma_0 := ma.c0; have ma_1 := ma.c1; have ma_2 := ma.c2; have ma_l := ma.lt; have ma_f := ma.fz
    have mb_0 := mb.c0; have mb_1 := mb.c1; have mb_2 := mb.c2; have mb_l := mb.lt; have mb_f := mb.fz
    have mr_0 := mr.c0; have mr_1 := mr.c1; have mr_2 := mr.c2; have mr_l := mr.lt; have mr_f := mr.fz
    refine (HA'.out _ (by exact Rd.grows ha1 (by exact bel0))).mono ?_; rintro e w2 ⟨rfl, g_w2⟩
    have s_w2 := Below.size g_w2; (try simp at s_w2)
    clear ma_0 ma_1 ma_2 ma_l ma_f
    replace ma := ma.grows (w' := w2) (by exact bel1 g_w2)
    have ma_0 := ma.c0; have ma_1 := ma.c1; have ma_2 := ma.c2; have ma_l := ma.lt; have ma_f := ma.fz
    clear mb_0 mb_1 mb_2 mb_l mb_f
    replace mb := mb.grows (w' := w2) (by exact bel1 g_w2)
    have mb_0 := mb.c0; have mb_1 := mb.c1; have mb_2 := mb.c2; have mb_l := mb.lt; have mb_f := mb.fz
    clear mr_0 mr_1 mr_2 mr_l mr_f
    replace mr := mr.grows (w' := w2) (by exact bel1 g_w2)
    have mr_0 := mr.c0; have mr_1 := mr.c1; have mr_2 := mr.c2; have mr_l := mr.lt; have mr_f := mr.fz
    replace ha1 := ha1.grows (w' := w2) (by exact bel1 g_w2)
    replace hb1 := hb1.grows (w' := w2) (by exact bel1 g_w2)
    replace HG : Grows w w2 := by exact bel2 g_w2 HG
    have h_w2 := Below.size HG
    go_wp2_with fail
    refine bodyPost_ret (v := .tuple #[.agg #[.int .i64 0, .int .i64 0, .slice none 0 0], .bool false]) ?_ rfl ?_
    · simp [results, Try.results64, go_sem, mr_0, mr_1, mr_2, mr_f, mr_l]
    · exact ⟨_, rfl, Own.nil _ _, by exact bel1 HG⟩
  · rw [h1] at HA
    have HA' := Lib.hid HA
    cases h2 : isMat r' c' b
    · rw [stkO_no (b := ⟨r', c', b⟩) (.inr (.inl h2))] at hRES
      rw [h2] at HB
      have HB' := Lib.hid HB
      subst hRES
      clear hw1 hn hm HA HB hs1 h1 h2
      go_enter Try.func64, Try.ntmps64
      go_wp2_with fail
      rw [← HW1.out]
      have ma_0 := ma.c0; have ma_1 := ma.c1; have ma_2 := ma.c2; have ma_l := ma.lt; have ma_f := ma.fz
      have mb_0 := mb.c0; have mb_1 := mb.c1; have mb_2 := mb.c2; have mb_l := mb.lt; have mb_f := mb.fz
      have mr_0 := mr.c0; have mr_1 := mr.c1; have mr_2 := mr.c2; have mr_l := mr.lt; have mr_f := mr.fz
      refine (HA'.out _ (by exact Rd.grows ha1 (by exact bel0))).mono ?_; rintro e w2 ⟨rfl, g_w2⟩
      have s_w2 := Below.size g_w2; (try simp at s_w2)
      clear ma_0 ma_1 ma_2 ma_l ma_f
      replace ma := ma.grows (w' := w2) (by exact bel1 g_w2)
      have ma_0 := ma.c0; have ma_1 := ma.c1; have ma_2 := ma.c2; have ma_l := ma.lt; have ma_f := ma.fz
      clear mb_0 mb_1 mb_2 mb_l mb_f
      replace mb := mb.grows (w' := w2) (by exact bel1 g_w2)
      have mb_0 := mb.c0; have mb_1 := mb.c1; have mb_2 := mb.c2; have mb_l := mb.lt; have mb_f := mb.fz
      clear mr_0 mr_1 mr_2 mr_l mr_f
      replace mr := mr.grows (w' := w2) (by exact bel1 g_w2)
      have mr_0 := mr.c0; have mr_1 := mr.c1; have mr_2 := mr.c2; have mr_l := mr.lt; have mr_f := mr.fz
      replace ha1 := ha1.grows (w' := w2) (by exact bel1 g_w2)
      replace hb1 := hb1.grows (w' := w2) (by exact bel1 g_w2)
      replace HG : Grows w w2 := by exact bel2 g_w2 HG
      have h_w2 := Below.size HG
      go_wp2_with fail
      refine (HB'.out _ (by exact Rd.grows hb1 (by exact bel0))).mono ?_; rintro e w3 ⟨rfl, g_w3⟩
      have s_w3 := Below.size g_w3; (try simp at s_w3)
      clear ma_0 ma_1 ma_2 ma_l ma_f
      replace ma := ma.grows (w' := w3) (by exact bel1 g_w3)
      have ma_0 := ma.c0; have ma_1 := ma.c1; have ma_2 := ma.c2; have ma_l := ma.lt; have ma_f := ma.fz
      clear mb_0 mb_1 mb_2 mb_l mb_f
      replace mb := mb.grows (w' := w3) (by exact bel1 g_w3)
      have mb_0 := mb.c0; have mb_1 := mb.c1; have mb_2 := mb.c2; have mb_l := mb.lt; have mb_f := mb.fz
      clear mr_0 mr_1 mr_2 mr_l mr_f
      replace mr := mr.grows (w' := w3) (by exact bel1 g_w3)
      have mr_0 := mr.c0; have mr_1 := mr.c1; have mr_2 := mr.c2; have mr_l := mr.lt; have mr_f := mr.fz
      replace ha1 := ha1.grows (w' := w3) (by exact bel1 g_w3)
      replace hb1 := hb1.grows (w' := w3) (by exact bel1 g_w3)
      replace HG : Grows w w3 := by exact bel2 g_w3 HG
      have h_w3 := Below.size HG
      go_wp2_with fail
      refine bodyPost_ret (v := .tuple #[.agg #[.int .i64 0, .int .i64 0, .slice none 0 0], .bool false]) ?_ rfl ?_
      · simp [results, Try.results64, go_sem, mr_0, mr_1, mr_2, mr_f, mr_l]
      · exact ⟨_, rfl, Own.nil _ _, by exact bel1 HG⟩
    · rw [h2] at HB
      have HB' := Lib.hid HB
      by_cases h3 : c = c'
      · subst h3
        obtain ⟨R, C, rfl, rfl, hR, hC, hla, _⟩ := isMat_nat h1
        obtain ⟨R', C', rfl, e4, hR', hC', hlb, _⟩ := isMat_nat h2
        obtain rfl : C = C' := by omega
        by_cases h4 : R + R' ≤ 24
        · rw [stkO_yes (a := ⟨R, C, a⟩) (b := ⟨R', C, b⟩) h1 h2 rfl (by simp only; omega)] at hRES
          have hwr : IntKind.i64.wrap ((R : Int) + (R' : Int)) = (R : Int) + (R' : Int) := IntWalk.i64_in _ (by omega)
          have h4' : ¬ (24 : Int) < (R : Int) + (R' : Int) := by omega
          have hla2 : a.length ≤ 576 := by rw [hla]; exact Nat.mul_le_mul hR hC
          have hlb2 : b.length ≤ 576 := by rw [hlb]; exact Nat.mul_le_mul hR' hC
          have HN := Lib.hid hn
          have HM := Lib.hid hm
          subst hRES
          clear hw1 hn hm HA HB hs1 h1 h2 e4 h4 hla hlb
          go_enter Try.func64, Try.ntmps64
          go_wp2_with fail
          rw [← HW1.out]
          have ma_0 := ma.c0; have ma_1 := ma.c1; have ma_2 := ma.c2; have ma_l := ma.lt; have ma_f := ma.fz
          have mb_0 := mb.c0; have mb_1 := mb.c1; have mb_2 := mb.c2; have mb_l := mb.lt; have mb_f := mb.fz
          have mr_0 := mr.c0; have mr_1 := mr.c1; have mr_2 := mr.c2; have mr_l := mr.lt; have mr_f := mr.fz
          refine (HA'.out _ (by exact Rd.grows ha1 (by exact bel0))).mono ?_; rintro e w2 ⟨rfl, g_w2⟩
          have s_w2 := Below.size g_w2; (try simp at s_w2)
          clear ma_0 ma_1 ma_2 ma_l ma_f
          replace ma := ma.grows (w' := w2) (by exact bel1 g_w2)
          have ma_0 := ma.c0; have ma_1 := ma.c1; have ma_2 := ma.c2; have ma_l := ma.lt; have ma_f := ma.fz
          clear mb_0 mb_1 mb_2 mb_l mb_f
          replace mb := mb.grows (w' := w2) (by exact bel1 g_w2)
          have mb_0 := mb.c0; have mb_1 := mb.c1; have mb_2 := mb.c2; have mb_l := mb.lt; have mb_f := mb.fz
          clear mr_0 mr_1 mr_2 mr_l mr_f
          replace mr := mr.grows (w' := w2) (by exact bel1 g_w2)
          have mr_0 := mr.c0; have mr_1 := mr.c1; have mr_2 := mr.c2; have mr_l := mr.lt; have mr_f := mr.fz
          replace ha1 := ha1.grows (w' := w2) (by exact bel1 g_w2)
          replace hb1 := hb1.grows (w' := w2) (by exact bel1 g_w2)
          replace HG : Grows w w2 := by exact bel2 g_w2 HG
          have h_w2 := Below.size HG
          go_wp2_with fail
          refine (HB'.out _ (by exact Rd.grows hb1 (by exact bel0))).mono ?_; rintro e w3 ⟨rfl, g_w3⟩
          have s_w3 := Below.size g_w3; (try simp at s_w3)
          clear ma_0 ma_1 ma_2 ma_l ma_f
          replace ma := ma.grows (w' := w3) (by exact bel1 g_w3)
          have ma_0 := ma.c0; have ma_1 := ma.c1; have ma_2 := ma.c2; have ma_l := ma.lt; have ma_f := ma.fz
          clear mb_0 mb_1 mb_2 mb_l mb_f
          replace mb := mb.grows (w' := w3) (by exact bel1 g_w3)
          have mb_0 := mb.c0; have mb_1 := mb.c1; have mb_2 := mb.c2; have mb_l := mb.lt; have mb_f := mb.fz
          clear mr_0 mr_1 mr_2 mr_l mr_f
          replace mr := mr.grows (w' := w3) (by exact bel1 g_w3)
          have mr_0 := mr.c0; have mr_1 := mr.c1; have mr_2 := mr.c2; have mr_l := mr.lt; have mr_f := mr.fz
          replace ha1 := ha1.grows (w' := w3) (by exact bel1 g_w3)
          replace hb1 := hb1.grows (w' := w3) (by exact bel1 g_w3)
          replace HG : Grows w w3 := by exact bel2 g_w3 HG
          have h_w3 := Below.size HG
          go_wp2_with fail
          have hnew : Own (w3.alloc (.cells #[] 3)).drew w3.heap.size (.slice (some ⟨w3.heap.size, 0, none⟩) 0 0) [] := (Own.new_ w3 rfl (Nat.le_refl _)).drew
          have ma3 := ma; have mb3 := mb; have mr3 := mr
          clear mr_0 mr_1 mr_2 mr_l mr_f
          clear mr
          (refine wp_region_heldL (fun W => W.cell? ⟨w.heap.size, 0, none⟩ = some (.int .i64 R) ∧ W.cell? ⟨w.heap.size, 1, none⟩ = some (.int .i64 C) ∧ W.cell? ⟨w.heap.size, 2, none⟩ = some (.slice A n ca) ∧ W.cell? ⟨w.heap.size + 1, 0, none⟩ = some (.int .i64 R') ∧ W.cell? ⟨w.heap.size + 1, 1, none⟩ = some (.int .i64 C) ∧ W.cell? ⟨w.heap.size + 1, 2, none⟩ = some (.slice B m cb)) (by kernel_rfl) (by ((try dsimp only); (first | exact two_boxes2 ma9 mb9 | ((have _tt := ma9); exact two_boxes2 (v := .slice A n ca) (v' := .slice B m cb) (by ((repeat' (first | with_reducible exact ma9 | with_reducible refine MBox.alloc ?_ _ | with_reducible refine MBox.drew_ ?_ | with_reducible refine MBox.far ?_ ?_ _)); all_goals (first | omega | (simp; done) | (simp; omega)))) (by ((repeat' (first | with_reducible exact mb9 | with_reducible refine MBox.alloc ?_ _ | with_reducible refine MBox.drew_ ?_ | with_reducible refine MBox.far ?_ ?_ _)); all_goals (first | omega | (simp; done) | (simp; omega))))) | exact two_boxes2 ma7 mb7 | exact two_boxes2 (ma3.grows (by exact bel0)) (mb3.grows (by exact bel0))))) (fun hHeld => ?_); refine heldL_take (i := 0) (v := _) (by rfl) (by kernel_rfl) (by kernel_rfl) (by kernel_rfl) (fun _ _ _ h => h) (Or.inl ⟨by rfl, fun wS hSw => by ((try dsimp only at hSw); go_simp; (try with_reducible rfl))⟩) (by assumption) ?_; simp only [Act.put, List.setIfInBounds_toArray, List.set_cons_zero, List.set_cons_succ]; refine heldL_take (i := 1) (v := _) (by rfl) (by kernel_rfl) (by kernel_rfl) (by kernel_rfl) (fun _ _ _ h => h) (Or.inl ⟨by rfl, fun wS hSw => by ((try dsimp only at hSw); go_simp; (try with_reducible rfl))⟩) (by assumption) ?_; simp only [Act.put, List.setIfInBounds_toArray, List.set_cons_zero, List.set_cons_succ]; refine heldL_take (i := 2) (v := _) (by rfl) (by kernel_rfl) (by kernel_rfl) (by kernel_rfl) (fun _ _ _ h => h) (Or.inl ⟨by rfl, fun wS hSw => by ((try dsimp only at hSw); go_simp; (try with_reducible rfl))⟩) (by assumption) ?_; simp only [Act.put, List.setIfInBounds_toArray, List.set_cons_zero, List.set_cons_succ]; refine heldL_take (i := 3) (v := _) (by rfl) (by kernel_rfl) (by kernel_rfl) (by kernel_rfl) (fun _ _ _ h => h) (Or.inl ⟨by rfl, fun wS hSw => by ((try dsimp only at hSw); go_simp; (try with_reducible rfl))⟩) (by assumption) ?_; simp only [Act.put, List.setIfInBounds_toArray, List.set_cons_zero, List.set_cons_succ]; refine heldL_take (i := 4) (v := _) (by rfl) (by kernel_rfl) (by kernel_rfl) (by kernel_rfl) (fun _ _ _ h => h) (Or.inl ⟨by rfl, fun wS hSw => by ((try dsimp only at hSw); go_simp; (try with_reducible rfl))⟩) (by assumption) ?_; simp only [Act.put, List.setIfInBounds_toArray, List.set_cons_zero, List.set_cons_succ]; refine heldL_take (i := 5) (v := _) (by rfl) (by kernel_rfl) (by kernel_rfl) (by kernel_rfl) (fun _ _ _ h => h) (Or.inl ⟨by rfl, fun wS hSw => by ((try dsimp only at hSw); go_simp; (try with_reducible rfl))⟩) (by assumption) ?_; simp only [Act.put, List.setIfInBounds_toArray, List.set_cons_zero, List.set_cons_succ]; refine heldL_take (i := 6) (v := _) (by rfl) (by kernel_rfl) (by kernel_rfl) (by kernel_rfl) (fun _ _ _ h => h) (Or.inl ⟨by rfl, fun wS hSw => by ((try dsimp only at hSw); go_simp; (try with_reducible rfl))⟩) (by assumption) ?_; simp only [Act.put, List.setIfInBounds_toArray, List.set_cons_zero, List.set_cons_succ]; refine heldL_take (i := 8) (v := _) (by rfl) (by kernel_rfl) (by kernel_rfl) (by kernel_rfl) (fun _ _ _ h => h) (Or.inl ⟨by rfl, fun wS hSw => by ((try dsimp only at hSw); go_simp; (try with_reducible rfl))⟩) (by assumption) ?_; simp only [Act.put, List.setIfInBounds_toArray, List.set_cons_zero, List.set_cons_succ]; refine heldL_take (i := 9) (v := _) (by rfl) (by kernel_rfl) (by kernel_rfl) (by kernel_rfl) (fun _ _ _ h => h) (Or.inl ⟨by rfl, fun wS hSw => by ((try dsimp only at hSw); go_simp; (try with_reducible rfl))⟩) (by assumption) ?_; simp only [Act.put, List.setIfInBounds_toArray, List.set_cons_zero, List.set_cons_succ]; refine heldL_take (i := 11) (v := _) (by rfl) (by kernel_rfl) (by kernel_rfl) (by kernel_rfl) (fun _ _ _ h => h) (Or.inl ⟨by rfl, fun wS hSw => by ((try dsimp only at hSw); go_simp; (try with_reducible rfl))⟩) (by assumption) ?_; simp only [Act.put, List.setIfInBounds_toArray, List.set_cons_zero, List.set_cons_succ]; refine heldL_take (i := 12) (v := _) (by rfl) (by kernel_rfl) (by kernel_rfl) (by kernel_rfl) (fun _ _ _ h => h) (Or.inl ⟨by rfl, fun wS hSw => by ((try dsimp only at hSw); go_simp; (try with_reducible rfl))⟩) (by assumption) ?_; simp only [Act.put, List.setIfInBounds_toArray, List.set_cons_zero, List.set_cons_succ]; refine heldL_step (i := 7) (by kernel_rfl) (by rfl) (fun K hK => ?_); go_simp; refine hK.out _ _ (by ((try dsimp only); (first | exact two_boxes2 ma9 mb9 | ((have _tt := ma9); exact two_boxes2 (v := .slice A n ca) (v' := .slice B m cb) (by ((repeat' (first | with_reducible exact ma9 | with_reducible refine MBox.alloc ?_ _ | with_reducible refine MBox.drew_ ?_ | with_reducible refine MBox.far ?_ ?_ _)); all_goals (first | omega | (simp; done) | (simp; omega)))) (by ((repeat' (first | with_reducible exact mb9 | with_reducible refine MBox.alloc ?_ _ | with_reducible refine MBox.drew_ ?_ | with_reducible refine MBox.far ?_ ?_ _)); all_goals (first | omega | (simp; done) | (simp; omega))))) | exact two_boxes2 ma7 mb7 | exact two_boxes2 (ma3.grows (by exact bel0)) (mb3.grows (by exact bel0))))) (fun hHeld => ?_); clear hK K; (try simp only [Act.put, List.setIfInBounds_toArray, List.set_cons_zero, List.set_cons_succ]); refine heldL_step (i := 10) (by kernel_rfl) (by rfl) (fun K hK => ?_); (refine step_app rfl (.tmp 37) (.tmp 39) rfl _ w3.heap.size _ [] (by rfl) hnew A a n ca (by rfl) HN.out (by exact (Rd.grows ha1 (by exact bel0))) (by simp; omega) (by simp) ?_; intro v7 w7 ho7 hg7 hv7; have hb7 : Below w3.heap.size w3 w7 := Below.trans (show Grows w3 (w3.alloc (.cells #[] 3)).drew by exact bel0) (below_app hnew (by simp) hg7); rw [List.nil_append] at ho7; obtain ⟨A7, c7, rfl, _, _⟩ := ho7.val; have ma7 := ma3.keep hb7 ma3.lt; have mb7 := mb3.keep hb7 mb3.lt; have hs7 := hb7.size) ; refine hK.out _ _ (by ((try dsimp only); (first | exact two_boxes2 ma9 mb9 | ((have _tt := ma9); exact two_boxes2 (v := .slice A n ca) (v' := .slice B m cb) (by ((repeat' (first | with_reducible exact ma9 | with_reducible refine MBox.alloc ?_ _ | with_reducible refine MBox.drew_ ?_ | with_reducible refine MBox.far ?_ ?_ _)); all_goals (first | omega | (simp; done) | (simp; omega)))) (by ((repeat' (first | with_reducible exact mb9 | with_reducible refine MBox.alloc ?_ _ | with_reducible refine MBox.drew_ ?_ | with_reducible refine MBox.far ?_ ?_ _)); all_goals (first | omega | (simp; done) | (simp; omega))))) | exact two_boxes2 ma7 mb7 | exact two_boxes2 (ma3.grows (by exact bel0)) (mb3.grows (by exact bel0))))) (fun hHeld => ?_); clear hK K; (try simp only [Act.put, List.setIfInBounds_toArray, List.set_cons_zero, List.set_cons_succ]); refine heldL_step (i := 13) (by kernel_rfl) (by rfl) (fun K hK => ?_); (refine step_app rfl (.tmp 40) (.tmp 42) rfl _ w3.heap.size _ a (by rfl) ho7 B b m cb (by rfl) HM.out (by exact (Rd.grows hb1 (by exact bel1 hb7))) (by omega) (by omega) ?_; intro v9 w9 ho9 hg9 hv9; have hb9 : Below w3.heap.size w3 w9 := Below.trans hb7 (below_app ho7 (by omega) hg9); obtain ⟨A9, c9, rfl, _, _⟩ := ho9.val; have ma9 := ma3.keep hb9 ma3.lt; have mb9 := mb3.keep hb9 mb3.lt; have mr9 := mr3.keep hb9 mr3.lt; obtain ⟨r0, r1, r2⟩ := mr9.cells; have rf := mr9.fz; have rl := mr9.lt; have hs9 := hb9.size) ; refine hK.out _ _ (by ((try dsimp only); (first | exact two_boxes2 ma9 mb9 | ((have _tt := ma9); exact two_boxes2 (v := .slice A n ca) (v' := .slice B m cb) (by ((repeat' (first | with_reducible exact ma9 | with_reducible refine MBox.alloc ?_ _ | with_reducible refine MBox.drew_ ?_ | with_reducible refine MBox.far ?_ ?_ _)); all_goals (first | omega | (simp; done) | (simp; omega)))) (by ((repeat' (first | with_reducible exact mb9 | with_reducible refine MBox.alloc ?_ _ | with_reducible refine MBox.drew_ ?_ | with_reducible refine MBox.far ?_ ?_ _)); all_goals (first | omega | (simp; done) | (simp; omega))))) | exact two_boxes2 ma7 mb7 | exact two_boxes2 (ma3.grows (by exact bel0)) (mb3.grows (by exact bel0))))) (fun hHeld => ?_); clear hK K; (try simp only [Act.put, List.setIfInBounds_toArray, List.set_cons_zero, List.set_cons_succ]); refine heldL_take (i := 14) (v := _) (by rfl) (by kernel_rfl) (by kernel_rfl) (by kernel_rfl) (fun _ _ _ h => h) (Or.inl ⟨by rfl, fun wS hSw => by ((try dsimp only at hSw); go_simp; (try with_reducible rfl))⟩) (by assumption) ?_; simp only [Act.put, List.setIfInBounds_toArray, List.set_cons_zero, List.set_cons_succ]; refine heldL_step (i := 15) (by kernel_rfl) (by rfl) (fun K hK => ?_); go_simp; refine hK.out _ _ (by ((try dsimp only); (first | exact two_boxes2 ma9 mb9 | ((have _tt := ma9); exact two_boxes2 (v := .slice A n ca) (v' := .slice B m cb) (by ((repeat' (first | with_reducible exact ma9 | with_reducible refine MBox.alloc ?_ _ | with_reducible refine MBox.drew_ ?_ | with_reducible refine MBox.far ?_ ?_ _)); all_goals (first | omega | (simp; done) | (simp; omega)))) (by ((repeat' (first | with_reducible exact mb9 | with_reducible refine MBox.alloc ?_ _ | with_reducible refine MBox.drew_ ?_ | with_reducible refine MBox.far ?_ ?_ _)); all_goals (first | omega | (simp; done) | (simp; omega))))) | exact two_boxes2 ma7 mb7 | exact two_boxes2 (ma3.grows (by exact bel0)) (mb3.grows (by exact bel0))))) (fun hHeld => ?_); clear hK K; (try simp only [Act.put, List.setIfInBounds_toArray, List.set_cons_zero, List.set_cons_succ]); refine heldL_take (i := 16) (v := _) (by rfl) (by kernel_rfl) (by kernel_rfl) (by kernel_rfl) (fun _ _ _ h => h) (Or.inl ⟨by rfl, fun wS hSw => by ((try dsimp only at hSw); go_simp; (try with_reducible rfl))⟩) (by assumption) ?_; simp only [Act.put, List.setIfInBounds_toArray, List.set_cons_zero, List.set_cons_succ]; refine wpAnyH_done (by kernel_rfl) ?_ _; refine NoPanic.normal ?_)
          go_wp2_with fail
          refine bodyPost_ret (v := .tuple #[.agg #[.int .i64 ((R : Int) + (R' : Int)), .int .i64 C, .slice A9 (a ++ b).length c9], .bool true]) ?_ rfl ?_
          · simp [results, Try.results64, go_sem, r0, r1, r2, rf, rl]
          · have hs1 := HS1.out
            have ho8 := ho9.less (B' := w.heap.size) (by omega)
            have hf : ∀ g, (Value.slice A9 (a ++ b).length c9).ownBlock = some g → g ≠ w.heap.size + 1 + 1 := fun g hg => by have := (World.ownsRow.lt ho9 g hg).1; omega
            exact ⟨_, rfl, ((ho8.far (p := ⟨w.heap.size + 1 + 1, 0, none⟩) hf _).far (p := ⟨w.heap.size + 1 + 1, 1, none⟩) hf _).far (p := ⟨w.heap.size + 1 + 1, 2, none⟩) hf _, by exact bel2 hb9 HG⟩
        · rw [stkO_no (a := ⟨R, C, a⟩) (b := ⟨R', C, b⟩) (.inr (.inr (.inr (by simp only; omega))))] at hRES
          have h4' : (24 : Int) < (R : Int) + (R' : Int) := by omega
          subst hRES
          clear hw1 hn hm HA HB hs1 h1 h2 e4 h4 hla hlb
          go_enter Try.func64, Try.ntmps64
          go_wp2_with fail
          rw [← HW1.out]
          have ma_0 := ma.c0; have ma_1 := ma.c1; have ma_2 := ma.c2; have ma_l := ma.lt; have ma_f := ma.fz
          have mb_0 := mb.c0; have mb_1 := mb.c1; have mb_2 := mb.c2; have mb_l := mb.lt; have mb_f := mb.fz
          have mr_0 := mr.c0; have mr_1 := mr.c1; have mr_2 := mr.c2; have mr_l := mr.lt; have mr_f := mr.fz
          refine (HA'.out _ (by exact Rd.grows ha1 (by exact bel0))).mono ?_; rintro e w2 ⟨rfl, g_w2⟩
          have s_w2 := Below.size g_w2; (try simp at s_w2)
          clear ma_0 ma_1 ma_2 ma_l ma_f
          replace ma := ma.grows (w' := w2) (by exact bel1 g_w2)
          have ma_0 := ma.c0; have ma_1 := ma.c1; have ma_2 := ma.c2; have ma_l := ma.lt; have ma_f := ma.fz
          clear mb_0 mb_1 mb_2 mb_l mb_f
          replace mb := mb.grows (w' := w2) (by exact bel1 g_w2)
          have mb_0 := mb.c0; have mb_1 := mb.c1; have mb_2 := mb.c2; have mb_l := mb.lt; have mb_f := mb.fz
          clear mr_0 mr_1 mr_2 mr_l mr_f
          replace mr := mr.grows (w' := w2) (by exact bel1 g_w2)
          have mr_0 := mr.c0; have mr_1 := mr.c1; have mr_2 := mr.c2; have mr_l := mr.lt; have mr_f := mr.fz
          replace ha1 := ha1.grows (w' := w2) (by exact bel1 g_w2)
          replace hb1 := hb1.grows (w' := w2) (by exact bel1 g_w2)
          replace HG : Grows w w2 := by exact bel2 g_w2 HG
          have h_w2 := Below.size HG
          go_wp2_with fail
          refine (HB'.out _ (by exact Rd.grows hb1 (by exact bel0))).mono ?_; rintro e w3 ⟨rfl, g_w3⟩
          have s_w3 := Below.size g_w3; (try simp at s_w3)
          clear ma_0 ma_1 ma_2 ma_l ma_f
          replace ma := ma.grows (w' := w3) (by exact bel1 g_w3)
          have ma_0 := ma.c0; have ma_1 := ma.c1; have ma_2 := ma.c2; have ma_l := ma.lt; have ma_f := ma.fz
          clear mb_0 mb_1 mb_2 mb_l mb_f
          replace mb := mb.grows (w' := w3) (by exact bel1 g_w3)
          have mb_0 := mb.c0; have mb_1 := mb.c1; have mb_2 := mb.c2; have mb_l := mb.lt; have mb_f := mb.fz
          clear mr_0 mr_1 mr_2 mr_l mr_f
          replace mr := mr.grows (w' := w3) (by exact bel1 g_w3)
          have mr_0 := mr.c0; have mr_1 := mr.c1; have mr_2 := mr.c2; have mr_l := mr.lt; have mr_f := mr.fz
          replace ha1 := ha1.grows (w' := w3) (by exact bel1 g_w3)
          replace hb1 := hb1.grows (w' := w3) (by exact bel1 g_w3)
          replace HG : Grows w w3 := by exact bel2 g_w3 HG
          have h_w3 := Below.size HG
          go_wp2_with fail
          refine bodyPost_ret (v := .tuple #[.agg #[.int .i64 0, .int .i64 0, .slice none 0 0], .bool false]) ?_ rfl ?_
          · simp [results, Try.results64, go_sem, mr_0, mr_1, mr_2, mr_f, mr_l]
          · exact ⟨_, rfl, Own.nil _ _, by exact bel1 HG⟩
      · rw [stkO_no (a := ⟨r, c, a⟩) (b := ⟨r', c', b⟩) (.inr (.inr (.inl h3)))] at hRES
        have h3' : (c != c') = true := by simpa using h3
        subst hRES
        clear hw1 hn hm HA HB hs1 h1 h2 h3
        go_enter Try.func64, Try.ntmps64
        go_wp2_with fail
        rw [← HW1.out]
        have ma_0 := ma.c0; have ma_1 := ma.c1; have ma_2 := ma.c2; have ma_l := ma.lt; have ma_f := ma.fz
        have mb_0 := mb.c0; have mb_1 := mb.c1; have mb_2 := mb.c2; have mb_l := mb.lt; have mb_f := mb.fz
        have mr_0 := mr.c0; have mr_1 := mr.c1; have mr_2 := mr.c2; have mr_l := mr.lt; have mr_f := mr.fz
        refine (HA'.out _ (by exact Rd.grows ha1 (by exact bel0))).mono ?_; rintro e w2 ⟨rfl, g_w2⟩
        have s_w2 := Below.size g_w2; (try simp at s_w2)
        clear ma_0 ma_1 ma_2 ma_l ma_f
        replace ma := ma.grows (w' := w2) (by exact bel1 g_w2)
        have ma_0 := ma.c0; have ma_1 := ma.c1; have ma_2 := ma.c2; have ma_l := ma.lt; have ma_f := ma.fz
        clear mb_0 mb_1 mb_2 mb_l mb_f
        replace mb := mb.grows (w' := w2) (by exact bel1 g_w2)
        have mb_0 := mb.c0; have mb_1 := mb.c1; have mb_2 := mb.c2; have mb_l := mb.lt; have mb_f := mb.fz
        clear mr_0 mr_1 mr_2 mr_l mr_f
        replace mr := mr.grows (w' := w2) (by exact bel1 g_w2)
        have mr_0 := mr.c0; have mr_1 := mr.c1; have mr_2 := mr.c2; have mr_l := mr.lt; have mr_f := mr.fz
        replace ha1 := ha1.grows (w' := w2) (by exact bel1 g_w2)
        replace hb1 := hb1.grows (w' := w2) (by exact bel1 g_w2)
        replace HG : Grows w w2 := by exact bel2 g_w2 HG
        have h_w2 := Below.size HG
        go_wp2_with fail
        refine (HB'.out _ (by exact Rd.grows hb1 (by exact bel0))).mono ?_; rintro e w3 ⟨rfl, g_w3⟩
        have s_w3 := Below.size g_w3; (try simp at s_w3)
        clear ma_0 ma_1 ma_2 ma_l ma_f
        replace ma := ma.grows (w' := w3) (by exact bel1 g_w3)
        have ma_0 := ma.c0; have ma_1 := ma.c1; have ma_2 := ma.c2; have ma_l := ma.lt; have ma_f := ma.fz
        clear mb_0 mb_1 mb_2 mb_l mb_f
        replace mb := mb.grows (w' := w3) (by exact bel1 g_w3)
        have mb_0 := mb.c0; have mb_1 := mb.c1; have mb_2 := mb.c2; have mb_l := mb.lt; have mb_f := mb.fz
        clear mr_0 mr_1 mr_2 mr_l mr_f
        replace mr := mr.grows (w' := w3) (by exact bel1 g_w3)
        have mr_0 := mr.c0; have mr_1 := mr.c1; have mr_2 := mr.c2; have mr_l := mr.lt; have mr_f := mr.fz
        replace ha1 := ha1.grows (w' := w3) (by exact bel1 g_w3)
        replace hb1 := hb1.grows (w' := w3) (by exact bel1 g_w3)
        replace HG : Grows w w3 := by exact bel2 g_w3 HG
        have h_w3 := Below.size HG
        go_wp2_with fail
        refine bodyPost_ret (v := .tuple #[.agg #[.int .i64 0, .int .i64 0, .slice none 0 0], .bool false]) ?_ rfl ?_
        · simp [results, Try.results64, go_sem, mr_0, mr_1, mr_2, mr_f, mr_l]
        · exact ⟨_, rfl, Own.nil _ _, by exact bel1 HG⟩
end
end Go.Proofs.Ytpgoefdeodoacaa

/- Contracts: the first columns of a matrix. -/
namespace Go.Proofs.Ytpgoefdeodoacaa
set_option linter.unusedSimpArgs false
set_option linter.unusedVariables false
open Go.RowKit

def fcL (R C N : Nat) (l : List Int) : List Int := tab R N fun i j => nth l (i * C + j)
theorem fcL_length (R C N : Nat) (l : List Int) : (fcL R C N l).length = R * N := tab_length _ _ _
theorem fcL_num {R C N : Nat} {l : List Int} (h : allNum l = true) : allNum (fcL R C N l) = true := by
  rw [allNum_iff]
  intro i hi
  rw [fcL_length] at hi
  obtain ⟨h1, h2, h3⟩ := idx_split hi
  rw [h3]
  unfold fcL
  rw [tab_nth _ h1 h2]
  by_cases e : (i / N * C + i % N) < l.length
  · exact (allNum_iff l).1 h _ e
  · rw [nth_out _ _ (by omega)]; decide
theorem fcL_succ {I C N : Nat} {l : List Int} (hN : N ≤ C) (hl : (I + 1) * C ≤ l.length) : fcL (I + 1) C N l = fcL I C N l ++ (l.take (I * C + N)).drop (I * C) := by
  have h1 : (I + 1) * C = I * C + C := by rw [Nat.add_mul, Nat.one_mul]
  have h2 : (I + 1) * N = I * N + N := by rw [Nat.add_mul, Nat.one_mul]
  have h3 : ((l.take (I * C + N)).drop (I * C)).length = N := by rw [List.length_drop, List.length_take]; omega
  refine nth_ext (by rw [List.length_append, fcL_length, fcL_length, h3, h2]) fun k hk => ?_
  rw [fcL_length] at hk
  obtain ⟨a1, a2, a3⟩ := idx_split hk
  have e1 : nth (fcL (I + 1) C N l) k = nth l (k / N * C + k % N) := by
    unfold fcL
    conv => lhs; rw [a3]
    rw [tab_nth _ a1 a2]
  rw [e1]
  by_cases e : k < I * N
  · rw [nth_append_left _ _ _ (by rw [fcL_length]; exact e)]
    obtain ⟨b1, b2, b3⟩ := idx_split e
    unfold fcL
    conv => rhs; rw [b3]
    rw [tab_nth _ b1 b2]
  · rw [nth_append_right _ _ _ (by rw [fcL_length]; omega), fcL_length]
    have hN0 : 0 < N := by rcases Nat.eq_zero_or_pos N with h | h; (· subst h; omega); (· exact h)
    have q1 : k / N = I := by
      have : I * N ≤ k := by omega
      exact Nat.le_antisymm (Nat.le_of_lt_succ a1) ((Nat.le_div_iff_mul_le hN0).2 this)
    have q2 : k % N = k - I * N := by rw [q1] at a3; omega
    rw [q1, q2]
    unfold nth
    simp only [List.getD_eq_getElem?_getD, List.getElem?_drop]
    rw [List.getElem?_take, if_pos (by omega)]
/-- the shape of a basis, of a kernel -/
theorem basO_shape {a k : MX} (h : basO a = some k) : ∃ (T : Nat) (C : Nat) (l : List Int), k = ⟨T, C, l⟩ ∧ a.c = C ∧ T ≤ 24 ∧ C ≤ 24 ∧ l.length = T * C ∧ isMat T C l = true := by
  have hk := basO_ok h
  obtain ⟨R, C, e1, e2, hR, hC, hl, _⟩ := isMat_ok hk
  unfold basO at h
  obtain ⟨x, _, h2⟩ := Option.map_eq_some_iff.1 h
  have e3 : k.c = a.c := by rw [← h2]
  obtain ⟨r, c, l⟩ := k
  simp only at e1 e2 e3 hl
  subst e1 e2
  exact ⟨R, C, l, rfl, e3.symm, hR, hC, hl, hk⟩
theorem kerO_shape {a k : MX} (h : kerO a = some k) : ∃ (T : Nat) (C : Nat) (l : List Int), k = ⟨T, C, l⟩ ∧ a.r = C ∧ T ≤ 24 ∧ C ≤ 24 ∧ l.length = T * C ∧ isMat T C l = true := by
  unfold kerO at h
  obtain ⟨x, _, h2⟩ := Option.bind_eq_some_iff.1 h
  exact basO_shape h2

section
set_option maxHeartbeats 2000000
theorem firstCols_c (R C N : Nat) (A : Option Addr) (l : List Int) (n cap : Nat) (w : World) (hn : l.length = n) (hlen : l.length = R * C) (hR : R ≤ 24) (hC : C ≤ 24) (hN : N ≤ C) (hcap : n ≤ cap) (hcap2 : cap ≤ 9223372036854775807) (ha : Rd w A l) :
    Calls Try.prog 73 #[.agg #[.int .i64 R, .int .i64 C, .slice A n cap], .int .i64 N] w (Mat1 ⟨R, N, fcL R C N l⟩ w) := by
  obtain ⟨w1, hw1, mg, mr, hs1, g01⟩ := one_mat w R C (.slice A n cap)
  have HW1 := Lib.hid hw1
  have HS1 := Lib.hid hs1
  have ha1 : Rd w1 A l := ha.grows g01
  have HN := Lib.hid hn
  have HLN := Lib.hid hlen
  have hRN : R * N ≤ 576 := Nat.mul_le_mul hR (Nat.le_trans hN hC)
  have hRC : R * C ≤ 576 := Nat.mul_le_mul hR hC
  have CN := Lib.hid fun W => newMatrix_c R N W (by omega)
  clear hw1 hs1 hn hlen
  obtain ⟨b0, b1, b2⟩ := mg.cells
  go_enter Try.func73, Try.ntmps73
  go_wp2_with fail
  rw [← HW1.out]
  refine (CN.out _).mono ?_; rintro e w3 ⟨g, rfl, ho3, g3⟩
  have hgl := ho3.lt
  have hs3 := Below.size g3
  have hsw := HS1.out
  clear b0 b1 b2
  go_wp2_with fail
  go_loopw [6] (fun i wx => ∃ (I : Nat) (m : List Int), i = .int .i64 I ∧ I ≤ R ∧ m.length = R * N ∧ Upto N (fun i j => nth l (i * C + j)) I 0 m ∧ Own wx w1.heap.size (.slice (some ⟨g, 0, none⟩) (R * N) (R * N)) m ∧ Grows w1 wx ∧ MBox wx w3.heap.size R N (.slice (some ⟨g, 0, none⟩) (R * N) (R * N))) (fun i _ => R - (intOf i).toNat)
  case atStart => exact ⟨0, _, rfl, Nat.zero_le _, by simp, Upto.zero _ _ _, ho3.alloc _, by exact bel1 g3, MBox.new_ _ _ _ _ _ rfl⟩
  case round =>
    clear ho3
    obtain ⟨I, m, rfl, hI, hm, hU, ho3, hg, m3⟩ := hrel
    have HM := Lib.hid hm
    have HU := Lib.hid hU
    clear hm hU
    by_cases hlt2 : I < R
    · have hlt' : (I : Int) < (R : Int) := by omega
      obtain ⟨x0, x1, x2⟩ := (mg.grows hg).ext
      obtain ⟨y0, y1, y2⟩ := m3.ext
      obtain ⟨u0, u1, u2⟩ := (mg.grows hg).cells
      obtain ⟨v0, v1, v2⟩ := m3.cells
      have hra := ha1.grows hg
      have hIN : (I + 1) * N ≤ R * N := Nat.mul_le_mul_right N hlt2
      have hIR : (I + 1) * C ≤ R * C := Nat.mul_le_mul_right C hlt2
      have hIN2 : I * N + N = (I + 1) * N := by rw [Nat.add_mul, Nat.one_mul]
      have hIR2 : I * C + C = (I + 1) * C := by rw [Nat.add_mul, Nat.one_mul]
      have CR := Lib.hid fun W => row_c R N (some ⟨g, 0, none⟩) m (R * N) (R * N) I I W rfl HM.out (Nat.le_refl _) (by omega) hIN (by omega) (by omega)
      have CS := Lib.hid fun W => row_c R C A l n cap I I W rfl HN.out hcap hcap2 (by have := HLN.out; have := HN.out; omega) (by omega) (by omega)
      have hcl : I * C + C ≤ cap := by have := HLN.out; have := HN.out; omega
      have z1 : (N : Int) ≤ ((cap - I * C : Nat) : Int) := by omega
      have rS := rowA_rd (cap := cap) (C := C) (I := I) hra (by rw [HLN.out]; exact hIR) (by rw [HN.out]; exact hcap)
      have rl : (rowL C l I).length = C := rowL_length (by rw [HLN.out]; exact hIR)
      have rS2 := rS.take_ N
      have dA : 0 < ((rowL C l I).take N).length → rowA (R * N) N (some ⟨g, 0, none⟩) I = some ⟨g, 0 + I * N, none⟩ := fun h => rowA_at (by omega) (by rw [List.length_take, rl] at h; omega)
      have tl : ((rowL C l I).take N).length = N := by rw [List.length_take, rl]; omega
      have DA := Lib.hid dA
      have TL := Lib.hid tl
      have hgs := ho3.lt
      have HX := Lib.hid (show ∀ j, j < N → nth ((rowL C l I).take N) j = nth l (I * C + j) from fun j hj => by rw [← rowL_nth (C := C) (by omega)]; unfold nth; simp only [List.getD_eq_getElem?_getD, List.getElem?_take, if_pos hj])
      have HIN := Lib.hid hIN2
      clear dA tl rl hIN2 hIR2
      generalize hRN : rowA (R * N) N (some ⟨g, 0, none⟩) I = dN at *
      generalize hRS : rowA cap C A I = dS at *
      have R1 := Lib.hid hRN
      have R2 := Lib.hid hRS
      clear hRN hRS
      go_wp2_with fail
      ((refine wp_region_tail 8 (by kernel_rfl) (by kernel_rfl) ?_; simp only [List.take_succ_cons, List.take_zero, List.drop_succ_cons, List.drop_zero]); (repeat (go_big_quiet_step ((first | (go_at_call 124; with_reducible exact extC (CR.out _)) | (go_at_call 124; with_reducible exact extC (CS.out _)))))); refine wpQuiet_nil ?_; rintro w4 ⟨w40, hw40⟩; have g4 := grows_of_ext hw40; clear hw40 w40)
      have ho4 := ho3.grows g4
      have r4 := rS2.grows g4
      refine wpList_copyI rfl (.tmp 19) (.tmp 24) rfl _ w1.heap.size g (R * N) (R * N) (0 + I * N) N (R * N - I * N) m ho4 HM.out dN (by rfl) dS ((rowL C l I).take N) N (cap - I * C) (by rfl) r4 TL.out.symm (by rw [TL.out]; exact Nat.le_refl _) (by rw [TL.out]; have := HIN.out; omega) DA.out ?_; intro w5 ho5 hg5
      have hLY := Lib.hid (show Upto N (fun i j => nth l (i * C + j)) (I + 1) 0 (lay m (0 + I * N) ((rowL C l I).take N)) from fun i j hij => by
        have hin := HIN.out
        have hiN : i * N + N = (i + 1) * N := by rw [Nat.add_mul, Nat.one_mul]
        by_cases e : i = I
        · subst e
          rw [show i * N + j = (0 + i * N) + j by omega, lay_nth_in (by rw [TL.out, HM.out]; omega) (by rw [TL.out]; omega)]
          exact HX.out j (by omega)
        · have hlt3 : (i + 1) * N ≤ I * N := Nat.mul_le_mul_right N (by omega)
          rw [lay_nth_out (by rw [TL.out, HM.out]; omega) (by left; omega)]
          exact HU.out i j (by omega))
      have hLL := Lib.hid (lay_length (l := m) (m := (rowL C l I).take N) (off := 0 + I * N) (by rw [TL.out, HM.out]; have := HIN.out; omega))
      go_wp2_with fail
      go_round
      case rel => exact ⟨I + 1, _, by go_num, by omega, by rw [hLL.out, HM.out], hLY.out, ho5, below_only (Grows.trans hg g4) hg5 (by omega) (by have := hg.size; have := g4.size; omega), (m3.grows g4).only hg5 (by omega)⟩
      case measure => simp [intOf]; omega
    · obtain rfl : I = R := by omega
      have hfin : m = fcL I C N l := Upto.all HU.out HM.out
      subst hfin
      have mr2 := mr.grows hg
      obtain ⟨u0, u1, u2⟩ := (mg.grows hg).cells
      obtain ⟨v0, v1, v2⟩ := m3.cells
      have vl := m3.lt
      obtain ⟨zr0, zr1, zr2⟩ := mr2.cells; have zrf := mr2.fz; have zrl := mr2.lt
      go_wp2_with fail
      refine bodyPost_ret (v := .agg #[.int .i64 I, .int .i64 N, .slice (some ⟨g, 0, none⟩) (I * N) (I * N)]) ?_ rfl ?_
      · simp [results, Try.results73, go_sem, zr0, zr1, zr2, zrf, zrl]
      · exact ⟨_, rfl, by exact ownl ho3, by exact bel2 hg g01⟩
end
end Go.Proofs.Ytpgoefdeodoacaa
