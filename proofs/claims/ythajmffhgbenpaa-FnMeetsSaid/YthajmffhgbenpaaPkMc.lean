/- Contracts and lemmas, put together. -/
import Derived.Test.YthajmffhgbenpaaPkDt
import Derived.Test.YthajmffhgbenpaaPkMb
import Derived.Test.YthajmffhgbenpaaPkT
/- What a draw of two matrices gives; a drawn lattice's shape. -/
namespace Go.Proofs.Ythajmffhgbenpaa
set_option linter.unusedSimpArgs false
set_option linter.unusedVariables false
open Go.RowKit

/-- two matrices drawn from a code -/
def DMat2 (m1 m2 : Nat) (w : World) (e : Ending) (w' : World) : Prop := ∃ (r c : Int) (V : Option Addr) (cv : Nat) (l : List Int) (r2 c2 : Int) (V2 : Option Addr) (cv2 : Nat) (l2 : List Int), e = .returned (.tuple #[.agg #[.int .i64 r, .int .i64 c, .slice V l.length cv], .agg #[.int .i64 r2, .int .i64 c2, .slice V2 l2.length cv2]]) ∧ l.length ≤ m1 ∧ l2.length ≤ m2 ∧ Own w' w.heap.size (.slice V l.length cv) l ∧ Own w' w.heap.size (.slice V2 l2.length cv2) l2 ∧ Grows w w'
/-- two variables for results -/
theorem two_res (w : World) : ∃ w1, w1 = (w.alloc (.cells #[.int .i64 0, .int .i64 0, .slice none 0 0] 26)).alloc (.cells #[.int .i64 0, .int .i64 0, .slice none 0 0] 26) ∧
    MBox w1 w.heap.size 0 0 (.slice none 0 0) ∧ MBox w1 (w.heap.size + 1) 0 0 (.slice none 0 0) ∧ w1.heap.size = w.heap.size + 2 ∧ Grows w w1 :=
  ⟨_, rfl, (MBox.mk_ _ _ _ _ _).alloc _, MBox.new_ _ _ _ _ _ (by simp), by simp, by exact bel0⟩
/-- a lattice's rows are not more than its columns -/
theorem Her.wide {R C : Nat} {a : Mt} {p : Nat → Nat} (h : Her R C a p) : R ≤ C := by
  have key : ∀ i, i < R → i ≤ p i := fun i => by
    induction i with
    | zero => exact fun _ => Nat.zero_le _
    | succ i ih => exact fun hi => by have := ih (by omega); have := h.up i (i + 1) (by omega) hi; omega
  rcases Nat.eq_zero_or_pos R with e | e
  · omega
  · have := key (R - 1) (by omega)
    have := h.lt (R - 1) (by omega)
    omega
theorem latB_nat {r c : Int} {l : List Int} (h : latB r c l = true) (hl : l.length ≤ 10) : ∃ R C : Nat, r = R ∧ c = C ∧ R ≤ 3 ∧ R ≤ C ∧ C ≤ 24 ∧ l.length = R * C ∧ isMat R C l = true := by
  obtain ⟨hm, _⟩ := latB_parts h
  obtain ⟨R, C, rfl, rfl, hR, hC, hlen, _⟩ := isMat_nat hm
  obtain ⟨_, H⟩ := latB_her h
  have hw := H.wide
  refine ⟨R, C, rfl, rfl, ?_, hw, by omega, hlen, hm⟩
  refine Classical.byContradiction fun hn => ?_
  have := Nat.mul_le_mul (show 4 ≤ R by omega) (show 4 ≤ C by omega)
  omega
end Go.Proofs.Ythajmffhgbenpaa

/- The draws: two lattices, how large they can be. -/
namespace Go.Proofs.Ythajmffhgbenpaa
set_option linter.unusedSimpArgs false
set_option linter.unusedVariables false
open Go.RowKit

theorem odd_okO {i : Nat} (h : i < ([0, 1, -1, 2, 400000000, -400000000, 400000001, -400000001, 399999999, 9223372036854775807, -9223372036854775808] : List Int).length) : okO (nth [0, 1, -1, 2, 400000000, -400000000, 400000001, -400000001, 399999999, 9223372036854775807, -9223372036854775808] i) := by
  simp only [List.length_cons, List.length_nil] at h
  unfold okO
  rcases i with _ | _ | _ | _ | _ | _ | _ | _ | _ | _ | _ | i <;> first | omega | (simp only [nth, List.getD_cons_zero, List.getD_cons_succ]; decide)
def DIntO (B b : Nat) (A : Option Addr) (n cap : Nat) (w : World) (e : Ending) (w' : World) : Prop := ∃ x : Int, e = .returned (.int .i64 x) ∧ okO x ∧ Cur w' B b A n cap ∧ w.grownBy w' (some b)
def DSpo (B b : Nat) (A : Option Addr) (n cap Bm m : Nat) (r c : Int) (l : List Int) (S : Nat → Prop) (w : World) (e : Ending) (w' : World) : Prop := ∃ (r' : Int) (V : Option Addr) (cv : Nat) (l' : List Int), e = .returned (.agg #[.int .i64 r', .int .i64 c, .slice V l'.length cv]) ∧ (-1 ≤ r' ∧ r' ≤ 8) ∧ l'.length ≤ m ∧ Spo r l r' l' ∧ Own w' Bm (.slice V l'.length cv) l' ∧ Cur w' B b A n cap ∧ Mv S w w'
def DLat (B b : Nat) (A : Option Addr) (n cap : Nat) (w : World) (e : Ending) (w' : World) : Prop := ∃ (r c : Int) (V : Option Addr) (cv : Nat) (l : List Int), e = .returned (.agg #[.int .i64 r, .int .i64 c, .slice V l.length cv]) ∧ (-1 ≤ r ∧ r ≤ 8) ∧ l.length ≤ 10 ∧ Gd ⟨r, c, l⟩ ∧ Own w' w.heap.size (.slice V l.length cv) l ∧ Cur w' B b A n cap ∧ w.grownBy w' (some b)
def DLat2 (w : World) (e : Ending) (w' : World) : Prop := ∃ (r c : Int) (V : Option Addr) (cv : Nat) (l : List Int) (r2 c2 : Int) (V2 : Option Addr) (cv2 : Nat) (l2 : List Int), e = .returned (.tuple #[.agg #[.int .i64 r, .int .i64 c, .slice V l.length cv], .agg #[.int .i64 r2, .int .i64 c2, .slice V2 l2.length cv2]]) ∧ l.length ≤ 10 ∧ l2.length ≤ 10 ∧ Gd ⟨r, c, l⟩ ∧ Gd ⟨r2, c2, l2⟩ ∧ Own w' w.heap.size (.slice V l.length cv) l ∧ Own w' w.heap.size (.slice V2 l2.length cv2) l2 ∧ Grows w w'
section
set_option maxHeartbeats 4000000
set_option maxRecDepth 10000
theorem l1OddO_c (B b : Nat) (A : Option Addr) (n cap : Nat) (w : World) (h : Cur w B b A n cap) :
    Calls Try.prog 123 #[.pointer (some ⟨b, 0, none⟩)] w (DIntO B b A n cap w) := by
  obtain ⟨w1, hw1⟩ : ∃ w1, w1 = w.alloc (.cells #[.int .i64 0, .int .i64 1, .int .i64 (-1), .int .i64 2, .int .i64 400000000, .int .i64 (-400000000), .int .i64 400000001, .int .i64 (-400000001), .int .i64 399999999, .int .i64 9223372036854775807, .int .i64 (-9223372036854775808)] 3) := ⟨_, rfl⟩
  have g1 : Grows w w1 := by rw [hw1]; exact bel0
  have hr : Rd w1 (some ⟨w.heap.size, 0, none⟩) [0, 1, -1, 2, 400000000, -400000000, 400000001, -400000001, 399999999, 9223372036854775807, -9223372036854775808] := by
    rw [hw1]
    intro i hi
    refine ⟨w.heap.size, 0, rfl, by simp, ?_⟩
    simp only [List.length_cons, List.length_nil] at hi
    rcases i with _ | _ | _ | _ | _ | _ | _ | _ | _ | _ | _ | i <;> first | omega | simp [go_sem, nth]
  have CP := Lib.hid ((l1PickInt_c B b A n cap (some ⟨w.heap.size, 0, none⟩) _ 11 11 w1 rfl (by omega) (by omega) hr (fun a e => by cases e; have := h.lt; simp; omega) (h.grows g1)))
  have HW1 := Lib.hid hw1
  clear hw1 hr
  go_enter Try.func123, Try.ntmps123
  go_wp2_with fail
  rw [← HW1.out]
  refine CP.out.mono ?_; rintro e w2 ⟨x, hx, rfl, c2, g2⟩
  have hT := odd_okO hx
  go_wp2_with fail
  go_ret
  exact ⟨_, rfl, hT, c2, only_left g1 g2⟩
theorem l3SpoO_c (B b : Nat) (A : Option Addr) (n cap Bm : Nat) (r c : Int) (V : Option Addr) (m cv : Nat) (l : List Int) (w : World) (h : Cur w B b A n cap) (ho : Own w Bm (.slice V m cv) l) (hm : l.length = m) (hB : B ≤ Bm) (hm2 : m ≤ 1000) (hne : ∀ g, (Value.slice V m cv).ownBlock = some g → g ≠ b) (hBw : Bm ≤ w.heap.size) (hrb : -1 ≤ r ∧ r ≤ 7) :
    Calls Try.prog 75 #[.pointer (some ⟨b, 0, none⟩), .agg #[.int .i64 r, .int .i64 c, .slice V m cv]] w (DSpo B b A n cap Bm (m + 1) r c l (fun g => g = b ∨ (Value.slice V m cv).ownBlock = some g) w) := by
  subst hm
  obtain ⟨w1, hw1⟩ : ∃ w1, w1 = (w.alloc (.cells #[.int .i64 r, .int .i64 c, .slice V l.length cv] 26)).alloc (.cells #[.int .i64 0, .int .i64 0, .slice none 0 0] 26) := ⟨_, rfl⟩
  have mb3 : MBox w1 w.heap.size r c (.slice V l.length cv) := by rw [hw1]; exact (MBox.mk_ _ _ _ _ _).alloc _
  have mb4 : MBox w1 (w.heap.size + 1) 0 0 (.slice none 0 0) := by rw [hw1]; exact MBox.new_ _ _ _ _ _ (by simp)
  have g01 : Grows w w1 := by rw [hw1]; exact bel0
  have hs1 : w1.heap.size = w.heap.size + 2 := by rw [hw1]; simp
  have hbl := h.lt
  have hlo := h.lo
  have h1 := h.grows g01
  have ho1 := ho.grows g01
  have hvl : ∀ g, (Value.slice V l.length cv).ownBlock = some g → Bm ≤ g ∧ g < w.heap.size := fun g e => World.ownsRow.lt ho g e
  have CB := Lib.hid (l1Below_c B b A n cap 40 w1 (by omega) h1)
  have HW1 := Lib.hid hw1
  have HS1 := Lib.hid hs1
  have HVL := Lib.hid hvl
  have HNE := Lib.hid hne
  clear hw1 hs1 hvl hne
  go_enter Try.func75, Try.ntmps75
  go_wp2_with fail
  rw [← HW1.out]
  refine CB.out.mono ?_; rintro e w2 ⟨x, rfl, hx, c2, g2⟩
  have hs2 := g2.size
  have hs1 := HS1.out
  have mb3' := mb3.by_ g2 (by omega)
  have mb4' := mb4.by_ g2 (by omega)
  have ho2 := ho1.by_ g2 HNE.out
  have mv2 : Mv (fun g => g = b ∨ (Value.slice V l.length cv).ownBlock = some g) w w2 := Mv.left g01 (Mv.by_ g2 (.inl rfl))
  clear mb3 mb4 ho1 h1 ho h hs1 hx
  obtain ⟨d0, d1, d2⟩ := mb3'.cells
  obtain ⟨e0, e1, e2⟩ := mb4'.cells
  have df := mb3'.fz
  have dl := mb3'.lt
  have ef := mb4'.fz
  have el := mb4'.lt
  by_cases x0 : x = 0
  · subst x0
    obtain ⟨w3, hw3⟩ : ∃ w3, w3 = w2.alloc (.cells #[.int .i64 (-1), .int .i64 0, .int .i64 7, .int .i64 (r + 1)] 3) := ⟨_, rfl⟩
    have g3 : Grows w2 w3 := by rw [hw3]; exact bel0
    have hr : Rd w3 (some ⟨w2.heap.size, 0, none⟩) [-1, 0, 7, r + 1] := by
      rw [hw3]
      intro i hi
      refine ⟨w2.heap.size, 0, rfl, by simp, ?_⟩
      simp only [List.length_cons, List.length_nil] at hi
      rcases i with _ | _ | _ | _ | i <;> first | omega | simp [go_sem, nth]
    have CP := Lib.hid (l1PickInt_c B b A n cap (some ⟨w2.heap.size, 0, none⟩) _ 4 4 w3 rfl (by omega) (by omega) hr (fun a e => by cases e; simp; omega) (c2.grows g3))
    have HW3 := Lib.hid hw3
    clear hw3 hr
    go_wp2_with fail
    rw [← HW3.out]
    refine CP.out.mono ?_; rintro e w4 ⟨yi, hyi, rfl, c4, g4⟩
    obtain ⟨y, hy⟩ : ∃ y, y = nth [-1, 0, 7, r + 1] yi := ⟨_, rfl⟩
    have hyb : -1 ≤ y ∧ y ≤ 8 := by
      rw [hy]
      simp only [List.length_cons, List.length_nil] at hyi
      rcases yi with _ | _ | _ | _ | yi <;> first | omega | (simp [nth]; omega) | simp [nth]
    rw [← hy]
    clear hy hyi
    have hs4 := g4.size
    have hs3 := Below.size g3
    have mb5 := (mb3'.grows g3).by_ g4 (by omega)
    have mb6 := (mb4'.grows g3).by_ g4 (by omega)
    have ho4 := (ho2.grows g3).by_ g4 HNE.out
    have mv4 : Mv (fun g => g = b ∨ (Value.slice V l.length cv).ownBlock = some g) w w4 := (mv2.right g3).trans (Mv.by_ g4 (.inl rfl))
    clear d0 d1 d2 df dl e0 e1 e2 ef el
    obtain ⟨d0, d1, d2⟩ := mb5.cells
    obtain ⟨e0, e1, e2⟩ := mb6.cells
    have df := mb5.fz
    have dl := mb5.lt
    have ef := mb6.fz
    have el := mb6.lt
    go_wp2_with fail
    refine bodyPost_ret (v := .agg #[.int .i64 y, .int .i64 c, .slice V l.length cv]) ?_ rfl ?_
    · simp [results, Try.results75, go_sem, d0, d1, d2, df, dl, e0, e1, e2, ef, el]
    · refine ⟨y, V, cv, l, rfl, hyb, by omega, .inl rfl, ?_, ?_, ?_⟩
      · ((repeat' (first | with_reducible exact ho4 | with_reducible refine Own.far ?_ ?_ _)); all_goals (intro g hg; have := HVL.out g hg; (try simp only); omega))
      · ((repeat' (first | with_reducible exact c4 | with_reducible refine Cur.put_ ?_ ?_ ?_ _)); all_goals ((try simp only); omega))
      · ((repeat' (first | with_reducible exact mv4 | with_reducible refine Mv.put ?_ (.inl ?_) _)); all_goals ((try simp only); omega))
  · have y0 : ((x : Int) == 0) = false := by rw [beq_eq_false_iff_ne]; omega
    by_cases x1 : x = 1
    · subst x1
      by_cases m0 : l.length = 0
      · have m0' : ¬ (0 : Int) < (l.length : Int) := by omega
        clear m0
        go_wp2_with fail
        refine bodyPost_ret (v := .agg #[.int .i64 r, .int .i64 c, .slice V l.length cv]) ?_ rfl ?_
        · simp [results, Try.results75, go_sem, d0, d1, d2, df, dl, e0, e1, e2, ef, el]
        · refine ⟨r, V, cv, l, rfl, by omega, by omega, .inl rfl, ?_, ?_, ?_⟩
          · ((repeat' (first | with_reducible exact ho2 | with_reducible refine Own.far ?_ ?_ _)); all_goals (intro g hg; have := HVL.out g hg; (try simp only); omega))
          · ((repeat' (first | with_reducible exact c2 | with_reducible refine Cur.put_ ?_ ?_ ?_ _)); all_goals ((try simp only); omega))
          · ((repeat' (first | with_reducible exact mv2 | with_reducible refine Mv.put ?_ (.inl ?_) _)); all_goals ((try simp only); omega))
      · obtain ⟨gv, cp, e, _⟩ := ho2.form (by omega)
        simp only [Value.slice.injEq, true_and] at e
        obtain ⟨rfl, rfl⟩ := e
        have hgv := HVL.out gv rfl
        have hgn := HNE.out gv rfl
        have m0' : (0 : Int) < (l.length : Int) := by omega
        have CO := Lib.hid fun W h => l1OddO_c B b A n cap W h
        clear d0 d1 d2 df dl e0 e1 e2 ef el m0
        have d2 := mb3'.c2
        go_wp2_with fail
        (refine wp_region_heldL (fun W => W.cell? ⟨w.heap.size, 2, none⟩ = some (.slice (some ⟨gv, 0, none⟩) l.length cv)) (by kernel_rfl) (by ((try dsimp only); (first | exact mb6.c2 | exact mb5.c2 | exact (mb3'.grows (by exact bel0)).c2))) (fun hHeld => ?_); refine heldL_take (i := 0) (v := _) (by rfl) (by kernel_rfl) (by kernel_rfl) (by kernel_rfl) (fun _ _ _ h => h) (Or.inl ⟨by rfl, fun wS hSw => by ((try dsimp only at hSw); go_simp; (try with_reducible rfl))⟩) (by assumption) ?_; simp only [Act.put, List.setIfInBounds_toArray, List.set_cons_zero, List.set_cons_succ]; refine heldL_take (i := 1) (v := _) (by rfl) (by kernel_rfl) (by kernel_rfl) (by kernel_rfl) (fun _ _ _ h => h) (Or.inl ⟨by rfl, fun wS hSw => by ((try dsimp only at hSw); go_simp; (try with_reducible rfl))⟩) (by assumption) ?_; simp only [Act.put, List.setIfInBounds_toArray, List.set_cons_zero, List.set_cons_succ]; refine heldL_take (i := 2) (v := _) (by rfl) (by kernel_rfl) (by kernel_rfl) (by kernel_rfl) (fun _ _ _ h => h) (Or.inl ⟨by rfl, fun wS hSw => by ((try dsimp only at hSw); go_simp; (try with_reducible rfl))⟩) (by assumption) ?_; simp only [Act.put, List.setIfInBounds_toArray, List.set_cons_zero, List.set_cons_succ]; refine heldL_step (i := 3) (by kernel_rfl) (by rfl) (fun K hK => ?_); go_simp; (refine (CO.out _ (c2.grows (by exact bel0))).mono ?_; rintro e w3 ⟨y, rfl, hT, c3, g3⟩; have HT := Lib.hid hT; clear hT; have mb5 := (mb3'.grows (w' := w2.drew) (by exact bel0)).by_ g3 (by omega); have ho3 := (ho2.grows (w' := w2.drew) (by exact bel0)).by_ g3 HNE.out; have hcl := ho3.cell 0 (by omega); have hfr := ho3.free 0; have mb6 := mb5.mv (Mv.put (S := fun g => g = gv) (Mv.refl _) (p := ⟨gv, 0, none⟩) (.inr rfl) (.int .i64 y)) (by omega)) ; (try (go_wp2_with fail)); refine hK.out _ _ (by ((try dsimp only); (first | exact mb6.c2 | exact mb5.c2 | exact (mb3'.grows (by exact bel0)).c2))) (fun hHeld => ?_); clear hK K; (try simp only [Act.put, List.setIfInBounds_toArray, List.set_cons_zero, List.set_cons_succ]); refine heldL_take (i := 4) (v := _) (by rfl) (by kernel_rfl) (by kernel_rfl) (by kernel_rfl) (fun _ _ _ h => h) (Or.inl ⟨by rfl, fun wS hSw => by ((try dsimp only at hSw); go_simp; (try with_reducible rfl))⟩) (by assumption) ?_; simp only [Act.put, List.setIfInBounds_toArray, List.set_cons_zero, List.set_cons_succ]; refine heldL_step (i := 5) (by kernel_rfl) (by rfl) (fun K hK => ?_); go_simp; refine hK.out _ _ (by ((try dsimp only); (first | exact mb6.c2 | exact mb5.c2 | exact (mb3'.grows (by exact bel0)).c2))) (fun hHeld => ?_); clear hK K; (try simp only [Act.put, List.setIfInBounds_toArray, List.set_cons_zero, List.set_cons_succ]); refine wpAnyH_done (by kernel_rfl) ?_ _; refine NoPanic.normal ?_)
        have hs3 := g3.size
        have ed : w2.drew.heap.size = w2.heap.size := rfl
        have ho4 := ho3.set 0 y
        have c4 : Cur (w3.setCell ⟨gv, 0, none⟩ (.int .i64 y)) B b A n cap := c3.put_ (by simp only; omega) (by simp only; omega) _
        have mv4 : Mv (fun g => g = b ∨ (Value.slice (some ⟨gv, 0, none⟩) l.length cv).ownBlock = some g) w (w3.setCell ⟨gv, 0, none⟩ (.int .i64 y)) := ((mv2.right (show Grows w2 w2.drew by exact bel0)).trans (Mv.by_ g3 (.inl rfl))).put (.inr (.inr rfl)) _
        have mb7 := ((mb4'.grows (w' := w2.drew) (by exact bel0)).by_ g3 (by omega)).mv (Mv.put (S := fun g => g = gv) (Mv.refl _) (p := ⟨gv, 0, none⟩) (.inr rfl) (.int .i64 y)) (by omega)
        obtain ⟨w4, hw4⟩ : ∃ w4, w4 = w3.setCell ⟨gv, 0, none⟩ (.int .i64 y) := ⟨_, rfl⟩
        rw [← hw4] at ho4 c4 mv4 mb6 mb7 ⊢
        have hs4 : w4.heap.size = w3.heap.size := by rw [hw4]; simp
        clear hw4
        obtain ⟨d0, d1, d2⟩ := mb6.cells
        obtain ⟨e0, e1, e2⟩ := mb7.cells
        have df := mb6.fz
        have dl := mb6.lt
        have ef := mb7.fz
        have el := mb7.lt
        go_wp2_with fail
        refine bodyPost_ret (v := .agg #[.int .i64 r, .int .i64 c, .slice (some ⟨gv, 0, none⟩) l.length cv]) ?_ rfl ?_
        · simp [results, Try.results75, go_sem, d0, d1, d2, df, dl, e0, e1, e2, ef, el]
        · refine ⟨r, _, cv, l.set 0 y, by rw [List.length_set], by omega, by rw [List.length_set]; omega, .inr ⟨rfl, .inl ⟨y, HT.out, rfl⟩⟩, ?_, ?_, ?_⟩
          · rw [List.length_set]; ((repeat' (first | with_reducible exact ho4 | with_reducible refine Own.far ?_ ?_ _)); all_goals (intro g hg; have := HVL.out g hg; (try simp only); omega))
          · ((repeat' (first | with_reducible exact c4 | with_reducible refine Cur.put_ ?_ ?_ ?_ _)); all_goals ((try simp only); omega))
          · ((repeat' (first | with_reducible exact mv4 | with_reducible refine Mv.put ?_ (.inl ?_) _)); all_goals ((try simp only); omega))
    · have y1 : ((x : Int) == 1) = false := by rw [beq_eq_false_iff_ne]; omega
      by_cases x2 : x = 2
      · subst x2
        go_wp2_with (at_builtin; refine wpList_app1 rfl (.tmp 30) (.tmp 31) rfl _ 1 Bm _ l (by rfl) ho2 (by rfl) (by omega) (by omega) ?_; intro v7 w7 ho7 hg7 hv7; have mv7 : Mv (fun g => (Value.slice V l.length cv).ownBlock = some g) w2 w7 := Mv.by1 hg7 (fun g e => e); have mb5 := mb3'.mv mv7 (fun e => by have := HVL.out _ e; omega); have mb6 := mb4'.mv mv7 (fun e => by have := HVL.out _ e; omega); have c7 := c2.mv mv7 (fun e => HNE.out _ e rfl) (fun g e => by have := HVL.out _ e; omega); obtain ⟨A7, cp7, rfl, _, _⟩ := ho7.val; clear d0 d1 d2 df dl e0 e1 e2 ef el; obtain ⟨d0, d1, d2⟩ := mb5.cells; obtain ⟨e0, e1, e2⟩ := mb6.cells; have df := mb5.fz; have dl := mb5.lt; have ef := mb6.fz; have el := mb6.lt)
        have hs7 := hg7.size
        have mv8 : Mv (fun g => g = b ∨ (Value.slice V l.length cv).ownBlock = some g) w w7 := mv2.trans (mv7.mono (fun g _ e => .inr e))
        have hv8 : ∀ g, (Value.slice A7 (l ++ [1]).length cp7).ownBlock = some g → Bm ≤ g ∧ g ≠ w.heap.size ∧ g ≠ w.heap.size + 1 := fun g hg => by
          rcases hv7 with h | ⟨g', h, h2⟩
          · rw [h] at hg; have := HVL.out g hg; omega
          · rw [h] at hg; cases hg; have := HS1.out; omega
        refine bodyPost_ret (v := .agg #[.int .i64 r, .int .i64 c, .slice A7 (l ++ [1]).length cp7]) ?_ rfl ?_
        · simp [results, Try.results75, go_sem, d0, d1, d2, df, dl, e0, e1, e2, ef, el]
        · refine ⟨r, A7, cp7, l ++ [1], rfl, by omega, by simp, .inr ⟨rfl, .inr rfl⟩, ?_, ?_, ?_⟩
          · ((repeat' (first | with_reducible exact ho7 | with_reducible refine Own.far ?_ ?_ _)); all_goals (intro g hg; have := hv8 g hg; (try simp only); omega))
          · ((repeat' (first | with_reducible exact c7 | with_reducible refine Cur.put_ ?_ ?_ ?_ _)); all_goals ((try simp only); omega))
          · ((repeat' (first | with_reducible exact mv8 | with_reducible refine Mv.put ?_ (.inl ?_) _)); all_goals ((try simp only); omega))
      · have y2 : ((x : Int) == 2) = false := by rw [beq_eq_false_iff_ne]; omega
        go_wp2_with fail
        refine bodyPost_ret (v := .agg #[.int .i64 r, .int .i64 c, .slice V l.length cv]) ?_ rfl ?_
        · simp [results, Try.results75, go_sem, d0, d1, d2, df, dl, e0, e1, e2, ef, el]
        · refine ⟨r, V, cv, l, rfl, by omega, by omega, .inl rfl, ?_, ?_, ?_⟩
          · ((repeat' (first | with_reducible exact ho2 | with_reducible refine Own.far ?_ ?_ _)); all_goals (intro g hg; have := HVL.out g hg; (try simp only); omega))
          · ((repeat' (first | with_reducible exact c2 | with_reducible refine Cur.put_ ?_ ?_ ?_ _)); all_goals ((try simp only); omega))
          · ((repeat' (first | with_reducible exact mv2 | with_reducible refine Mv.put ?_ (.inl ?_) _)); all_goals ((try simp only); omega))
theorem l16LatO_c (B b : Nat) (A : Option Addr) (n cap N : Nat) (w : World) (hN : N ≤ 3) (h : Cur w B b A n cap) :
    Calls Try.prog 52 #[.pointer (some ⟨b, 0, none⟩), .int .i64 N] w (DLat B b A n cap w) := by
  obtain ⟨w1, hw1⟩ : ∃ w1, w1 = w.alloc (.cells #[.int .i64 0, .int .i64 0, .slice none 0 0] 26) := ⟨_, rfl⟩
  have mbr : MBox w1 w.heap.size 0 0 (.slice none 0 0) := by rw [hw1]; exact MBox.mk_ _ _ _ _ _
  have g01 : Grows w w1 := by rw [hw1]; exact bel0
  have h_w1 : w1.heap.size = w.heap.size + 1 := by rw [hw1]; simp
  have hbl := h.lt
  have hlo := h.lo
  have hc := h.grows g01
  have hm : Mv (fun g => g = b) w w1 := (Mv.refl _).right g01
  have C3 := Lib.hid fun W h => l1Below_c B b A n cap 3 W (by omega) h
  have CD := Lib.hid fun R M W h1 h2 h => l3Draw_c B b A n cap R N M W h1 (by omega) h2 h
  have HW1 := Lib.hid hw1
  clear hw1 h
  go_enter Try.func52, Try.ntmps52
  go_wp2_with fail
  rw [← HW1.out]
  have mbr_0 := mbr.c0; have mbr_1 := mbr.c1; have mbr_2 := mbr.c2; have mbr_l := mbr.lt; have mbr_f := mbr.fz
  refine (C3.out _ (by exact hc.grows (by exact bel0))).mono ?_; rintro e w2 ⟨R0, rfl, hR, c_w2, g_w2⟩
  have m_w2 : Mv (fun g => g = b) w1 w2 := Mv.left (by exact bel0) (Mv.by_ (S := fun g => g = b) g_w2 rfl)
  have s_w2 := m_w2.size
  clear mbr_0 mbr_1 mbr_2 mbr_l mbr_f
  replace mbr := mbr.mv m_w2 (by omega)
  have mbr_0 := mbr.c0; have mbr_1 := mbr.c1; have mbr_2 := mbr.c2; have mbr_l := mbr.lt; have mbr_f := mbr.fz
  clear hc; have hc := c_w2; clear c_w2
  replace hm := hm.trans m_w2
  have h_w2 := hm.size
  clear m_w2 g_w2
  obtain ⟨R, hR0⟩ : ∃ R : Nat, R = 1 + R0 := ⟨_, rfl⟩
  have hRi : (1 : Int) + (R0 : Int) = (R : Int) := by omega
  have hR3 : R ≤ 3 := by omega
  have k1 : IntKind.i64.wrap ((1 : Int) + (R0 : Int)) = (R : Int) := by rw [IntWalk.i64_in _ (by omega)]; omega
  clear hR0 hRi
  go_wp2_with fail
  refine (CD.out R 4 _ (by omega) (by omega) (by exact hc.grows (by exact bel0))).mono ?_; rintro e w3 ⟨V3, cv3, l3, rfl, hl3, hb3, o3, c_w3, g_w3⟩
  have m_w3 : Mv (fun g => g = b) w2 w3 := Mv.left (by exact bel0) (Mv.by_ (S := fun g => g = b) g_w3 rfl)
  have s_w3 := m_w3.size
  clear mbr_0 mbr_1 mbr_2 mbr_l mbr_f
  replace mbr := mbr.mv m_w3 (by omega)
  have mbr_0 := mbr.c0; have mbr_1 := mbr.c1; have mbr_2 := mbr.c2; have mbr_l := mbr.lt; have mbr_f := mbr.fz
  clear hc; have hc := c_w3; clear c_w3
  replace hm := hm.trans m_w3
  have h_w3 := hm.size
  clear m_w3 g_w3
  have hRN : R * N ≤ 9 := Nat.mul_le_mul hR3 hN
  have CB := Lib.hid fun W h => (sBas_c R N V3 l3 (R * N) cv3 W hl3 h (by omega)).mono fun _ _ h => matRet_out h
  have HB := Lib.hid fun m (h : basO ⟨R, N, l3⟩ = some m) => bas_small h hR3 hN
  have HGD := Lib.hid fun r9 l9 (h : Spo (oM (basO ⟨R, N, l3⟩)).r (oM (basO ⟨R, N, l3⟩)).l r9 l9) => gd_draw hN (fun i hi => by have := hb3 i hi; omega) hl3 h
  generalize basO ⟨R, N, l3⟩ = BO at *
  have HBS : RowKit.Hid ((oM BO).l.length ≤ 9 ∧ -1 ≤ (oM BO).r ∧ (oM BO).r ≤ 7) := Lib.hid (by
    cases BO with
    | none => exact ⟨Nat.zero_le _, by show (-1 : Int) ≤ 0; omega, by show (0 : Int) ≤ 7; omega⟩
    | some m => exact HB.out m rfl)
  go_wp2_with fail
  refine (CB.out _ (by exact (o3.rd').grows (by exact bel0))).mono ?_; rintro e w4 ⟨v4, rfl, o4, g_w4⟩
  have m_w4 : Mv (fun g => g = b) w3 w4 := (Mv.refl _).right (by exact bel1 g_w4)
  have s_w4 := m_w4.size
  clear mbr_0 mbr_1 mbr_2 mbr_l mbr_f
  replace mbr := mbr.mv m_w4 (by omega)
  have mbr_0 := mbr.c0; have mbr_1 := mbr.c1; have mbr_2 := mbr.c2; have mbr_l := mbr.lt; have mbr_f := mbr.fz
  replace o3 := o3.mv m_w4 (fun g e => by have := World.ownsRow.lt o3 g e; omega)
  replace hc := hc.grows (w' := w4) (by exact bel1 g_w4)
  replace hm := hm.trans m_w4
  have h_w4 := hm.size
  clear m_w4 g_w4
  obtain ⟨A4, c4, rfl, _, _⟩ := o4.val
  obtain ⟨hb1, hb2, hb3⟩ := HBS.out
  have CS := Lib.hid fun W hc ho hne (hK : w3.heap.size ≤ W.heap.size) => l3SpoO_c B b A n cap w3.heap.size (oM BO).r (oM BO).c A4 (oM BO).l.length c4 (oM BO).l W hc ho rfl (by omega) (by omega) hne hK ⟨hb2, hb3⟩
  generalize oM BO = M at *
  clear HB HBS CB
  have o4' := o4.less (B' := w3.heap.size) (Nat.le_refl _)
  go_wp2_with fail
  have hx : ∀ g, (Value.slice A4 M.l.length c4).ownBlock = some g → g ≠ b := fun g e => by have := World.ownsRow.lt o4 g e; omega
  refine (CS.out _ (by exact hc.grows (by exact bel0)) (by exact o4.grows (by exact bel0)) hx (by simp; omega)).mono ?_; rintro e w5 ⟨r9, V9, cv9, l9, rfl, hr9, hl9, hsp, o9, c5, mv5⟩
  have HG9 := Lib.hid (HGD.out r9 l9 hsp)
  clear hsp
  have hvs := fun g e => World.ownsRow.lt o4 g e
  have mv45 : Mv (fun g => g = b ∨ (Value.slice A4 M.l.length c4).ownBlock = some g) w4 w5 := Mv.left (by exact bel0) mv5
  have s_w5 := mv45.size
  have mbz := mbr.mv mv45 (fun e => by rcases e with e | e; omega; have := hvs _ e; omega)
  have mvw : Mv (fun g => g = b) w w5 := hm.over mv45 (fun g e => by rcases e with e | e; exact .inr e; have := hvs _ e; exact .inl (by omega))
  clear mbr_0 mbr_1 mbr_2 mbr_f mbr_l
  have mbz_0 := mbz.c0; have mbz_1 := mbz.c1; have mbz_2 := mbz.c2; have mbz_l := mbz.lt; have mbz_f := mbz.fz
  go_wp2_with fail
  refine bodyPost_ret (v := .agg #[.int .i64 r9, .int .i64 M.c, .slice V9 l9.length cv9]) ?_ rfl ?_
  · simp [results, Try.results52, go_sem, mbz_0, mbz_1, mbz_2, mbz_f, mbz_l]
  · exact ⟨r9, M.c, V9, cv9, l9, rfl, hr9, by omega, HG9.out, by (have hv_ := fun g e => World.ownsRow.lt o9 g e; refine Own.less (B := ?OB12) ?_ ?_; ((repeat' (first | with_reducible exact o9 | with_reducible refine Own.alloc ?_ _ | with_reducible refine Own.drew ?_ | with_reducible refine Own.far ?_ ?_ _)); all_goals (first | omega | (simp; omega) | (intro g hg; have := hv_ g hg; (try simp only); first | omega | (simp; omega))))), by ((repeat' (first | with_reducible exact c5 | with_reducible refine Cur.put_ ?_ ?_ ?_ _)); all_goals ((try simp only); omega)), by (refine Mv.by2 (S := fun g => g = b) ?_ (fun g _ e => e); ((repeat' (first | with_reducible exact mvw | with_reducible refine Mv.put ?_ (.inl ?_) _)); all_goals ((try simp only); omega)))⟩
theorem l17Two_c (A : Option Addr) (n cap : Nat) (w : World) (hr : CodeR w w.heap.size A n) (hn : n ≤ 1048576) :
    Calls Try.prog 17 #[.slice A n cap] w (DLat2 w) := by
  obtain ⟨w1, hw1, mr1, mr2, h_w1, g01⟩ := two_res w
  have CN := Lib.hid (l1New_c w1.heap.size A n cap w1 (Nat.le_refl _) (hr.up g01) hn)
  have C3 := Lib.hid fun b W h => l1Below_c w1.heap.size b A n cap 3 W (by omega) h
  have CL := Lib.hid fun b N W h1 h => l16LatO_c w1.heap.size b A n cap N W h1 h
  have HW1 := Lib.hid hw1
  clear hw1 hr
  go_enter Try.func17, Try.ntmps17
  go_wp2_with fail
  rw [← HW1.out]
  refine CN.out.mono ?_; rintro e w2 ⟨b, rfl, hc, g2⟩
  have hbl := hc.lt
  have hlo := hc.lo
  have s_w2 := Below.size g2
  replace mr1 := mr1.grows g2
  replace mr2 := mr2.grows g2
  have G2 : Grows w w2 := by exact bel2 g2 g01
  have hm : Mv (fun g => g = b) w2 w2 := Mv.refl _
  clear g2 g01
  have mr1_0 := mr1.c0; have mr1_1 := mr1.c1; have mr1_2 := mr1.c2; have mr1_l := mr1.lt; have mr1_f := mr1.fz
  have mr2_0 := mr2.c0; have mr2_1 := mr2.c1; have mr2_2 := mr2.c2; have mr2_l := mr2.lt; have mr2_f := mr2.fz
  go_wp2_with fail
  refine (C3.out b _ hc).mono ?_; rintro e w3 ⟨N0, rfl, hN0, c_w3, g_w3⟩
  have m_w3 : Mv (fun g => g = b) w2 w3 := Mv.left (by exact bel0) (Mv.by_ (S := fun g => g = b) g_w3 rfl)
  have s_w3 := m_w3.size
  clear mr1_0 mr1_1 mr1_2 mr1_l mr1_f
  replace mr1 := mr1.mv m_w3 (by omega)
  have mr1_0 := mr1.c0; have mr1_1 := mr1.c1; have mr1_2 := mr1.c2; have mr1_l := mr1.lt; have mr1_f := mr1.fz
  clear mr2_0 mr2_1 mr2_2 mr2_l mr2_f
  replace mr2 := mr2.mv m_w3 (by omega)
  have mr2_0 := mr2.c0; have mr2_1 := mr2.c1; have mr2_2 := mr2.c2; have mr2_l := mr2.lt; have mr2_f := mr2.fz
  clear hc; have hc := c_w3; clear c_w3
  replace hm := hm.trans m_w3
  have h_w3 := hm.size
  clear m_w3 g_w3
  obtain ⟨N, hN⟩ : ∃ N : Nat, N = 1 + N0 := ⟨_, rfl⟩
  have hNi : (1 : Int) + (N0 : Int) = (N : Int) := by omega
  have hN3 : N ≤ 3 := by omega
  have k1 : IntKind.i64.wrap ((1 : Int) + (N0 : Int)) = (N : Int) := by rw [IntWalk.i64_in _ (by omega)]; omega
  clear hN hNi
  go_wp2_with fail
  refine (CL.out b N _ hN3 (by exact hc.grows (by exact bel0))).mono ?_; rintro e w4 ⟨r, c, V, cv, l, rfl, hrb, hl, hgd, o4, c_w4, g_w4⟩
  have m_w4 : Mv (fun g => g = b) w3 w4 := Mv.left (by exact bel0) (Mv.by_ (S := fun g => g = b) g_w4 rfl)
  have s_w4 := m_w4.size
  clear mr1_0 mr1_1 mr1_2 mr1_l mr1_f
  replace mr1 := mr1.mv m_w4 (by omega)
  have mr1_0 := mr1.c0; have mr1_1 := mr1.c1; have mr1_2 := mr1.c2; have mr1_l := mr1.lt; have mr1_f := mr1.fz
  clear mr2_0 mr2_1 mr2_2 mr2_l mr2_f
  replace mr2 := mr2.mv m_w4 (by omega)
  have mr2_0 := mr2.c0; have mr2_1 := mr2.c1; have mr2_2 := mr2.c2; have mr2_l := mr2.lt; have mr2_f := mr2.fz
  clear hc; have hc := c_w4; clear c_w4
  replace hm := hm.trans m_w4
  have h_w4 := hm.size
  clear m_w4 g_w4
  have HG4 := Lib.hid hgd
  clear hgd
  go_wp2_with fail
  refine (CL.out b N _ hN3 (by exact hc.grows (by exact bel0))).mono ?_; rintro e w5 ⟨r2, c2, V2, cv2, l2, rfl, hrb2, hl2, hgd2, o5, c_w5, g_w5⟩
  have m_w5 : Mv (fun g => g = b) w4 w5 := Mv.left (by exact bel0) (Mv.by_ (S := fun g => g = b) g_w5 rfl)
  have s_w5 := m_w5.size
  clear mr1_0 mr1_1 mr1_2 mr1_l mr1_f
  replace mr1 := mr1.mv m_w5 (by omega)
  have mr1_0 := mr1.c0; have mr1_1 := mr1.c1; have mr1_2 := mr1.c2; have mr1_l := mr1.lt; have mr1_f := mr1.fz
  clear mr2_0 mr2_1 mr2_2 mr2_l mr2_f
  replace mr2 := mr2.mv m_w5 (by omega)
  have mr2_0 := mr2.c0; have mr2_1 := mr2.c1; have mr2_2 := mr2.c2; have mr2_l := mr2.lt; have mr2_f := mr2.fz
  replace o4 := o4.mv m_w5 (fun g e => by have := World.ownsRow.lt o4 g e; omega)
  clear hc; have hc := c_w5; clear c_w5
  replace hm := hm.trans m_w5
  have h_w5 := hm.size
  clear m_w5 g_w5
  have HG5 := Lib.hid hgd2
  clear hgd2
  have G : Grows w w5 := Below.trans G2 (Mv.below hm (by omega) (fun g e => by omega))
  go_wp2_with fail
  refine bodyPost_ret (v := .tuple #[.agg #[.int .i64 r, .int .i64 c, .slice V l.length cv], .agg #[.int .i64 r2, .int .i64 c2, .slice V2 l2.length cv2]]) ?_ rfl ?_
  · simp [results, Try.results17, go_sem, mr1_0, mr1_1, mr1_2, mr1_l, mr1_f, mr2_0, mr2_1, mr2_2, mr2_l, mr2_f]
  · exact ⟨r, c, V, cv, l, r2, c2, V2, cv2, l2, rfl, hl, hl2, HG4.out, HG5.out, by (have hv_ := fun g e => World.ownsRow.lt o4 g e; refine Own.less (B := ?OB13) ?_ ?_; ((repeat' (first | with_reducible exact o4 | with_reducible refine Own.alloc ?_ _ | with_reducible refine Own.drew ?_ | with_reducible refine Own.far ?_ ?_ _)); all_goals (first | omega | (simp; omega) | (intro g hg; have := hv_ g hg; (try simp only); first | omega | (simp; omega))))), by (have hv_ := fun g e => World.ownsRow.lt o5 g e; refine Own.less (B := ?OB14) ?_ ?_; ((repeat' (first | with_reducible exact o5 | with_reducible refine Own.alloc ?_ _ | with_reducible refine Own.drew ?_ | with_reducible refine Own.far ?_ ?_ _)); all_goals (first | omega | (simp; omega) | (intro g hg; have := hv_ g hg; (try simp only); first | omega | (simp; omega))))), by exact bel1 G⟩
theorem drawMee_c (A : Option Addr) (n cap : Nat) (w : World) (hr : CodeR w w.heap.size A n) (hn : n ≤ 1048576) :
    Calls Try.prog 6 #[.slice A n cap] w (DLat2 w) := by
  obtain ⟨w1, hw1, mr1, mr2, h_w1, g01⟩ := two_res w
  have CD := Lib.hid (l17Two_c A n cap w1 (hr.up g01) hn)
  have HW1 := Lib.hid hw1
  clear hw1 hr
  go_enter Try.func6, Try.ntmps6
  go_wp2_with fail
  rw [← HW1.out]
  refine CD.out.mono ?_; rintro e w2 ⟨r, c, V, cv, l, r2, c2, V2, cv2, l2, rfl, hl, hl2, hgd, hgd2, o, o2, g⟩
  have HG4 := Lib.hid hgd
  have HG5 := Lib.hid hgd2
  clear hgd hgd2
  have ma := mr1.grows g
  have mb := mr2.grows g
  obtain ⟨m0, m1, m2⟩ := ma.cells
  have mf := ma.fz
  have ml := ma.lt
  obtain ⟨n0, n1, n2⟩ := mb.cells
  have nf := mb.fz
  have nl := mb.lt
  have h1 := fun g e => World.ownsRow.lt o g e
  have h2 := fun g e => World.ownsRow.lt o2 g e
  go_wp2_with fail
  refine bodyPost_ret (v := .tuple #[.agg #[.int .i64 r, .int .i64 c, .slice V l.length cv], .agg #[.int .i64 r2, .int .i64 c2, .slice V2 l2.length cv2]]) ?_ rfl ?_
  · simp [results, Try.results6, go_sem, m0, m1, m2, mf, ml, n0, n1, n2, nf, nl]
  · refine ⟨r, c, V, cv, l, r2, c2, V2, cv2, l2, rfl, hl, hl2, HG4.out, HG5.out, ?_, ?_, by exact bel2 g g01⟩
    · refine Own.less (B := w1.heap.size) ?_ (by omega)
      ((repeat' (first | with_reducible exact o | with_reducible refine Own.far ?_ ?_ _)); all_goals (intro g hg; have := h1 g hg; (try simp only); omega))
    · refine Own.less (B := w1.heap.size) ?_ (by omega)
      ((repeat' (first | with_reducible exact o2 | with_reducible refine Own.far ?_ ?_ _)); all_goals (intro g hg; have := h2 g hg; (try simp only); omega))
end
end Go.Proofs.Ythajmffhgbenpaa
