/- Contracts and lemmas, put together. -/
import Derived.Deep.RegionHeld3
import Derived.Test.YtfilbjbogggaoaaGreatPkGD
import Derived.Test.YtfilbjbogggaoaaGreatPkRAD
/- Contract: an operation on the columns of a matrix under work, the program's. -/
namespace Go.Proofs.YtfilbjbogggaoaaGreat
set_option linter.unusedSimpArgs false
set_option linter.unusedVariables false
open Go.RowKit

theorem tr_c (R C : Nat) (A : Option Addr) (l : List Int) (n cap : Nat) (w : World) (hn : n = R * C) (hl : l.length = n) (hR : R ≤ 24) (hC : C ≤ 24) (hnum : allNum l = true) (ha : Rd w A l) :
    Calls Tryz.prog 81 #[.agg #[.int .i64 R, .int .i64 C, .slice A n cap]] w fun e w' => ∃ A' c', e = .returned (.tuple #[.agg #[.int .i64 C, .int .i64 R, .slice A' (C * R) c'], .bool true]) ∧ Own w' w.heap.size (.slice A' (C * R) c') (trL R C l) ∧ Grows w w' := by
  have hRC : R * C ≤ 576 := Nat.mul_le_mul hR hC
  have hm : isMat R C l = true := by rw [isMat_made hR hC (hl.trans hn)]; exact hnum
  have e : trO ⟨R, C, l⟩ = some ⟨C, R, trL R C l⟩ := by
    unfold trO trM MX.ok
    simp only [hm, if_true, Int.toNat_natCast]
  refine (iTr_m R C A l n cap w hl ha (by omega)).mono ?_
  rintro e2 w' h
  obtain ⟨v, rfl, o, g⟩ := matRet_out h
  rw [e] at o ⊢
  have o' : Own w' w.heap.size v (trL R C l) := o
  obtain ⟨A', c', rfl, _, _⟩ := o'.val
  rw [trL_length] at o' ⊢
  exact ⟨A', c', rfl, o', g⟩
theorem WBox.putM {w : World} {b : Nat} {R C : Int} {A U V : Value} {bd : Bool} (h : WBox w b R C A U V bd) (A' : Value) : WBox (((w.setCell ⟨b, 0, none⟩ (.int .i64 R)).setCell ⟨b, 1, none⟩ (.int .i64 C)).setCell ⟨b, 2, none⟩ A') b R C A' U V bd := by
  obtain ⟨h0, h1, h2, h3, h4, h5, h6, h7, h8, h9⟩ := h.cells
  have hl := h.lt
  have hf := h.fz
  exact ⟨by simp; exact hl, by simp [go_sem, h0], by simp [go_sem, h1], by simp [go_sem, h2], by simp [go_sem, h3], by simp [go_sem, h4], by simp [go_sem, h5], by simp [go_sem, h6], by simp [go_sem, h7], by simp [go_sem, h8], by simp [go_sem, h9], fun o => by simp [go_sem, hf]⟩
theorem WBox.putV {w : World} {b : Nat} {R C : Int} {A U V : Value} {bd : Bool} (h : WBox w b R C A U V bd) (V' : Value) : WBox (((w.setCell ⟨b, 6, none⟩ (.int .i64 C)).setCell ⟨b, 7, none⟩ (.int .i64 C)).setCell ⟨b, 8, none⟩ V') b R C A U V' bd := by
  obtain ⟨h0, h1, h2, h3, h4, h5, h6, h7, h8, h9⟩ := h.cells
  have hl := h.lt
  have hf := h.fz
  exact ⟨by simp; exact hl, by simp [go_sem, h0], by simp [go_sem, h1], by simp [go_sem, h2], by simp [go_sem, h3], by simp [go_sem, h4], by simp [go_sem, h5], by simp [go_sem, h6], by simp [go_sem, h7], by simp [go_sem, h8], by simp [go_sem, h9], fun o => by simp [go_sem, hf]⟩
theorem Own.put3 {w : World} {B b o1 o2 o3 : Nat} {v : Value} {l : List Int} (h : Own w B v l) (hne : ∀ g, v.ownBlock = some g → g ≠ b) (x y z : Value) : Own (((w.setCell ⟨b, o1, none⟩ x).setCell ⟨b, o2, none⟩ y).setCell ⟨b, o3, none⟩ z) B v l :=
  ((h.far (p := ⟨b, o1, none⟩) hne x).far (p := ⟨b, o2, none⟩) hne y).far (p := ⟨b, o3, none⟩) hne z
theorem MBox.put3 {w : World} {b b' o1 o2 o3 : Nat} {r c : Int} {v : Value} (h : MBox w b r c v) (hne : b ≠ b') (x y z : Value) : MBox (((w.setCell ⟨b', o1, none⟩ x).setCell ⟨b', o2, none⟩ y).setCell ⟨b', o3, none⟩ z) b r c v :=
  ((h.far (p := ⟨b', o1, none⟩) (by simpa using hne) x).far (p := ⟨b', o2, none⟩) (by simpa using hne) y).far (p := ⟨b', o3, none⟩) (by simpa using hne) z
theorem col_keep {w W : World} {b x R C n m q : Nat} {A U V : Option Addr} {ca cu cv : Nat} {bd : Bool} {k i j t : Int} (h : WBox W b R C (.slice A n ca) (.slice U m cu) (.slice V q cv) bd) (o : OBox W x k i j t) (g : Grows W w) :
    w.cell? ⟨b, 1, none⟩ = some (.int .i64 C) ∧ w.cell? ⟨b, 9, none⟩ = some (.bool bd) ∧ w.cell? ⟨x, 0, none⟩ = some (.int .i64 k) ∧ w.cell? ⟨x, 1, none⟩ = some (.int .i64 i) ∧ w.cell? ⟨x, 2, none⟩ = some (.int .i64 j) ∧ w.cell? ⟨x, 3, none⟩ = some (.int .i64 t) :=
  ⟨(h.grows g).c1, (h.grows g).c9, (o.grows g).c0, (o.grows g).c1, (o.grows g).c2, (o.grows g).c3⟩
section
set_option maxHeartbeats 40000000
set_option maxRecDepth 100000
theorem cols_c (R C n m q B b : Nat) (A U V : Option Addr) (ca cu cv : Nat) (k i j t : Int) (a u v a1 v1 : List Int) (k1 k2 : Bool) (w : World) (wk : Wk w B b R C n m q A U V ca cu cv a u v false)
    (hn : n = R * C) (hq : q = C * C) (hR : R ≤ 24) (hC : C ≤ 24) (hal : a.length = n) (hvl : v.length = q) (hna : allNum a = true) (hnv : allNum v = true) (hl1 : a1.length = C * R) (hl2 : v1.length = C * C) (hn1 : k1 = true → allNum a1 = true) (hn2 : k2 = true → allNum v1 = true)
    (HI : ∀ W, Calls Tryz.prog 201 #[.agg #[.int .i64 k, .int .i64 i, .int .i64 j, .int .i64 t], .int .i64 C] W fun e w' => e = .returned (.bool true) ∧ Grows W w')
    (HA : ∀ W B' A' c', Own W B' (.slice A' (C * R) c') (trL R C a) → Calls Tryz.prog 202 #[.agg #[.int .i64 C, .int .i64 R, .slice A' (C * R) c'], .agg #[.int .i64 k, .int .i64 i, .int .i64 j, .int .i64 t]] W (OpRes W B' (.slice A' (C * R) c') k1 a1))
    (HV : ∀ W B' A' c', Own W B' (.slice A' (C * C) c') (trL C C v) → Calls Tryz.prog 202 #[.agg #[.int .i64 C, .int .i64 C, .slice A' (C * C) c'], .agg #[.int .i64 k, .int .i64 i, .int .i64 j, .int .i64 t]] W (OpRes W B' (.slice A' (C * C) c') k2 v1)) :
    Calls Tryz.prog 180 #[.pointer (some ⟨b, 0, none⟩), .agg #[.int .i64 k, .int .i64 i, .int .i64 j, .int .i64 t]] w fun e w' => e = .returned (.tuple #[]) ∧
      (∃ (A' V' : Option Addr) (ca' cv' : Nat) (a' v' : List Int), Wk w' B b R C n m q A' U V' ca' cu cv' a' u v' (!(k1 && k2)) ∧ ((k1 && k2) = true → a' = trL C R a1 ∧ v' = trL C C v1) ∧ (∀ x, x < w.heap.size → (Value.slice A n ca).ownBlock ≠ some x → (Value.slice V q cv).ownBlock ≠ some x → (Value.slice A' n ca').ownBlock ≠ some x ∧ (Value.slice V' q cv').ownBlock ≠ some x)) ∧ Below B w w' ∧ ∀ x, x < w.heap.size → x ≠ b → w'.heap[x]? = w.heap[x]? := by
  obtain ⟨w1, hw1⟩ : ∃ w1, w1 = w.alloc (.cells #[.int .i64 k, .int .i64 i, .int .i64 j, .int .i64 t] 99) := ⟨_, rfl⟩
  have g01 : Grows w w1 := by rw [hw1]; exact bel0
  have ob : OBox w1 w.heap.size k i j t := by rw [hw1]; exact OBox.new_ _ _ _ _ _ _ rfl
  have wk1 := wk.grows g01
  have hBs := wk.size
  have hs01 := Below.size g01
  have HW1 := Lib.hid hw1
  have HI' := Lib.hid HI
  have HA' := Lib.hid HA
  have HV' := Lib.hid HV
  have HN1 := Lib.hid hn1
  have HN2 := Lib.hid hn2
  have CT1 := Lib.hid fun W h => tr_c R C A a n ca W hn hal hR hC hna h
  have CT2 := Lib.hid fun W h => tr_c C C V v q cv W hq hvl hC hC hnv h
  have CT3 := Lib.hid fun A' c' W hk h => tr_c C R A' a1 (C * R) c' W rfl hl1 hC hR (hn1 hk) h
  have CT4 := Lib.hid fun A' c' W hk h => tr_c C C A' v1 (C * C) c' W rfl hl2 hC hC (hn2 hk) h
  have HNN := Lib.hid hn
  have HQQ := Lib.hid hq
  clear hw1 HI HA HV hn1 hn2 hn hq hal hvl hna hnv hl1 hl2
  go_enter Tryz.func180, Tryz.ntmps180
  go_wp2_with fail
  rw [← HW1.out]
  (refine wp_region_heldL (fun W => W.cell? ⟨b, 1, none⟩ = some (.int .i64 C) ∧ W.cell? ⟨b, 9, none⟩ = some (.bool false) ∧ W.cell? ⟨w.heap.size, 0, none⟩ = some (.int .i64 k) ∧ W.cell? ⟨w.heap.size, 1, none⟩ = some (.int .i64 i) ∧ W.cell? ⟨w.heap.size, 2, none⟩ = some (.int .i64 j) ∧ W.cell? ⟨w.heap.size, 3, none⟩ = some (.int .i64 t)) (by kernel_rfl) (by ((try dsimp only); (first | exact col_keep wk1.bx ob (by exact bel1 g2) | exact col_keep wk1.bx ob (by exact bel0)))) (fun hHeld => ?_); refine heldL_take (i := 0) (v := _) (by rfl) (by kernel_rfl) (by kernel_rfl) (by kernel_rfl) (fun _ _ _ h => h) (Or.inl ⟨by rfl, fun wS hSw => by ((try dsimp only at hSw); go_simp; (try with_reducible rfl))⟩) (by assumption) ?_; simp only [Act.put, List.setIfInBounds_toArray, List.set_cons_zero, List.set_cons_succ]; refine heldL_take (i := 1) (v := _) (by rfl) (by kernel_rfl) (by kernel_rfl) (by kernel_rfl) (fun _ _ _ h => h) (Or.inl ⟨by rfl, fun wS hSw => by ((try dsimp only at hSw); go_simp; (try with_reducible rfl))⟩) (by assumption) ?_; simp only [Act.put, List.setIfInBounds_toArray, List.set_cons_zero, List.set_cons_succ]; refine heldL_take (i := 2) (v := _) (by rfl) (by kernel_rfl) (by kernel_rfl) (by kernel_rfl) (fun _ _ _ h => h) (Or.inl ⟨by rfl, fun wS hSw => by ((try dsimp only at hSw); go_simp; (try with_reducible rfl))⟩) (by assumption) ?_; simp only [Act.put, List.setIfInBounds_toArray, List.set_cons_zero, List.set_cons_succ]; refine heldL_take (i := 3) (v := _) (by rfl) (by kernel_rfl) (by kernel_rfl) (by kernel_rfl) (fun _ _ _ h => h) (Or.inl ⟨by rfl, fun wS hSw => by ((try dsimp only at hSw); go_simp; (try with_reducible rfl))⟩) (by assumption) ?_; simp only [Act.put, List.setIfInBounds_toArray, List.set_cons_zero, List.set_cons_succ]; refine heldL_take (i := 4) (v := _) (by rfl) (by kernel_rfl) (by kernel_rfl) (by kernel_rfl) (fun _ _ _ h => h) (Or.inl ⟨by rfl, fun wS hSw => by ((try dsimp only at hSw); go_simp; (try with_reducible rfl))⟩) (by assumption) ?_; simp only [Act.put, List.setIfInBounds_toArray, List.set_cons_zero, List.set_cons_succ]; refine heldL_take (i := 5) (v := _) (by rfl) (by kernel_rfl) (by kernel_rfl) (by kernel_rfl) (fun _ _ _ h => h) (Or.inl ⟨by rfl, fun wS hSw => by ((try dsimp only at hSw); go_simp; (try with_reducible rfl))⟩) (by assumption) ?_; simp only [Act.put, List.setIfInBounds_toArray, List.set_cons_zero, List.set_cons_succ]; refine heldL_take (i := 6) (v := _) (by rfl) (by kernel_rfl) (by kernel_rfl) (by kernel_rfl) (fun _ _ _ h => h) (Or.inl ⟨by rfl, fun wS hSw => by ((try dsimp only at hSw); go_simp; (try with_reducible rfl))⟩) (by assumption) ?_; simp only [Act.put, List.setIfInBounds_toArray, List.set_cons_zero, List.set_cons_succ]; refine heldL_take (i := 7) (v := _) (by rfl) (by kernel_rfl) (by kernel_rfl) (by kernel_rfl) (fun _ _ _ h => h) (Or.inl ⟨by rfl, fun wS hSw => by ((try dsimp only at hSw); go_simp; (try with_reducible rfl))⟩) (by assumption) ?_; simp only [Act.put, List.setIfInBounds_toArray, List.set_cons_zero, List.set_cons_succ]; refine heldL_take (i := 8) (v := _) (by rfl) (by kernel_rfl) (by kernel_rfl) (by kernel_rfl) (fun _ _ _ h => h) (Or.inl ⟨by rfl, fun wS hSw => by ((try dsimp only at hSw); go_simp; (try with_reducible rfl))⟩) (by assumption) ?_; simp only [Act.put, List.setIfInBounds_toArray, List.set_cons_zero, List.set_cons_succ]; refine heldL_take (i := 9) (v := _) (by rfl) (by kernel_rfl) (by kernel_rfl) (by kernel_rfl) (fun _ _ _ h => h) (Or.inl ⟨by rfl, fun wS hSw => by ((try dsimp only at hSw); go_simp; (try with_reducible rfl))⟩) (by assumption) ?_; simp only [Act.put, List.setIfInBounds_toArray, List.set_cons_zero, List.set_cons_succ]; refine heldL_take (i := 10) (v := _) (by rfl) (by kernel_rfl) (by kernel_rfl) (by kernel_rfl) (fun _ _ _ h => h) (Or.inl ⟨by rfl, fun wS hSw => by ((try dsimp only at hSw); go_simp; (try with_reducible rfl))⟩) (by assumption) ?_; simp only [Act.put, List.setIfInBounds_toArray, List.set_cons_zero, List.set_cons_succ]; refine heldL_step (i := 11) (by kernel_rfl) (by rfl) (fun K hK => ?_); go_simp; (go_at_call 201; refine (HI'.out _).mono ?_; rintro e w2 ⟨rfl, g2⟩; have hs2 : w1.heap.size ≤ w2.heap.size := (by have := Below.size g2; simpa using this)) ; (try (go_wp2_with fail)); refine hK.out _ _ (by ((try dsimp only); (first | exact col_keep wk1.bx ob (by exact bel1 g2) | exact col_keep wk1.bx ob (by exact bel0)))) (fun hHeld => ?_); clear hK K; (try simp only [Act.put, List.setIfInBounds_toArray, List.set_cons_zero, List.set_cons_succ]); refine heldL_take (i := 12) (v := _) (by rfl) (by kernel_rfl) (by kernel_rfl) (by kernel_rfl) (fun _ _ _ h => h) (Or.inl ⟨by rfl, fun wS hSw => by ((try dsimp only at hSw); go_simp; (try with_reducible rfl))⟩) (by assumption) ?_; simp only [Act.put, List.setIfInBounds_toArray, List.set_cons_zero, List.set_cons_succ]; refine heldL_take (i := 13) (v := _) (by rfl) (by kernel_rfl) (by kernel_rfl) (by kernel_rfl) (fun _ _ _ h => h) (Or.inl ⟨by rfl, fun wS hSw => by ((try dsimp only at hSw); go_simp; (try with_reducible rfl))⟩) (by assumption) ?_; simp only [Act.put, List.setIfInBounds_toArray, List.set_cons_zero, List.set_cons_succ]; refine wpAnyH_done (by kernel_rfl) ?_ _; refine NoPanic.normal ?_)
  have g12 : Grows w1 w2 := by exact bel1 g2
  have wk2 := wk1.grows g12
  have ob2 := ob.grows g12
  obtain ⟨c0, c1, c2, c3, c4, c5, c6, c7, c8, c9⟩ := wk2.bx.cells
  have hbl := wk2.bx.lt
  go_wp2_with fail
  refine (CT1.out _ wk2.oa.rd').mono ?_; rintro e w3 ⟨A3, c3', rfl, o3, g3⟩
  have hs3 := Below.size g3
  clear c0 c1 c2 c3 c4 c5 c6 c7 c8 c9
  obtain ⟨c0, c1, c2, c3, c4, c5, c6, c7, c8, c9⟩ := (wk2.bx.grows g3).cells
  have hbl3 := (wk2.bx.grows g3).lt
  have hrv := wk2.ov.rd'
  go_wp2_with fail
  refine (CT2.out _ (by exact (Rd.grows hrv (by exact bel1 g3)))).mono ?_; rintro e w4 ⟨A4, c4', rfl, o4, g4⟩
  have hs4 := Below.size g4
  simp at hs4
  have m3 : MBox w4 w3.heap.size C R (.slice A3 (C * R) c3') := (MBox.mk_ w3 C R (.slice A3 (C * R) c3') 26).grows g4
  obtain ⟨w5, hw5⟩ : ∃ w5, w5 = w4.alloc (.cells #[.int .i64 C, .int .i64 C, .slice A4 (C * C) c4'] 26) := ⟨_, rfl⟩
  have m5 : MBox w5 w3.heap.size C R (.slice A3 (C * R) c3') := by rw [hw5]; exact m3.alloc _
  have m6 : MBox w5 w4.heap.size C C (.slice A4 (C * C) c4') := by rw [hw5]; exact MBox.mk_ _ _ _ _ _
  have g45 : Grows w4 w5 := by rw [hw5]; exact bel0
  have g35 : Grows w3 w5 := by rw [hw5]; exact bel1 g4
  have g25 : Grows w2 w5 := by exact bel2 g35 g3
  have hA3 : ∀ g, (Value.slice A3 (C * R) c3').ownBlock = some g → w2.heap.size ≤ g ∧ g < w3.heap.size := fun g h => World.ownsRow.lt o3 g h
  have hA4 : ∀ g, (Value.slice A4 (C * C) c4').ownBlock = some g → w3.heap.size + 1 ≤ g ∧ g < w4.heap.size := fun g h => by have := World.ownsRow.lt o4 g h; simpa using this
  have o35 : Own w5 w2.heap.size (.slice A3 (C * R) c3') (trL R C a) := o3.grows g35
  have o45 : Own w5 w2.heap.size (.slice A4 (C * C) c4') (trL C C v) := (o4.grows g45).less (by simp; omega)
  have hs5 : w5.heap.size = w4.heap.size + 1 := by rw [hw5]; simp
  have HW5 := Lib.hid hw5
  have HA3 := Lib.hid hA3
  have HA4 := Lib.hid hA4
  have ob5 := ob2.grows g25
  have ob4 := ob2.grows (w' := w4) (by exact bel2 g4 g3)
  obtain ⟨x0, x1, x2, x3⟩ := ob4.cells
  have xl := ob4.lt
  obtain ⟨y0, y1, y2⟩ := m3.cells
  have yl := m3.lt
  clear hw5 hA3 hA4 m3 o3 o4 c0 c1 c2 c3 c4 c5 c6 c7 c8 c9 CT1 CT2
  have kp2 : Grows w w2 := Below.trans g01 (Below.mono g12 (by omega))
  have hb2 : Below B w w2 := Below.trans (Below.mono g01 hBs) (Below.mono g12 (by omega))
  go_wp2_with fail
  rw [← HW5.out]
  refine (HA'.out _ _ _ _ o35).mono ?_; rintro e w6 hop
  obtain ⟨m6', rfl, o36, hm6, g6⟩ := opRes_out hop
  have G6 := Lib.hid g6
  have HM6 := Lib.hid hm6
  have g56 : Below w2.heap.size w5 w6 := below_app o35 (by omega) g6
  have g26 : Grows w2 w6 := Below.trans g25 g56
  have hs6 := g6.size
  have ob6 := ob2.grows g26
  clear hop hm6 x0 x1 x2 x3 y0 y1 y2 xl yl ob4
  cases k1
  · have wk6 := wk2.grows g26
    have c9 := wk6.bx.c9
    have cl := wk6.bx.lt
    have cf := wk6.bx.fz
    clear g6
    go_wp2_with fail
    ((try simp only [Exit.inBlock, Exit.then]); refine bodyPost_ret (results_none rfl _ _ _) rfl ?_)
    exact ⟨rfl, ⟨A, V, ca, cv, a, v, wk6.setBad true, (fun h => by cases h), fun x _ h1 h2 => ⟨h1, h2⟩⟩, (Below.trans hb2 (Below.mono g26 (by omega))).setCell wk6.lo _, fun x hx hxb => (Below.heap_setCell _ _ _ _ hxb).trans ((g26.block x (by omega)).trans (kp2.block x hx))⟩
  · have m66 := m6.own g6 (fun g h => by have := HA3.out g h; omega)
    have m56 := m5.own g6 (fun g h => by have := HA3.out g h; omega)
    have o46 : Own w6 w2.heap.size (.slice A4 (C * C) c4') (trL C C v) := o45.other g6 (fun g h1 h2 => by have := HA3.out g h1; have := HA4.out g h2; omega)
    have e6 : m6' = a1 := HM6.out rfl
    subst e6
    clear g6
    obtain ⟨x0, x1, x2, x3⟩ := ob6.cells
    obtain ⟨y0, y1, y2⟩ := m66.cells
    go_wp2_with fail
    refine (HV'.out _ _ _ _ o46).mono ?_; rintro e w7 hop
    obtain ⟨m7', rfl, o47, hm7, g7⟩ := opRes_out hop
    have HM7 := Lib.hid hm7
    have g67 : Below w2.heap.size w6 w7 := below_app o46 (by omega) g7
    have g27 : Grows w2 w7 := Below.trans g26 g67
    have hs7 := g7.size
    clear hop hm7 x0 x1 x2 x3 y0 y1 y2
    cases k2
    · have wk7 := wk2.grows g27
      have c9 := wk7.bx.c9
      have cl := wk7.bx.lt
      have cf := wk7.bx.fz
      clear g7
      go_wp2_with fail
      ((try simp only [Exit.inBlock, Exit.then]); refine bodyPost_ret (results_none rfl _ _ _) rfl ?_)
      exact ⟨rfl, ⟨A, V, ca, cv, a, v, wk7.setBad true, (fun h => by cases h), fun x _ h1 h2 => ⟨h1, h2⟩⟩, (Below.trans hb2 (Below.mono g27 (by omega))).setCell wk7.lo _, fun x hx hxb => (Below.heap_setCell _ _ _ _ hxb).trans ((g27.block x (by omega)).trans (kp2.block x hx))⟩
    · have m67 := m66.own g7 (fun g h => by have := HA4.out g h; omega)
      have m57 := m56.own g7 (fun g h => by have := HA4.out g h; omega)
      have o37 : Own w7 w2.heap.size (.slice A3 (C * R) c3') m6' := o36.other g7 (fun g h1 h2 => by have := HA4.out g h1; have := HA3.out g h2; omega)
      have e7 : m7' = v1 := HM7.out rfl
      subst e7
      clear g7
      obtain ⟨y0, y1, y2⟩ := m57.cells
      have wk7 := wk2.grows g27
      go_wp2_with fail
      refine (CT3.out _ _ _ (by first | rfl | trivial) o37.rd').mono ?_; rintro e w8 ⟨A8, c8', rfl, o8, g8⟩
      have hs8 := Below.size g8
      have wk8 := wk7.grows g8
      have cl := wk8.bx.lt
      have cf := wk8.bx.fz
      obtain ⟨d0, d1, d2, d3, d4, d5, d6, d7, d8, d9⟩ := wk8.bx.cells
      have m68 := m67.grows g8
      have o48 := o47.grows g8
      clear y0 y1 y2
      obtain ⟨w9, hw9⟩ : ∃ w9, w9 = ((w8.setCell ⟨b, 0, none⟩ (.int .i64 R)).setCell ⟨b, 1, none⟩ (.int .i64 C)).setCell ⟨b, 2, none⟩ (.slice A8 (R * C) c8') := ⟨_, rfl⟩
      have hb2s : b < w2.heap.size := hbl
      have bx9 : WBox w9 b R C (.slice A8 (R * C) c8') (.slice U m cu) (.slice V q cv) false := by rw [hw9]; exact wk8.bx.putM _
      have m69 : MBox w9 w4.heap.size C C (.slice A4 (C * C) c4') := by rw [hw9]; exact m68.put3 (by omega) _ _ _
      have o49 : Own w9 w2.heap.size (.slice A4 (C * C) c4') m7' := by rw [hw9]; exact o48.put3 (fun g h => by have := HA4.out g h; omega) _ _ _
      have h8 : ∀ g, (Value.slice A8 (R * C) c8').ownBlock = some g → w7.heap.size ≤ g ∧ g < w8.heap.size := fun g h => World.ownsRow.lt o8 g h
      have H8 := Lib.hid h8
      have o89 : Own w9 w7.heap.size (.slice A8 (R * C) c8') (trL C R m6') := by rw [hw9]; exact o8.put3 (fun g h => by have := H8.out g h; omega) _ _ _
      have ou9 : Own w9 B (.slice U m cu) u := by rw [hw9]; exact wk8.ou.put3 wk8.ub _ _ _
      have hs9 : w9.heap.size = w8.heap.size := by rw [hw9]; simp [World.setCell]
      have hb9 : Below B w w9 := by rw [hw9]; exact (((Below.trans (Below.trans hb2 (Below.mono g27 (by omega))) (Below.mono g8 (by omega))).setCell wk8.lo _).setCell wk8.lo _).setCell wk8.lo _
      have kp9 : ∀ x, x < w.heap.size → x ≠ b → w9.heap[x]? = w.heap[x]? := fun x hx hxb => by
        rw [hw9]
        exact (Below.heap_setCell _ _ _ _ hxb).trans ((Below.heap_setCell _ _ _ _ hxb).trans ((Below.heap_setCell _ _ _ _ hxb).trans ((g8.block x (by omega)).trans ((g27.block x (by omega)).trans (kp2.block x hx)))))
      have HW9 := Lib.hid hw9
      clear hw9 h8
      obtain ⟨y0, y1, y2⟩ := m69.cells
      have hgU : ∀ g, (Value.slice U m cu).ownBlock = some g → g < w2.heap.size := fun g h => (World.ownsRow.lt wk2.ou g h).2
      have HGU := Lib.hid hgU
      have HUB := Lib.hid wk2.ub
      have hlo := wk2.lo
      clear hgU
      go_upto_region 8 with fail
      rw [← HW9.out]
      clear d0 d1 d2 d3 d4 d5 d6 d7 d8 d9
      go_wp2_with fail
      refine (CT4.out _ _ _ (by first | rfl | trivial) o49.rd').mono ?_; rintro e w10 ⟨A10, c10', rfl, o10, g10⟩
      have hs10 := Below.size g10
      have bx10 := bx9.grows g10
      have cl := bx10.lt
      have cf := bx10.fz
      obtain ⟨d0, d1, d2, d3, d4, d5, d6, d7, d8, d9⟩ := bx10.cells
      have h10 : ∀ g, (Value.slice A10 (C * C) c10').ownBlock = some g → w9.heap.size ≤ g ∧ g < w10.heap.size := fun g h => World.ownsRow.lt o10 g h
      have H10 := Lib.hid h10
      clear h10 y0 y1 y2
      go_wp2_with fail
      go_end0
      have hn := HNN.out
      have hq := HQQ.out
      subst hn hq
      refine ⟨rfl, ⟨A8, A10, c8', c10', trL C R m6', trL C C m7', ⟨bx10.putV _, ((o89.grows g10).less (by omega)).put3 (fun g h => by have := H8.out g h; omega) _ _ _, (ou9.grows g10).put3 HUB.out _ _ _, (o10.less (by omega)).put3 (fun g h => by have := H10.out g h; omega) _ _ _, fun g h => by have := H8.out g h; omega, HUB.out, fun g h => by have := H10.out g h; omega, fun g h h2 => by have := H8.out g h; have := HGU.out g h2; omega, fun g h h2 => by have := H8.out g h; have := H10.out g h2; omega, fun g h h2 => by have := HGU.out g h; have := H10.out g h2; omega, hlo⟩, fun _ => ⟨rfl, rfl⟩, fun x hx _ _ => ⟨fun e => by have := H8.out x e; omega, fun e => by have := H10.out x e; omega⟩⟩, ?_, fun x hx hxb => (Below.heap_setCell _ _ _ _ hxb).trans ((Below.heap_setCell _ _ _ _ hxb).trans ((Below.heap_setCell _ _ _ _ hxb).trans ((g10.block x (by omega)).trans (kp9 x hx hxb))))⟩
      exact (((Below.trans hb9 (Below.mono g10 (by omega))).setCell hlo _).setCell hlo _).setCell hlo _
end
end Go.Proofs.YtfilbjbogggaoaaGreat

/- Contracts: an operation on the rows and the columns of a form under work, the program's. -/
namespace Go.Proofs.YtfilbjbogggaoaaGreat
set_option linter.unusedSimpArgs false
set_option linter.unusedVariables false
open Go.RowKit

/-- a form under work: what is done to the columns is that of the rows, turned; block x is none of these -/
def WkF (w : World) (B b R x : Nat) (s : LL) : Prop := ∃ (A U V : Option Addr) (ca cu cv : Nat), Wk w B b R R (R * R) (R * R) (R * R) A U V ca cu cv s.1 s.2 (trL R R s.2) false ∧ x ≠ b ∧ (Value.slice A (R * R) ca).ownBlock ≠ some x ∧ (Value.slice U (R * R) cu).ownBlock ≠ some x ∧ (Value.slice V (R * R) cv).ownBlock ≠ some x
def WkB (w : World) (B b R x : Nat) : Prop := ∃ (A U V : Option Addr) (ca cu cv : Nat) (a u v : List Int), Wk w B b R R (R * R) (R * R) (R * R) A U V ca cu cv a u v true
def WkFO (w : World) (B b R x : Nat) (o : Option LL) : Prop := (∀ s, o = some s → WkF w B b R x s) ∧ (o = none → WkB w B b R x)
theorem WkF.grows {w w' : World} {B b R x : Nat} {s : LL} (h : WkF w B b R x s) (g : Grows w w') : WkF w' B b R x s := by
  obtain ⟨A, U, V, ca, cu, cv, h, hn⟩ := h
  exact ⟨A, U, V, ca, cu, cv, h.grows g, hn⟩
theorem WkF.toO {w : World} {B b R x : Nat} {s : LL} (h : WkF w B b R x s) : WkFO w B b R x (some s) := ⟨fun y hy => by cases hy; exact h, (fun hy => by cases hy)⟩
theorem WkB.toO {w : World} {B b R x : Nat} (h : WkB w B b R x) : WkFO w B b R x none := ⟨(fun y hy => by cases hy), fun _ => h⟩
theorem OBox.of_block {w w' : World} {x : Nat} {k i j t : Int} (h : OBox w x k i j t) (hk : w'.heap[x]? = w.heap[x]?) (hs : x < w'.heap.size) : OBox w' x k i j t := ⟨hs, (World.cell?_of_block hk).trans h.c0, (World.cell?_of_block hk).trans h.c1, (World.cell?_of_block hk).trans h.c2, (World.cell?_of_block hk).trans h.c3⟩
theorem OBox.far9 {w : World} {b x : Nat} {k i j t : Int} (h : OBox w x k i j t) (hne : x ≠ b) {u : Value} : OBox (w.setCell ⟨b, 9, none⟩ u) x k i j t := by
  have hk := Below.heap_setCell w ⟨b, 9, none⟩ u x (by simpa using hne)
  exact ⟨by simp; exact h.lt, (World.cell?_of_block hk).trans h.c0, (World.cell?_of_block hk).trans h.c1, (World.cell?_of_block hk).trans h.c2, (World.cell?_of_block hk).trans h.c3⟩
section
set_option maxHeartbeats 40000000
set_option maxRecDepth 100000
theorem rows2_c (R C n m q B b : Nat) (A U V : Option Addr) (ca cu cv : Nat) (k i j t : Int) (a u v a1 u1 : List Int) (k1 k2 : Bool) (w : World) (wk : Wk w B b R C n m q A U V ca cu cv a u v false)
    (HI : ∀ W, Calls Tryz.prog 201 #[.agg #[.int .i64 k, .int .i64 i, .int .i64 j, .int .i64 t], .int .i64 R] W fun e w' => e = .returned (.bool true) ∧ Grows W w')
    (HA : ∀ W, Own W B (.slice A n ca) a → Calls Tryz.prog 202 #[.agg #[.int .i64 R, .int .i64 C, .slice A n ca], .agg #[.int .i64 k, .int .i64 i, .int .i64 j, .int .i64 t]] W (OpRes W B (.slice A n ca) k1 a1))
    (HU : ∀ W, Own W B (.slice U m cu) u → Calls Tryz.prog 202 #[.agg #[.int .i64 R, .int .i64 R, .slice U m cu], .agg #[.int .i64 k, .int .i64 i, .int .i64 j, .int .i64 t]] W (OpRes W B (.slice U m cu) k2 u1)) :
    Calls Tryz.prog 179 #[.pointer (some ⟨b, 0, none⟩), .agg #[.int .i64 k, .int .i64 i, .int .i64 j, .int .i64 t]] w fun e w' => e = .returned (.tuple #[]) ∧ WkO w' B b R C n m q A U V ca cu cv (if k1 && k2 then some (a1, u1) else none) v ∧ Below B w w' ∧ ∀ x, x < w.heap.size → x ≠ b → (Value.slice A n ca).ownBlock ≠ some x → (Value.slice U m cu).ownBlock ≠ some x → w'.heap[x]? = w.heap[x]? := by
  obtain ⟨w1, hw1⟩ : ∃ w1, w1 = w.alloc (.cells #[.int .i64 k, .int .i64 i, .int .i64 j, .int .i64 t] 99) := ⟨_, rfl⟩
  have g01 : Grows w w1 := by rw [hw1]; exact bel0
  have ob : OBox w1 w.heap.size k i j t := by rw [hw1]; exact OBox.new_ _ _ _ _ _ _ rfl
  have wk1 := wk.grows g01
  have hba : ∀ g, (Value.slice A n ca).ownBlock = some g → g ≠ w.heap.size := fun g h => Nat.ne_of_lt (World.ownsRow.lt wk.oa g h).2
  have hBs := wk.size
  have HW1 := Lib.hid hw1
  have HBA := Lib.hid hba
  have HBU := Lib.hid (show ∀ g, (Value.slice U m cu).ownBlock = some g → g ≠ w.heap.size from fun g h => Nat.ne_of_lt (World.ownsRow.lt wk.ou g h).2)
  have HI' := Lib.hid HI
  have HA' := Lib.hid HA
  have HU' := Lib.hid HU
  clear hw1 hba HI HA HU wk
  have hs01 := Below.size g01
  cases k1
  · go_enter Tryz.func179, Tryz.ntmps179
    go_wp2_with fail
    rw [← HW1.out]
    (refine wp_region_heldL (fun W => W.cell? ⟨b, 0, none⟩ = some (.int .i64 R) ∧ W.cell? ⟨b, 1, none⟩ = some (.int .i64 C) ∧ W.cell? ⟨b, 2, none⟩ = some (.slice A n ca) ∧ W.cell? ⟨b, 3, none⟩ = some (.int .i64 R) ∧ W.cell? ⟨b, 4, none⟩ = some (.int .i64 R) ∧ W.cell? ⟨b, 5, none⟩ = some (.slice U m cu) ∧ W.cell? ⟨b, 9, none⟩ = some (.bool false) ∧ W.cell? ⟨w.heap.size, 0, none⟩ = some (.int .i64 k) ∧ W.cell? ⟨w.heap.size, 1, none⟩ = some (.int .i64 i) ∧ W.cell? ⟨w.heap.size, 2, none⟩ = some (.int .i64 j) ∧ W.cell? ⟨w.heap.size, 3, none⟩ = some (.int .i64 t)) (by kernel_rfl) (by ((try dsimp only); (first | exact wk_keep wk4.bx ob4 (by exact bel0) | exact wk_keep wk3.bx ob3 (by exact bel0) | exact wk_keep wk1.bx ob (by exact bel1 g2) | exact wk_keep wk1.bx ob (by exact bel0)))) (fun hHeld => ?_); refine heldL_take (i := 0) (v := _) (by rfl) (by kernel_rfl) (by kernel_rfl) (by kernel_rfl) (fun _ _ _ h => h) (Or.inl ⟨by rfl, fun wS hSw => by ((try dsimp only at hSw); go_simp; (try with_reducible rfl))⟩) (by assumption) ?_; simp only [Act.put, List.setIfInBounds_toArray, List.set_cons_zero, List.set_cons_succ]; refine heldL_take (i := 1) (v := _) (by rfl) (by kernel_rfl) (by kernel_rfl) (by kernel_rfl) (fun _ _ _ h => h) (Or.inl ⟨by rfl, fun wS hSw => by ((try dsimp only at hSw); go_simp; (try with_reducible rfl))⟩) (by assumption) ?_; simp only [Act.put, List.setIfInBounds_toArray, List.set_cons_zero, List.set_cons_succ]; refine heldL_take (i := 2) (v := _) (by rfl) (by kernel_rfl) (by kernel_rfl) (by kernel_rfl) (fun _ _ _ h => h) (Or.inl ⟨by rfl, fun wS hSw => by ((try dsimp only at hSw); go_simp; (try with_reducible rfl))⟩) (by assumption) ?_; simp only [Act.put, List.setIfInBounds_toArray, List.set_cons_zero, List.set_cons_succ]; refine heldL_take (i := 3) (v := _) (by rfl) (by kernel_rfl) (by kernel_rfl) (by kernel_rfl) (fun _ _ _ h => h) (Or.inl ⟨by rfl, fun wS hSw => by ((try dsimp only at hSw); go_simp; (try with_reducible rfl))⟩) (by assumption) ?_; simp only [Act.put, List.setIfInBounds_toArray, List.set_cons_zero, List.set_cons_succ]; refine heldL_take (i := 4) (v := _) (by rfl) (by kernel_rfl) (by kernel_rfl) (by kernel_rfl) (fun _ _ _ h => h) (Or.inl ⟨by rfl, fun wS hSw => by ((try dsimp only at hSw); go_simp; (try with_reducible rfl))⟩) (by assumption) ?_; simp only [Act.put, List.setIfInBounds_toArray, List.set_cons_zero, List.set_cons_succ]; refine heldL_take (i := 5) (v := _) (by rfl) (by kernel_rfl) (by kernel_rfl) (by kernel_rfl) (fun _ _ _ h => h) (Or.inl ⟨by rfl, fun wS hSw => by ((try dsimp only at hSw); go_simp; (try with_reducible rfl))⟩) (by assumption) ?_; simp only [Act.put, List.setIfInBounds_toArray, List.set_cons_zero, List.set_cons_succ]; refine heldL_take (i := 6) (v := _) (by rfl) (by kernel_rfl) (by kernel_rfl) (by kernel_rfl) (fun _ _ _ h => h) (Or.inl ⟨by rfl, fun wS hSw => by ((try dsimp only at hSw); go_simp; (try with_reducible rfl))⟩) (by assumption) ?_; simp only [Act.put, List.setIfInBounds_toArray, List.set_cons_zero, List.set_cons_succ]; refine heldL_take (i := 7) (v := _) (by rfl) (by kernel_rfl) (by kernel_rfl) (by kernel_rfl) (fun _ _ _ h => h) (Or.inl ⟨by rfl, fun wS hSw => by ((try dsimp only at hSw); go_simp; (try with_reducible rfl))⟩) (by assumption) ?_; simp only [Act.put, List.setIfInBounds_toArray, List.set_cons_zero, List.set_cons_succ]; refine heldL_take (i := 8) (v := _) (by rfl) (by kernel_rfl) (by kernel_rfl) (by kernel_rfl) (fun _ _ _ h => h) (Or.inl ⟨by rfl, fun wS hSw => by ((try dsimp only at hSw); go_simp; (try with_reducible rfl))⟩) (by assumption) ?_; simp only [Act.put, List.setIfInBounds_toArray, List.set_cons_zero, List.set_cons_succ]; refine heldL_take (i := 9) (v := _) (by rfl) (by kernel_rfl) (by kernel_rfl) (by kernel_rfl) (fun _ _ _ h => h) (Or.inl ⟨by rfl, fun wS hSw => by ((try dsimp only at hSw); go_simp; (try with_reducible rfl))⟩) (by assumption) ?_; simp only [Act.put, List.setIfInBounds_toArray, List.set_cons_zero, List.set_cons_succ]; refine heldL_take (i := 10) (v := _) (by rfl) (by kernel_rfl) (by kernel_rfl) (by kernel_rfl) (fun _ _ _ h => h) (Or.inl ⟨by rfl, fun wS hSw => by ((try dsimp only at hSw); go_simp; (try with_reducible rfl))⟩) (by assumption) ?_; simp only [Act.put, List.setIfInBounds_toArray, List.set_cons_zero, List.set_cons_succ]; refine heldL_step (i := 11) (by kernel_rfl) (by rfl) (fun K hK => ?_); go_simp; (go_at_call 201; refine (HI'.out _).mono ?_; rintro e w2 ⟨rfl, g2⟩; have hs2 : w1.heap.size ≤ w2.heap.size := (by have := Below.size g2; simpa using this)) ; (try (go_wp2_with fail)); refine hK.out _ _ (by ((try dsimp only); (first | exact wk_keep wk4.bx ob4 (by exact bel0) | exact wk_keep wk3.bx ob3 (by exact bel0) | exact wk_keep wk1.bx ob (by exact bel1 g2) | exact wk_keep wk1.bx ob (by exact bel0)))) (fun hHeld => ?_); clear hK K; (try simp only [Act.put, List.setIfInBounds_toArray, List.set_cons_zero, List.set_cons_succ]); refine heldL_take (i := 12) (v := _) (by rfl) (by kernel_rfl) (by kernel_rfl) (by kernel_rfl) (fun _ _ _ h => h) (Or.inl ⟨by rfl, fun wS hSw => by ((try dsimp only at hSw); go_simp; (try with_reducible rfl))⟩) (by assumption) ?_; simp only [Act.put, List.setIfInBounds_toArray, List.set_cons_zero, List.set_cons_succ]; refine heldL_take (i := 13) (v := _) (by rfl) (by kernel_rfl) (by kernel_rfl) (by kernel_rfl) (fun _ _ _ h => h) (Or.inl ⟨by rfl, fun wS hSw => by ((try dsimp only at hSw); go_simp; (try with_reducible rfl))⟩) (by assumption) ?_; simp only [Act.put, List.setIfInBounds_toArray, List.set_cons_zero, List.set_cons_succ]; refine heldL_take (i := 14) (v := _) (by rfl) (by kernel_rfl) (by kernel_rfl) (by kernel_rfl) (fun _ _ _ h => h) (Or.inl ⟨by rfl, fun wS hSw => by ((try dsimp only at hSw); go_simp; (try with_reducible rfl))⟩) (by assumption) ?_; simp only [Act.put, List.setIfInBounds_toArray, List.set_cons_zero, List.set_cons_succ]; refine heldL_take (i := 15) (v := _) (by rfl) (by kernel_rfl) (by kernel_rfl) (by kernel_rfl) (fun _ _ _ h => h) (Or.inl ⟨by rfl, fun wS hSw => by ((try dsimp only at hSw); go_simp; (try with_reducible rfl))⟩) (by assumption) ?_; simp only [Act.put, List.setIfInBounds_toArray, List.set_cons_zero, List.set_cons_succ]; refine heldL_take (i := 16) (v := _) (by rfl) (by kernel_rfl) (by kernel_rfl) (by kernel_rfl) (fun _ _ _ h => h) (Or.inl ⟨by rfl, fun wS hSw => by ((try dsimp only at hSw); go_simp; (try with_reducible rfl))⟩) (by assumption) ?_; simp only [Act.put, List.setIfInBounds_toArray, List.set_cons_zero, List.set_cons_succ]; refine heldL_take (i := 17) (v := _) (by rfl) (by kernel_rfl) (by kernel_rfl) (by kernel_rfl) (fun _ _ _ h => h) (Or.inl ⟨by rfl, fun wS hSw => by ((try dsimp only at hSw); go_simp; (try with_reducible rfl))⟩) (by assumption) ?_; simp only [Act.put, List.setIfInBounds_toArray, List.set_cons_zero, List.set_cons_succ]; refine heldL_take (i := 18) (v := _) (by rfl) (by kernel_rfl) (by kernel_rfl) (by kernel_rfl) (fun _ _ _ h => h) (Or.inl ⟨by rfl, fun wS hSw => by ((try dsimp only at hSw); go_simp; (try with_reducible rfl))⟩) (by assumption) ?_; simp only [Act.put, List.setIfInBounds_toArray, List.set_cons_zero, List.set_cons_succ]; refine heldL_take (i := 19) (v := _) (by rfl) (by kernel_rfl) (by kernel_rfl) (by kernel_rfl) (fun _ _ _ h => h) (Or.inl ⟨by rfl, fun wS hSw => by ((try dsimp only at hSw); go_simp; (try with_reducible rfl))⟩) (by assumption) ?_; simp only [Act.put, List.setIfInBounds_toArray, List.set_cons_zero, List.set_cons_succ]; refine heldL_step (i := 20) (by kernel_rfl) (by rfl) (fun K hK => ?_); go_simp; (go_at_call 202; refine (HA'.out _ (wk1.grows (by exact bel1 g2)).oa).mono ?_; rintro e w3 hop; obtain ⟨m3, rfl, o3, hm3, g3⟩ := opRes_out hop; clear hop; have wk3 := (wk1.grows (w' := w2) (by exact bel1 g2)).setA o3 g3; have ob3 := (ob.grows (w' := w2) (by exact bel1 g2)).own g3 HBA.out; have hs3 := g3.size; have kp3 : ∀ x, x < w.heap.size → (Value.slice A n ca).ownBlock ≠ some x → w3.heap[x]? = w.heap[x]? := (fun x hx hne => (g3.block x (by omega) (fun e => hne e.symm)).trans (((show Grows w1 w2 by exact bel1 g2).block x (by omega)).trans (g01.block x hx))); have b3 : Below B w w3 := Below.trans (Below.trans (Below.mono g01 hBs) (Below.mono (show Grows w1 w2 by exact bel1 g2) (by omega))) (below_app (wk1.grows (w' := w2) (by exact bel1 g2)).oa (by omega) g3); have HM3 := Lib.hid hm3; clear hm3 g3) ; (try (go_wp2_with fail)); refine hK.out _ _ (by ((try dsimp only); (first | exact wk_keep wk4.bx ob4 (by exact bel0) | exact wk_keep wk3.bx ob3 (by exact bel0) | exact wk_keep wk1.bx ob (by exact bel1 g2) | exact wk_keep wk1.bx ob (by exact bel0)))) (fun hHeld => ?_); clear hK K; (try simp only [Act.put, List.setIfInBounds_toArray, List.set_cons_zero, List.set_cons_succ]); refine heldL_take (i := 21) (v := _) (by rfl) (by kernel_rfl) (by kernel_rfl) (by kernel_rfl) (fun _ _ _ h => h) (Or.inl ⟨by rfl, fun wS hSw => by ((try dsimp only at hSw); go_simp; (try with_reducible rfl))⟩) (by assumption) ?_; simp only [Act.put, List.setIfInBounds_toArray, List.set_cons_zero, List.set_cons_succ]; refine heldL_take (i := 22) (v := _) (by rfl) (by kernel_rfl) (by kernel_rfl) (by kernel_rfl) (fun _ _ _ h => h) (Or.inl ⟨by rfl, fun wS hSw => by ((try dsimp only at hSw); go_simp; (try with_reducible rfl))⟩) (by assumption) ?_; simp only [Act.put, List.setIfInBounds_toArray, List.set_cons_zero, List.set_cons_succ]; refine heldL_take (i := 23) (v := _) (by rfl) (by kernel_rfl) (by kernel_rfl) (by kernel_rfl) (fun _ _ _ h => h) (Or.inl ⟨by rfl, fun wS hSw => by ((try dsimp only at hSw); go_simp; (try with_reducible rfl))⟩) (by assumption) ?_; simp only [Act.put, List.setIfInBounds_toArray, List.set_cons_zero, List.set_cons_succ]; refine heldL_take (i := 24) (v := _) (by rfl) (by kernel_rfl) (by kernel_rfl) (by kernel_rfl) (fun _ _ _ h => h) (Or.inr ⟨by rfl, rfl⟩) (by assumption) ?_; simp only [Act.put, List.setIfInBounds_toArray, List.set_cons_zero, List.set_cons_succ]; refine heldL_take (i := 25) (v := _) (by rfl) (by kernel_rfl) (by kernel_rfl) (by kernel_rfl) (fun _ _ _ h => h) (Or.inr ⟨by rfl, rfl⟩) (by assumption) ?_; simp only [Act.put, List.setIfInBounds_toArray, List.set_cons_zero, List.set_cons_succ]; refine heldL_take (i := 26) (v := _) (by rfl) (by kernel_rfl) (by kernel_rfl) (by kernel_rfl) (fun _ _ _ h => h) (Or.inr ⟨by rfl, rfl⟩) (by assumption) ?_; simp only [Act.put, List.setIfInBounds_toArray, List.set_cons_zero, List.set_cons_succ]; refine heldL_take (i := 27) (v := _) (by rfl) (by kernel_rfl) (by kernel_rfl) (by kernel_rfl) (fun _ _ _ h => h) (Or.inr ⟨by rfl, rfl⟩) (by assumption) ?_; simp only [Act.put, List.setIfInBounds_toArray, List.set_cons_zero, List.set_cons_succ]; refine heldL_take (i := 28) (v := _) (by rfl) (by kernel_rfl) (by kernel_rfl) (by kernel_rfl) (fun _ _ _ h => h) (Or.inr ⟨by rfl, rfl⟩) (by assumption) ?_; simp only [Act.put, List.setIfInBounds_toArray, List.set_cons_zero, List.set_cons_succ]; refine heldL_take (i := 29) (v := _) (by rfl) (by kernel_rfl) (by kernel_rfl) (by kernel_rfl) (fun _ _ _ h => h) (Or.inr ⟨by rfl, rfl⟩) (by assumption) ?_; simp only [Act.put, List.setIfInBounds_toArray, List.set_cons_zero, List.set_cons_succ]; refine heldL_take (i := 30) (v := _) (by rfl) (by kernel_rfl) (by kernel_rfl) (by kernel_rfl) (fun _ _ _ h => h) (Or.inr ⟨by rfl, rfl⟩) (by assumption) ?_; simp only [Act.put, List.setIfInBounds_toArray, List.set_cons_zero, List.set_cons_succ]; refine heldL_take (i := 31) (v := _) (by rfl) (by kernel_rfl) (by kernel_rfl) (by kernel_rfl) (fun _ _ _ h => h) (Or.inl ⟨by rfl, fun wS hSw => by ((try dsimp only at hSw); go_simp; (try with_reducible rfl))⟩) (by assumption) ?_; simp only [Act.put, List.setIfInBounds_toArray, List.set_cons_zero, List.set_cons_succ]; refine wpAnyH_done (by kernel_rfl) ?_ _; refine NoPanic.normal ?_)
    have wl3 := wk3.bx.lt
    have wf3 := wk3.bx.fz
    have wc3 := wk3.bx.c9
    go_wp2_with fail
    go_end0
    exact ⟨rfl, ⟨_, _, wk3.setBad true, fun y hy => by cases hy⟩, b3.setCell wk3.lo _, fun x hx hb h1 _ => (Below.heap_setCell _ _ _ _ hb).trans (kp3 x hx h1)⟩
  · cases k2
    · go_enter Tryz.func179, Tryz.ntmps179
      go_wp2_with fail
      rw [← HW1.out]
      (refine wp_region_heldL (fun W => W.cell? ⟨b, 0, none⟩ = some (.int .i64 R) ∧ W.cell? ⟨b, 1, none⟩ = some (.int .i64 C) ∧ W.cell? ⟨b, 2, none⟩ = some (.slice A n ca) ∧ W.cell? ⟨b, 3, none⟩ = some (.int .i64 R) ∧ W.cell? ⟨b, 4, none⟩ = some (.int .i64 R) ∧ W.cell? ⟨b, 5, none⟩ = some (.slice U m cu) ∧ W.cell? ⟨b, 9, none⟩ = some (.bool false) ∧ W.cell? ⟨w.heap.size, 0, none⟩ = some (.int .i64 k) ∧ W.cell? ⟨w.heap.size, 1, none⟩ = some (.int .i64 i) ∧ W.cell? ⟨w.heap.size, 2, none⟩ = some (.int .i64 j) ∧ W.cell? ⟨w.heap.size, 3, none⟩ = some (.int .i64 t)) (by kernel_rfl) (by ((try dsimp only); (first | exact wk_keep wk4.bx ob4 (by exact bel0) | exact wk_keep wk3.bx ob3 (by exact bel0) | exact wk_keep wk1.bx ob (by exact bel1 g2) | exact wk_keep wk1.bx ob (by exact bel0)))) (fun hHeld => ?_); refine heldL_take (i := 0) (v := _) (by rfl) (by kernel_rfl) (by kernel_rfl) (by kernel_rfl) (fun _ _ _ h => h) (Or.inl ⟨by rfl, fun wS hSw => by ((try dsimp only at hSw); go_simp; (try with_reducible rfl))⟩) (by assumption) ?_; simp only [Act.put, List.setIfInBounds_toArray, List.set_cons_zero, List.set_cons_succ]; refine heldL_take (i := 1) (v := _) (by rfl) (by kernel_rfl) (by kernel_rfl) (by kernel_rfl) (fun _ _ _ h => h) (Or.inl ⟨by rfl, fun wS hSw => by ((try dsimp only at hSw); go_simp; (try with_reducible rfl))⟩) (by assumption) ?_; simp only [Act.put, List.setIfInBounds_toArray, List.set_cons_zero, List.set_cons_succ]; refine heldL_take (i := 2) (v := _) (by rfl) (by kernel_rfl) (by kernel_rfl) (by kernel_rfl) (fun _ _ _ h => h) (Or.inl ⟨by rfl, fun wS hSw => by ((try dsimp only at hSw); go_simp; (try with_reducible rfl))⟩) (by assumption) ?_; simp only [Act.put, List.setIfInBounds_toArray, List.set_cons_zero, List.set_cons_succ]; refine heldL_take (i := 3) (v := _) (by rfl) (by kernel_rfl) (by kernel_rfl) (by kernel_rfl) (fun _ _ _ h => h) (Or.inl ⟨by rfl, fun wS hSw => by ((try dsimp only at hSw); go_simp; (try with_reducible rfl))⟩) (by assumption) ?_; simp only [Act.put, List.setIfInBounds_toArray, List.set_cons_zero, List.set_cons_succ]; refine heldL_take (i := 4) (v := _) (by rfl) (by kernel_rfl) (by kernel_rfl) (by kernel_rfl) (fun _ _ _ h => h) (Or.inl ⟨by rfl, fun wS hSw => by ((try dsimp only at hSw); go_simp; (try with_reducible rfl))⟩) (by assumption) ?_; simp only [Act.put, List.setIfInBounds_toArray, List.set_cons_zero, List.set_cons_succ]; refine heldL_take (i := 5) (v := _) (by rfl) (by kernel_rfl) (by kernel_rfl) (by kernel_rfl) (fun _ _ _ h => h) (Or.inl ⟨by rfl, fun wS hSw => by ((try dsimp only at hSw); go_simp; (try with_reducible rfl))⟩) (by assumption) ?_; simp only [Act.put, List.setIfInBounds_toArray, List.set_cons_zero, List.set_cons_succ]; refine heldL_take (i := 6) (v := _) (by rfl) (by kernel_rfl) (by kernel_rfl) (by kernel_rfl) (fun _ _ _ h => h) (Or.inl ⟨by rfl, fun wS hSw => by ((try dsimp only at hSw); go_simp; (try with_reducible rfl))⟩) (by assumption) ?_; simp only [Act.put, List.setIfInBounds_toArray, List.set_cons_zero, List.set_cons_succ]; refine heldL_take (i := 7) (v := _) (by rfl) (by kernel_rfl) (by kernel_rfl) (by kernel_rfl) (fun _ _ _ h => h) (Or.inl ⟨by rfl, fun wS hSw => by ((try dsimp only at hSw); go_simp; (try with_reducible rfl))⟩) (by assumption) ?_; simp only [Act.put, List.setIfInBounds_toArray, List.set_cons_zero, List.set_cons_succ]; refine heldL_take (i := 8) (v := _) (by rfl) (by kernel_rfl) (by kernel_rfl) (by kernel_rfl) (fun _ _ _ h => h) (Or.inl ⟨by rfl, fun wS hSw => by ((try dsimp only at hSw); go_simp; (try with_reducible rfl))⟩) (by assumption) ?_; simp only [Act.put, List.setIfInBounds_toArray, List.set_cons_zero, List.set_cons_succ]; refine heldL_take (i := 9) (v := _) (by rfl) (by kernel_rfl) (by kernel_rfl) (by kernel_rfl) (fun _ _ _ h => h) (Or.inl ⟨by rfl, fun wS hSw => by ((try dsimp only at hSw); go_simp; (try with_reducible rfl))⟩) (by assumption) ?_; simp only [Act.put, List.setIfInBounds_toArray, List.set_cons_zero, List.set_cons_succ]; refine heldL_take (i := 10) (v := _) (by rfl) (by kernel_rfl) (by kernel_rfl) (by kernel_rfl) (fun _ _ _ h => h) (Or.inl ⟨by rfl, fun wS hSw => by ((try dsimp only at hSw); go_simp; (try with_reducible rfl))⟩) (by assumption) ?_; simp only [Act.put, List.setIfInBounds_toArray, List.set_cons_zero, List.set_cons_succ]; refine heldL_step (i := 11) (by kernel_rfl) (by rfl) (fun K hK => ?_); go_simp; (go_at_call 201; refine (HI'.out _).mono ?_; rintro e w2 ⟨rfl, g2⟩; have hs2 : w1.heap.size ≤ w2.heap.size := (by have := Below.size g2; simpa using this)) ; (try (go_wp2_with fail)); refine hK.out _ _ (by ((try dsimp only); (first | exact wk_keep wk4.bx ob4 (by exact bel0) | exact wk_keep wk3.bx ob3 (by exact bel0) | exact wk_keep wk1.bx ob (by exact bel1 g2) | exact wk_keep wk1.bx ob (by exact bel0)))) (fun hHeld => ?_); clear hK K; (try simp only [Act.put, List.setIfInBounds_toArray, List.set_cons_zero, List.set_cons_succ]); refine heldL_take (i := 12) (v := _) (by rfl) (by kernel_rfl) (by kernel_rfl) (by kernel_rfl) (fun _ _ _ h => h) (Or.inl ⟨by rfl, fun wS hSw => by ((try dsimp only at hSw); go_simp; (try with_reducible rfl))⟩) (by assumption) ?_; simp only [Act.put, List.setIfInBounds_toArray, List.set_cons_zero, List.set_cons_succ]; refine heldL_take (i := 13) (v := _) (by rfl) (by kernel_rfl) (by kernel_rfl) (by kernel_rfl) (fun _ _ _ h => h) (Or.inl ⟨by rfl, fun wS hSw => by ((try dsimp only at hSw); go_simp; (try with_reducible rfl))⟩) (by assumption) ?_; simp only [Act.put, List.setIfInBounds_toArray, List.set_cons_zero, List.set_cons_succ]; refine heldL_take (i := 14) (v := _) (by rfl) (by kernel_rfl) (by kernel_rfl) (by kernel_rfl) (fun _ _ _ h => h) (Or.inl ⟨by rfl, fun wS hSw => by ((try dsimp only at hSw); go_simp; (try with_reducible rfl))⟩) (by assumption) ?_; simp only [Act.put, List.setIfInBounds_toArray, List.set_cons_zero, List.set_cons_succ]; refine heldL_take (i := 15) (v := _) (by rfl) (by kernel_rfl) (by kernel_rfl) (by kernel_rfl) (fun _ _ _ h => h) (Or.inl ⟨by rfl, fun wS hSw => by ((try dsimp only at hSw); go_simp; (try with_reducible rfl))⟩) (by assumption) ?_; simp only [Act.put, List.setIfInBounds_toArray, List.set_cons_zero, List.set_cons_succ]; refine heldL_take (i := 16) (v := _) (by rfl) (by kernel_rfl) (by kernel_rfl) (by kernel_rfl) (fun _ _ _ h => h) (Or.inl ⟨by rfl, fun wS hSw => by ((try dsimp only at hSw); go_simp; (try with_reducible rfl))⟩) (by assumption) ?_; simp only [Act.put, List.setIfInBounds_toArray, List.set_cons_zero, List.set_cons_succ]; refine heldL_take (i := 17) (v := _) (by rfl) (by kernel_rfl) (by kernel_rfl) (by kernel_rfl) (fun _ _ _ h => h) (Or.inl ⟨by rfl, fun wS hSw => by ((try dsimp only at hSw); go_simp; (try with_reducible rfl))⟩) (by assumption) ?_; simp only [Act.put, List.setIfInBounds_toArray, List.set_cons_zero, List.set_cons_succ]; refine heldL_take (i := 18) (v := _) (by rfl) (by kernel_rfl) (by kernel_rfl) (by kernel_rfl) (fun _ _ _ h => h) (Or.inl ⟨by rfl, fun wS hSw => by ((try dsimp only at hSw); go_simp; (try with_reducible rfl))⟩) (by assumption) ?_; simp only [Act.put, List.setIfInBounds_toArray, List.set_cons_zero, List.set_cons_succ]; refine heldL_take (i := 19) (v := _) (by rfl) (by kernel_rfl) (by kernel_rfl) (by kernel_rfl) (fun _ _ _ h => h) (Or.inl ⟨by rfl, fun wS hSw => by ((try dsimp only at hSw); go_simp; (try with_reducible rfl))⟩) (by assumption) ?_; simp only [Act.put, List.setIfInBounds_toArray, List.set_cons_zero, List.set_cons_succ]; refine heldL_step (i := 20) (by kernel_rfl) (by rfl) (fun K hK => ?_); go_simp; (go_at_call 202; refine (HA'.out _ (wk1.grows (by exact bel1 g2)).oa).mono ?_; rintro e w3 hop; obtain ⟨m3, rfl, o3, hm3, g3⟩ := opRes_out hop; clear hop; have wk3 := (wk1.grows (w' := w2) (by exact bel1 g2)).setA o3 g3; have ob3 := (ob.grows (w' := w2) (by exact bel1 g2)).own g3 HBA.out; have hs3 := g3.size; have kp3 : ∀ x, x < w.heap.size → (Value.slice A n ca).ownBlock ≠ some x → w3.heap[x]? = w.heap[x]? := (fun x hx hne => (g3.block x (by omega) (fun e => hne e.symm)).trans (((show Grows w1 w2 by exact bel1 g2).block x (by omega)).trans (g01.block x hx))); have b3 : Below B w w3 := Below.trans (Below.trans (Below.mono g01 hBs) (Below.mono (show Grows w1 w2 by exact bel1 g2) (by omega))) (below_app (wk1.grows (w' := w2) (by exact bel1 g2)).oa (by omega) g3); have HM3 := Lib.hid hm3; clear hm3 g3) ; (try (go_wp2_with fail)); refine hK.out _ _ (by ((try dsimp only); (first | exact wk_keep wk4.bx ob4 (by exact bel0) | exact wk_keep wk3.bx ob3 (by exact bel0) | exact wk_keep wk1.bx ob (by exact bel1 g2) | exact wk_keep wk1.bx ob (by exact bel0)))) (fun hHeld => ?_); clear hK K; (try simp only [Act.put, List.setIfInBounds_toArray, List.set_cons_zero, List.set_cons_succ]); refine heldL_take (i := 21) (v := _) (by rfl) (by kernel_rfl) (by kernel_rfl) (by kernel_rfl) (fun _ _ _ h => h) (Or.inl ⟨by rfl, fun wS hSw => by ((try dsimp only at hSw); go_simp; (try with_reducible rfl))⟩) (by assumption) ?_; simp only [Act.put, List.setIfInBounds_toArray, List.set_cons_zero, List.set_cons_succ]; refine heldL_take (i := 22) (v := _) (by rfl) (by kernel_rfl) (by kernel_rfl) (by kernel_rfl) (fun _ _ _ h => h) (Or.inl ⟨by rfl, fun wS hSw => by ((try dsimp only at hSw); go_simp; (try with_reducible rfl))⟩) (by assumption) ?_; simp only [Act.put, List.setIfInBounds_toArray, List.set_cons_zero, List.set_cons_succ]; refine heldL_take (i := 23) (v := _) (by rfl) (by kernel_rfl) (by kernel_rfl) (by kernel_rfl) (fun _ _ _ h => h) (Or.inl ⟨by rfl, fun wS hSw => by ((try dsimp only at hSw); go_simp; (try with_reducible rfl))⟩) (by assumption) ?_; simp only [Act.put, List.setIfInBounds_toArray, List.set_cons_zero, List.set_cons_succ]; refine heldL_take (i := 24) (v := _) (by rfl) (by kernel_rfl) (by kernel_rfl) (by kernel_rfl) (fun _ _ _ h => h) (Or.inl ⟨by rfl, fun wS hSw => by ((try dsimp only at hSw); go_simp; (try with_reducible rfl))⟩) (by assumption) ?_; simp only [Act.put, List.setIfInBounds_toArray, List.set_cons_zero, List.set_cons_succ]; refine heldL_take (i := 25) (v := _) (by rfl) (by kernel_rfl) (by kernel_rfl) (by kernel_rfl) (fun _ _ _ h => h) (Or.inl ⟨by rfl, fun wS hSw => by ((try dsimp only at hSw); go_simp; (try with_reducible rfl))⟩) (by assumption) ?_; simp only [Act.put, List.setIfInBounds_toArray, List.set_cons_zero, List.set_cons_succ]; refine heldL_take (i := 26) (v := _) (by rfl) (by kernel_rfl) (by kernel_rfl) (by kernel_rfl) (fun _ _ _ h => h) (Or.inl ⟨by rfl, fun wS hSw => by ((try dsimp only at hSw); go_simp; (try with_reducible rfl))⟩) (by assumption) ?_; simp only [Act.put, List.setIfInBounds_toArray, List.set_cons_zero, List.set_cons_succ]; refine heldL_take (i := 27) (v := _) (by rfl) (by kernel_rfl) (by kernel_rfl) (by kernel_rfl) (fun _ _ _ h => h) (Or.inl ⟨by rfl, fun wS hSw => by ((try dsimp only at hSw); go_simp; (try with_reducible rfl))⟩) (by assumption) ?_; simp only [Act.put, List.setIfInBounds_toArray, List.set_cons_zero, List.set_cons_succ]; refine heldL_take (i := 28) (v := _) (by rfl) (by kernel_rfl) (by kernel_rfl) (by kernel_rfl) (fun _ _ _ h => h) (Or.inl ⟨by rfl, fun wS hSw => by ((try dsimp only at hSw); go_simp; (try with_reducible rfl))⟩) (by assumption) ?_; simp only [Act.put, List.setIfInBounds_toArray, List.set_cons_zero, List.set_cons_succ]; refine heldL_step (i := 29) (by kernel_rfl) (by rfl) (fun K hK => ?_); go_simp; (go_at_call 202; refine (HU'.out _ wk3.ou).mono ?_; rintro e w4 hop; obtain ⟨m4, rfl, o4, hm4, g4⟩ := opRes_out hop; clear hop; have wk4 := wk3.setU o4 g4; have ob4 := ob3.own g4 HBU.out; have hs4 := g4.size; have kp4 : ∀ x, x < w.heap.size → (Value.slice A n ca).ownBlock ≠ some x → (Value.slice U m cu).ownBlock ≠ some x → w4.heap[x]? = w.heap[x]? := (fun x hx h1 h2 => (g4.block x (by omega) (fun e => h2 e.symm)).trans (kp3 x hx h1)); have b4 : Below B w w4 := Below.trans b3 (below_app wk3.ou (by omega) g4); have HM4 := Lib.hid hm4; clear hm4 g4) ; (try (go_wp2_with fail)); refine hK.out _ _ (by ((try dsimp only); (first | exact wk_keep wk4.bx ob4 (by exact bel0) | exact wk_keep wk3.bx ob3 (by exact bel0) | exact wk_keep wk1.bx ob (by exact bel1 g2) | exact wk_keep wk1.bx ob (by exact bel0)))) (fun hHeld => ?_); clear hK K; (try simp only [Act.put, List.setIfInBounds_toArray, List.set_cons_zero, List.set_cons_succ]); refine heldL_take (i := 30) (v := _) (by rfl) (by kernel_rfl) (by kernel_rfl) (by kernel_rfl) (fun _ _ _ h => h) (Or.inl ⟨by rfl, fun wS hSw => by ((try dsimp only at hSw); go_simp; (try with_reducible rfl))⟩) (by assumption) ?_; simp only [Act.put, List.setIfInBounds_toArray, List.set_cons_zero, List.set_cons_succ]; refine heldL_take (i := 31) (v := _) (by rfl) (by kernel_rfl) (by kernel_rfl) (by kernel_rfl) (fun _ _ _ h => h) (Or.inl ⟨by rfl, fun wS hSw => by ((try dsimp only at hSw); go_simp; (try with_reducible rfl))⟩) (by assumption) ?_; simp only [Act.put, List.setIfInBounds_toArray, List.set_cons_zero, List.set_cons_succ]; refine wpAnyH_done (by kernel_rfl) ?_ _; refine NoPanic.normal ?_)
      have wl4 := wk4.bx.lt
      have wf4 := wk4.bx.fz
      have wc4 := wk4.bx.c9
      go_wp2_with fail
      go_end0
      exact ⟨rfl, ⟨_, _, wk4.setBad true, fun y hy => by cases hy⟩, b4.setCell wk4.lo _, fun x hx hb h1 h2 => (Below.heap_setCell _ _ _ _ hb).trans (kp4 x hx h1 h2)⟩
    · go_enter Tryz.func179, Tryz.ntmps179
      go_wp2_with fail
      rw [← HW1.out]
      (refine wp_region_heldL (fun W => W.cell? ⟨b, 0, none⟩ = some (.int .i64 R) ∧ W.cell? ⟨b, 1, none⟩ = some (.int .i64 C) ∧ W.cell? ⟨b, 2, none⟩ = some (.slice A n ca) ∧ W.cell? ⟨b, 3, none⟩ = some (.int .i64 R) ∧ W.cell? ⟨b, 4, none⟩ = some (.int .i64 R) ∧ W.cell? ⟨b, 5, none⟩ = some (.slice U m cu) ∧ W.cell? ⟨b, 9, none⟩ = some (.bool false) ∧ W.cell? ⟨w.heap.size, 0, none⟩ = some (.int .i64 k) ∧ W.cell? ⟨w.heap.size, 1, none⟩ = some (.int .i64 i) ∧ W.cell? ⟨w.heap.size, 2, none⟩ = some (.int .i64 j) ∧ W.cell? ⟨w.heap.size, 3, none⟩ = some (.int .i64 t)) (by kernel_rfl) (by ((try dsimp only); (first | exact wk_keep wk4.bx ob4 (by exact bel0) | exact wk_keep wk3.bx ob3 (by exact bel0) | exact wk_keep wk1.bx ob (by exact bel1 g2) | exact wk_keep wk1.bx ob (by exact bel0)))) (fun hHeld => ?_); refine heldL_take (i := 0) (v := _) (by rfl) (by kernel_rfl) (by kernel_rfl) (by kernel_rfl) (fun _ _ _ h => h) (Or.inl ⟨by rfl, fun wS hSw => by ((try dsimp only at hSw); go_simp; (try with_reducible rfl))⟩) (by assumption) ?_; simp only [Act.put, List.setIfInBounds_toArray, List.set_cons_zero, List.set_cons_succ]; refine heldL_take (i := 1) (v := _) (by rfl) (by kernel_rfl) (by kernel_rfl) (by kernel_rfl) (fun _ _ _ h => h) (Or.inl ⟨by rfl, fun wS hSw => by ((try dsimp only at hSw); go_simp; (try with_reducible rfl))⟩) (by assumption) ?_; simp only [Act.put, List.setIfInBounds_toArray, List.set_cons_zero, List.set_cons_succ]; refine heldL_take (i := 2) (v := _) (by rfl) (by kernel_rfl) (by kernel_rfl) (by kernel_rfl) (fun _ _ _ h => h) (Or.inl ⟨by rfl, fun wS hSw => by ((try dsimp only at hSw); go_simp; (try with_reducible rfl))⟩) (by assumption) ?_; simp only [Act.put, List.setIfInBounds_toArray, List.set_cons_zero, List.set_cons_succ]; refine heldL_take (i := 3) (v := _) (by rfl) (by kernel_rfl) (by kernel_rfl) (by kernel_rfl) (fun _ _ _ h => h) (Or.inl ⟨by rfl, fun wS hSw => by ((try dsimp only at hSw); go_simp; (try with_reducible rfl))⟩) (by assumption) ?_; simp only [Act.put, List.setIfInBounds_toArray, List.set_cons_zero, List.set_cons_succ]; refine heldL_take (i := 4) (v := _) (by rfl) (by kernel_rfl) (by kernel_rfl) (by kernel_rfl) (fun _ _ _ h => h) (Or.inl ⟨by rfl, fun wS hSw => by ((try dsimp only at hSw); go_simp; (try with_reducible rfl))⟩) (by assumption) ?_; simp only [Act.put, List.setIfInBounds_toArray, List.set_cons_zero, List.set_cons_succ]; refine heldL_take (i := 5) (v := _) (by rfl) (by kernel_rfl) (by kernel_rfl) (by kernel_rfl) (fun _ _ _ h => h) (Or.inl ⟨by rfl, fun wS hSw => by ((try dsimp only at hSw); go_simp; (try with_reducible rfl))⟩) (by assumption) ?_; simp only [Act.put, List.setIfInBounds_toArray, List.set_cons_zero, List.set_cons_succ]; refine heldL_take (i := 6) (v := _) (by rfl) (by kernel_rfl) (by kernel_rfl) (by kernel_rfl) (fun _ _ _ h => h) (Or.inl ⟨by rfl, fun wS hSw => by ((try dsimp only at hSw); go_simp; (try with_reducible rfl))⟩) (by assumption) ?_; simp only [Act.put, List.setIfInBounds_toArray, List.set_cons_zero, List.set_cons_succ]; refine heldL_take (i := 7) (v := _) (by rfl) (by kernel_rfl) (by kernel_rfl) (by kernel_rfl) (fun _ _ _ h => h) (Or.inl ⟨by rfl, fun wS hSw => by ((try dsimp only at hSw); go_simp; (try with_reducible rfl))⟩) (by assumption) ?_; simp only [Act.put, List.setIfInBounds_toArray, List.set_cons_zero, List.set_cons_succ]; refine heldL_take (i := 8) (v := _) (by rfl) (by kernel_rfl) (by kernel_rfl) (by kernel_rfl) (fun _ _ _ h => h) (Or.inl ⟨by rfl, fun wS hSw => by ((try dsimp only at hSw); go_simp; (try with_reducible rfl))⟩) (by assumption) ?_; simp only [Act.put, List.setIfInBounds_toArray, List.set_cons_zero, List.set_cons_succ]; refine heldL_take (i := 9) (v := _) (by rfl) (by kernel_rfl) (by kernel_rfl) (by kernel_rfl) (fun _ _ _ h => h) (Or.inl ⟨by rfl, fun wS hSw => by ((try dsimp only at hSw); go_simp; (try with_reducible rfl))⟩) (by assumption) ?_; simp only [Act.put, List.setIfInBounds_toArray, List.set_cons_zero, List.set_cons_succ]; refine heldL_take (i := 10) (v := _) (by rfl) (by kernel_rfl) (by kernel_rfl) (by kernel_rfl) (fun _ _ _ h => h) (Or.inl ⟨by rfl, fun wS hSw => by ((try dsimp only at hSw); go_simp; (try with_reducible rfl))⟩) (by assumption) ?_; simp only [Act.put, List.setIfInBounds_toArray, List.set_cons_zero, List.set_cons_succ]; refine heldL_step (i := 11) (by kernel_rfl) (by rfl) (fun K hK => ?_); go_simp; (go_at_call 201; refine (HI'.out _).mono ?_; rintro e w2 ⟨rfl, g2⟩; have hs2 : w1.heap.size ≤ w2.heap.size := (by have := Below.size g2; simpa using this)) ; (try (go_wp2_with fail)); refine hK.out _ _ (by ((try dsimp only); (first | exact wk_keep wk4.bx ob4 (by exact bel0) | exact wk_keep wk3.bx ob3 (by exact bel0) | exact wk_keep wk1.bx ob (by exact bel1 g2) | exact wk_keep wk1.bx ob (by exact bel0)))) (fun hHeld => ?_); clear hK K; (try simp only [Act.put, List.setIfInBounds_toArray, List.set_cons_zero, List.set_cons_succ]); refine heldL_take (i := 12) (v := _) (by rfl) (by kernel_rfl) (by kernel_rfl) (by kernel_rfl) (fun _ _ _ h => h) (Or.inl ⟨by rfl, fun wS hSw => by ((try dsimp only at hSw); go_simp; (try with_reducible rfl))⟩) (by assumption) ?_; simp only [Act.put, List.setIfInBounds_toArray, List.set_cons_zero, List.set_cons_succ]; refine heldL_take (i := 13) (v := _) (by rfl) (by kernel_rfl) (by kernel_rfl) (by kernel_rfl) (fun _ _ _ h => h) (Or.inl ⟨by rfl, fun wS hSw => by ((try dsimp only at hSw); go_simp; (try with_reducible rfl))⟩) (by assumption) ?_; simp only [Act.put, List.setIfInBounds_toArray, List.set_cons_zero, List.set_cons_succ]; refine heldL_take (i := 14) (v := _) (by rfl) (by kernel_rfl) (by kernel_rfl) (by kernel_rfl) (fun _ _ _ h => h) (Or.inl ⟨by rfl, fun wS hSw => by ((try dsimp only at hSw); go_simp; (try with_reducible rfl))⟩) (by assumption) ?_; simp only [Act.put, List.setIfInBounds_toArray, List.set_cons_zero, List.set_cons_succ]; refine heldL_take (i := 15) (v := _) (by rfl) (by kernel_rfl) (by kernel_rfl) (by kernel_rfl) (fun _ _ _ h => h) (Or.inl ⟨by rfl, fun wS hSw => by ((try dsimp only at hSw); go_simp; (try with_reducible rfl))⟩) (by assumption) ?_; simp only [Act.put, List.setIfInBounds_toArray, List.set_cons_zero, List.set_cons_succ]; refine heldL_take (i := 16) (v := _) (by rfl) (by kernel_rfl) (by kernel_rfl) (by kernel_rfl) (fun _ _ _ h => h) (Or.inl ⟨by rfl, fun wS hSw => by ((try dsimp only at hSw); go_simp; (try with_reducible rfl))⟩) (by assumption) ?_; simp only [Act.put, List.setIfInBounds_toArray, List.set_cons_zero, List.set_cons_succ]; refine heldL_take (i := 17) (v := _) (by rfl) (by kernel_rfl) (by kernel_rfl) (by kernel_rfl) (fun _ _ _ h => h) (Or.inl ⟨by rfl, fun wS hSw => by ((try dsimp only at hSw); go_simp; (try with_reducible rfl))⟩) (by assumption) ?_; simp only [Act.put, List.setIfInBounds_toArray, List.set_cons_zero, List.set_cons_succ]; refine heldL_take (i := 18) (v := _) (by rfl) (by kernel_rfl) (by kernel_rfl) (by kernel_rfl) (fun _ _ _ h => h) (Or.inl ⟨by rfl, fun wS hSw => by ((try dsimp only at hSw); go_simp; (try with_reducible rfl))⟩) (by assumption) ?_; simp only [Act.put, List.setIfInBounds_toArray, List.set_cons_zero, List.set_cons_succ]; refine heldL_take (i := 19) (v := _) (by rfl) (by kernel_rfl) (by kernel_rfl) (by kernel_rfl) (fun _ _ _ h => h) (Or.inl ⟨by rfl, fun wS hSw => by ((try dsimp only at hSw); go_simp; (try with_reducible rfl))⟩) (by assumption) ?_; simp only [Act.put, List.setIfInBounds_toArray, List.set_cons_zero, List.set_cons_succ]; refine heldL_step (i := 20) (by kernel_rfl) (by rfl) (fun K hK => ?_); go_simp; (go_at_call 202; refine (HA'.out _ (wk1.grows (by exact bel1 g2)).oa).mono ?_; rintro e w3 hop; obtain ⟨m3, rfl, o3, hm3, g3⟩ := opRes_out hop; clear hop; have wk3 := (wk1.grows (w' := w2) (by exact bel1 g2)).setA o3 g3; have ob3 := (ob.grows (w' := w2) (by exact bel1 g2)).own g3 HBA.out; have hs3 := g3.size; have kp3 : ∀ x, x < w.heap.size → (Value.slice A n ca).ownBlock ≠ some x → w3.heap[x]? = w.heap[x]? := (fun x hx hne => (g3.block x (by omega) (fun e => hne e.symm)).trans (((show Grows w1 w2 by exact bel1 g2).block x (by omega)).trans (g01.block x hx))); have b3 : Below B w w3 := Below.trans (Below.trans (Below.mono g01 hBs) (Below.mono (show Grows w1 w2 by exact bel1 g2) (by omega))) (below_app (wk1.grows (w' := w2) (by exact bel1 g2)).oa (by omega) g3); have HM3 := Lib.hid hm3; clear hm3 g3) ; (try (go_wp2_with fail)); refine hK.out _ _ (by ((try dsimp only); (first | exact wk_keep wk4.bx ob4 (by exact bel0) | exact wk_keep wk3.bx ob3 (by exact bel0) | exact wk_keep wk1.bx ob (by exact bel1 g2) | exact wk_keep wk1.bx ob (by exact bel0)))) (fun hHeld => ?_); clear hK K; (try simp only [Act.put, List.setIfInBounds_toArray, List.set_cons_zero, List.set_cons_succ]); refine heldL_take (i := 21) (v := _) (by rfl) (by kernel_rfl) (by kernel_rfl) (by kernel_rfl) (fun _ _ _ h => h) (Or.inl ⟨by rfl, fun wS hSw => by ((try dsimp only at hSw); go_simp; (try with_reducible rfl))⟩) (by assumption) ?_; simp only [Act.put, List.setIfInBounds_toArray, List.set_cons_zero, List.set_cons_succ]; refine heldL_take (i := 22) (v := _) (by rfl) (by kernel_rfl) (by kernel_rfl) (by kernel_rfl) (fun _ _ _ h => h) (Or.inl ⟨by rfl, fun wS hSw => by ((try dsimp only at hSw); go_simp; (try with_reducible rfl))⟩) (by assumption) ?_; simp only [Act.put, List.setIfInBounds_toArray, List.set_cons_zero, List.set_cons_succ]; refine heldL_take (i := 23) (v := _) (by rfl) (by kernel_rfl) (by kernel_rfl) (by kernel_rfl) (fun _ _ _ h => h) (Or.inl ⟨by rfl, fun wS hSw => by ((try dsimp only at hSw); go_simp; (try with_reducible rfl))⟩) (by assumption) ?_; simp only [Act.put, List.setIfInBounds_toArray, List.set_cons_zero, List.set_cons_succ]; refine heldL_take (i := 24) (v := _) (by rfl) (by kernel_rfl) (by kernel_rfl) (by kernel_rfl) (fun _ _ _ h => h) (Or.inl ⟨by rfl, fun wS hSw => by ((try dsimp only at hSw); go_simp; (try with_reducible rfl))⟩) (by assumption) ?_; simp only [Act.put, List.setIfInBounds_toArray, List.set_cons_zero, List.set_cons_succ]; refine heldL_take (i := 25) (v := _) (by rfl) (by kernel_rfl) (by kernel_rfl) (by kernel_rfl) (fun _ _ _ h => h) (Or.inl ⟨by rfl, fun wS hSw => by ((try dsimp only at hSw); go_simp; (try with_reducible rfl))⟩) (by assumption) ?_; simp only [Act.put, List.setIfInBounds_toArray, List.set_cons_zero, List.set_cons_succ]; refine heldL_take (i := 26) (v := _) (by rfl) (by kernel_rfl) (by kernel_rfl) (by kernel_rfl) (fun _ _ _ h => h) (Or.inl ⟨by rfl, fun wS hSw => by ((try dsimp only at hSw); go_simp; (try with_reducible rfl))⟩) (by assumption) ?_; simp only [Act.put, List.setIfInBounds_toArray, List.set_cons_zero, List.set_cons_succ]; refine heldL_take (i := 27) (v := _) (by rfl) (by kernel_rfl) (by kernel_rfl) (by kernel_rfl) (fun _ _ _ h => h) (Or.inl ⟨by rfl, fun wS hSw => by ((try dsimp only at hSw); go_simp; (try with_reducible rfl))⟩) (by assumption) ?_; simp only [Act.put, List.setIfInBounds_toArray, List.set_cons_zero, List.set_cons_succ]; refine heldL_take (i := 28) (v := _) (by rfl) (by kernel_rfl) (by kernel_rfl) (by kernel_rfl) (fun _ _ _ h => h) (Or.inl ⟨by rfl, fun wS hSw => by ((try dsimp only at hSw); go_simp; (try with_reducible rfl))⟩) (by assumption) ?_; simp only [Act.put, List.setIfInBounds_toArray, List.set_cons_zero, List.set_cons_succ]; refine heldL_step (i := 29) (by kernel_rfl) (by rfl) (fun K hK => ?_); go_simp; (go_at_call 202; refine (HU'.out _ wk3.ou).mono ?_; rintro e w4 hop; obtain ⟨m4, rfl, o4, hm4, g4⟩ := opRes_out hop; clear hop; have wk4 := wk3.setU o4 g4; have ob4 := ob3.own g4 HBU.out; have hs4 := g4.size; have kp4 : ∀ x, x < w.heap.size → (Value.slice A n ca).ownBlock ≠ some x → (Value.slice U m cu).ownBlock ≠ some x → w4.heap[x]? = w.heap[x]? := (fun x hx h1 h2 => (g4.block x (by omega) (fun e => h2 e.symm)).trans (kp3 x hx h1)); have b4 : Below B w w4 := Below.trans b3 (below_app wk3.ou (by omega) g4); have HM4 := Lib.hid hm4; clear hm4 g4) ; (try (go_wp2_with fail)); refine hK.out _ _ (by ((try dsimp only); (first | exact wk_keep wk4.bx ob4 (by exact bel0) | exact wk_keep wk3.bx ob3 (by exact bel0) | exact wk_keep wk1.bx ob (by exact bel1 g2) | exact wk_keep wk1.bx ob (by exact bel0)))) (fun hHeld => ?_); clear hK K; (try simp only [Act.put, List.setIfInBounds_toArray, List.set_cons_zero, List.set_cons_succ]); refine heldL_take (i := 30) (v := _) (by rfl) (by kernel_rfl) (by kernel_rfl) (by kernel_rfl) (fun _ _ _ h => h) (Or.inl ⟨by rfl, fun wS hSw => by ((try dsimp only at hSw); go_simp; (try with_reducible rfl))⟩) (by assumption) ?_; simp only [Act.put, List.setIfInBounds_toArray, List.set_cons_zero, List.set_cons_succ]; refine heldL_take (i := 31) (v := _) (by rfl) (by kernel_rfl) (by kernel_rfl) (by kernel_rfl) (fun _ _ _ h => h) (Or.inl ⟨by rfl, fun wS hSw => by ((try dsimp only at hSw); go_simp; (try with_reducible rfl))⟩) (by assumption) ?_; simp only [Act.put, List.setIfInBounds_toArray, List.set_cons_zero, List.set_cons_succ]; refine wpAnyH_done (by kernel_rfl) ?_ _; refine NoPanic.normal ?_)
      go_wp2_with fail
      go_end0
      refine ⟨rfl, ?_, b4, fun x hx _ h1 h2 => kp4 x hx h1 h2⟩
      rw [HM3.out (by trivial), HM4.out (by trivial)] at wk4
      exact wk4.toO (s := (a1, u1))
theorem bothI_c (R B b y0 : Nat) (k i j t : Int) (s x : LL) (y z : Option LL) (w : World) (hR : R ≤ 24) (wf : WkF w B b R y0 s) (hy0 : y0 < w.heap.size)
    (HR : ∀ W A U V ca cu cv, Wk W B b R R (R * R) (R * R) (R * R) A U V ca cu cv s.1 s.2 (trL R R s.2) false → Calls Tryz.prog 179 #[.pointer (some ⟨b, 0, none⟩), .agg #[.int .i64 k, .int .i64 i, .int .i64 j, .int .i64 t]] W fun e w' => e = .returned (.tuple #[]) ∧ WkO w' B b R R (R * R) (R * R) (R * R) A U V ca cu cv y (trL R R s.2) ∧ Below B W w' ∧ ∀ x, x < W.heap.size → x ≠ b → (Value.slice A (R * R) ca).ownBlock ≠ some x → (Value.slice U (R * R) cu).ownBlock ≠ some x → w'.heap[x]? = W.heap[x]?)
    (HC : ∀ W A U V ca cu cv, y = some x → Wk W B b R R (R * R) (R * R) (R * R) A U V ca cu cv x.1 x.2 (trL R R s.2) false → y0 ≠ b → (Value.slice A (R * R) ca).ownBlock ≠ some y0 → (Value.slice U (R * R) cu).ownBlock ≠ some y0 → (Value.slice V (R * R) cv).ownBlock ≠ some y0 → y0 < W.heap.size → Calls Tryz.prog 180 #[.pointer (some ⟨b, 0, none⟩), .agg #[.int .i64 k, .int .i64 i, .int .i64 j, .int .i64 t]] W fun e w' => e = .returned (.tuple #[]) ∧ WkFO w' B b R y0 z ∧ Below B W w' ∧ w'.heap[y0]? = W.heap[y0]?)
    (hy : ∀ s', y = some s' → s' = x) (hz : y = none → z = none) :
    Calls Tryz.prog 139 #[.pointer (some ⟨b, 0, none⟩), .agg #[.int .i64 k, .int .i64 i, .int .i64 j, .int .i64 t]] w fun e w' => e = .returned (.tuple #[]) ∧ WkFO w' B b R y0 z ∧ Below B w w' ∧ w'.heap[y0]? = w.heap[y0]? := by
  obtain ⟨A, U, V, ca, cu, cv, wk, hn1, hn2, hn3, hn4⟩ := wf
  obtain ⟨w1, hw1⟩ : ∃ w1, w1 = w.alloc (.cells #[.int .i64 k, .int .i64 i, .int .i64 j, .int .i64 t] 99) := ⟨_, rfl⟩
  have g01 : Grows w w1 := by rw [hw1]; exact bel0
  have ob : OBox w1 w.heap.size k i j t := by rw [hw1]; exact OBox.new_ _ _ _ _ _ _ rfl
  have hs1 : w1.heap.size = w.heap.size + 1 := by rw [hw1]; simp
  have wk1 := wk.grows g01
  have hBs := wk.size
  have hbw := wk.bx.lt
  have HW1 := Lib.hid hw1
  have HXA := Lib.hid (show (Value.slice A (R * R) ca).ownBlock ≠ some w.heap.size from fun h => Nat.ne_of_lt (World.ownsRow.lt wk.oa _ h).2 rfl)
  have HXU := Lib.hid (show (Value.slice U (R * R) cu).ownBlock ≠ some w.heap.size from fun h => Nat.ne_of_lt (World.ownsRow.lt wk.ou _ h).2 rfl)
  have HR' := Lib.hid HR
  have HC' := Lib.hid HC
  have HN2 := Lib.hid hn2
  have HN3 := Lib.hid hn3
  have HN4 := Lib.hid hn4
  clear hw1 HR HC hn2 hn3 hn4
  go_enter Tryz.func139, Tryz.ntmps139
  go_wp2_with fail
  rw [← HW1.out]
  refine (HR'.out _ _ _ _ _ _ _ wk1).mono ?_; rintro e w2 ⟨rfl, wo2, b2, kp2⟩
  have hs2 := Below.size b2
  have ob2 := ob.of_block (kp2 _ (by omega) (by omega) HXA.out HXU.out) (by omega)
  have hy2 : w2.heap[y0]? = w.heap[y0]? := (kp2 y0 (by omega) hn1 HN2.out HN3.out).trans (g01.block y0 hy0)
  have HY2 := Lib.hid hy2
  clear kp2 hy2
  cases y with
  | none =>
    obtain rfl : z = none := hz rfl
    obtain ⟨a, u, wk2⟩ := wo2.none
    have c9 := wk2.bx.c9
    have cl := wk2.bx.lt
    go_wp2_with fail
    go_end0
    exact ⟨rfl, (show WkB _ B b R y0 from ⟨A, U, V, ca, cu, cv, a, u, _, wk2⟩).toO, Below.trans (Below.mono g01 hBs) b2, HY2.out⟩
  | some s' =>
    obtain rfl := hy s' rfl
    have wk2 := wo2.some
    have c9 := wk2.bx.c9
    have cl := wk2.bx.lt
    obtain ⟨x0, x1, x2, x3⟩ := ob2.cells
    have xl := ob2.lt
    go_wp2_with fail
    refine (HC'.out _ _ _ _ _ _ _ (by first | rfl | trivial) wk2 hn1 HN2.out HN3.out HN4.out (by omega)).mono ?_; rintro e w3 ⟨rfl, wo3, b3, hy3⟩
    have HY3 := Lib.hid (hy3.trans HY2.out)
    clear hy3
    go_wp2_with fail
    go_end0
    exact ⟨rfl, wo3, Below.trans (Below.trans (Below.mono g01 hBs) b2) b3, HY3.out⟩
theorem bothAddI_c (R B b y0 i j : Nat) (t : Int) (s : LL) (w : World) (hy0 : y0 < w.heap.size) (hR : R ≤ 24) (ok : Ok2 R R s) (hi : i < R) (hj : j < R) (hij : i ≠ j) (ht : isNum t = true) (wf : WkF w B b R y0 s) :
    Calls Tryz.prog 139 #[.pointer (some ⟨b, 0, none⟩), .agg #[.int .i64 2, .int .i64 i, .int .i64 j, .int .i64 t]] w fun e w' => e = .returned (.tuple #[]) ∧ WkFO w' B b R y0 (bothA R i j t s) ∧ Below B w w' ∧ w'.heap[y0]? = w.heap[y0]? := by
  refine bothI_c R B b y0 2 i j t s (addT R R i j t s.1, addT R R i j t s.2) (addS R R i j t s) (bothA R i j t s) w hR wf hy0 (fun W A U V ca cu cv wk => ?_) (fun W A U V ca cu cv hy wk hb1 hb2 hb3 hb4 hyW => ?_) (fun s' h => (two_some h).1) (fun h => by unfold bothA; rw [h]; rfl)
  · exact rows2_c R R (R * R) (R * R) (R * R) B b A U V ca cu cv 2 i j t s.1 s.2 (trL R R s.2) (addT R R i j t s.1) (addT R R i j t s.2) (allNum (addT R R i j t s.1)) (allNum (addT R R i j t s.2)) W wk (fun W => isAdd_c R i j t W hR hi hj hij ht)
      (fun W o => iAddOp_c R R A s.1 (R * R) ca i j B t W rfl hR hR o ok.n1 hi hj ht) (fun W o => iAddOp_c R R U s.2 (R * R) cu i j B t W rfl hR hR o ok.n2 hi hj ht)
  · have okx := addS_ok hy
    have hb : bothA R i j t s = two (addCT R R i j t (addT R R i j t s.1)) (addT R R i j t s.2) := bothA_two ok
    have e1 : trL R R (addT R R i j t (trL R R (addT R R i j t s.1))) = addCT R R i j t (addT R R i j t s.1) := addCT_tr hi hj
    have e2 : trL R R (trL R R s.2) = s.2 := trL_trL ok.l2
    have e3 : allNum (addT R R i j t (trL R R (addT R R i j t s.1))) = allNum (addCT R R i j t (addT R R i j t s.1)) := by rw [← e1, trL_num' (addT_length _ _ _ _ _ _)]
    have e4 : allNum (addT R R i j t s.2) = true := okx.n2
    have := cols_c R R (R * R) (R * R) (R * R) B b A U V ca cu cv 2 i j t (addT R R i j t s.1) (addT R R i j t s.2) (trL R R s.2) (addT R R i j t (trL R R (addT R R i j t s.1))) (addT R R i j t s.2) (allNum (addT R R i j t (trL R R (addT R R i j t s.1)))) true W wk rfl rfl hR hR (addT_length _ _ _ _ _ _) (trL_length _ _ _) okx.n1 (trL_num ok.l2 ok.n2) (addT_length _ _ _ _ _ _) (addT_length _ _ _ _ _ _) (fun h => h) (fun _ => e4)
      (fun W => isAdd_c R i j t W hR hi hj hij ht)
      (fun W B' A' c' o => iAddOp_c R R A' _ (R * R) c' i j B' t W rfl hR hR o (trL_num (addT_length _ _ _ _ _ _) okx.n1) hi hj ht)
      (fun W B' A' c' o => by
        rw [e2] at o
        have := iAddOp_c R R A' s.2 (R * R) c' i j B' t W rfl hR hR o ok.n2 hi hj ht
        rwa [e4] at this)
    refine this.mono ?_
    rintro e w' ⟨rfl, ⟨A', V', ca', cv', a', v', wk', hav, hfr⟩, b3, kp⟩
    refine ⟨rfl, ?_, b3, kp y0 hyW hb1⟩
    obtain ⟨hf1, hf2⟩ := hfr y0 hyW hb2 hb4
    rw [hb]
    rw [Bool.and_true, e3] at wk' hav
    cases hn : allNum (addCT R R i j t (addT R R i j t s.1))
    · rw [none_two (.inl hn)]
      rw [hn] at wk'
      exact (show WkB _ B b R y0 from ⟨_, _, _, _, _, _, _, _, _, wk'⟩).toO
    · obtain ⟨rfl, rfl⟩ := hav hn
      rw [hn] at wk'
      have e5 : two (addCT R R i j t (addT R R i j t s.1)) (addT R R i j t s.2) = some (addCT R R i j t (addT R R i j t s.1), addT R R i j t s.2) := by unfold two; rw [hn, e4]; rfl
      rw [e5]
      rw [e1] at wk'
      exact (show WkF _ B b R y0 (addCT R R i j t (addT R R i j t s.1), addT R R i j t s.2) from ⟨_, _, _, _, _, _, wk', hb1, hf1, hb3, hf2⟩).toO
theorem bothSwpI_c (R B b y0 i j : Nat) (s : LL) (w : World) (hy0 : y0 < w.heap.size) (hR : R ≤ 24) (ok : Ok2 R R s) (hi : i < R) (hj : j < R) (hij : i ≠ j) (wf : WkF w B b R y0 s) :
    Calls Tryz.prog 139 #[.pointer (some ⟨b, 0, none⟩), .agg #[.int .i64 0, .int .i64 i, .int .i64 j, .int .i64 0]] w fun e w' => e = .returned (.tuple #[]) ∧ WkFO w' B b R y0 (some (bothW R i j s)) ∧ Below B w w' ∧ w'.heap[y0]? = w.heap[y0]? := by
  have n1 := swpT_num ok.l1 hi hj ok.n1
  have n2 := swpT_num ok.l2 hi hj ok.n2
  refine bothI_c R B b y0 0 i j 0 s (swpT R R i j s.1, swpT R R i j s.2) (some (swpT R R i j s.1, swpT R R i j s.2)) (some (bothW R i j s)) w hR wf hy0 (fun W A U V ca cu cv wk => ?_) (fun W A U V ca cu cv hy wk hb1 hb2 hb3 hb4 hyW => ?_) (fun s' h => (Option.some.inj h).symm) (fun h => by cases h)
  · exact rows2_c R R (R * R) (R * R) (R * R) B b A U V ca cu cv 0 i j 0 s.1 s.2 (trL R R s.2) (swpT R R i j s.1) (swpT R R i j s.2) true true W wk (fun W => isSwp_c R i j W hR hi hj hij)
      (fun W o => iSwpOp_c R R A s.1 (R * R) ca i j B W rfl hR hR o ok.n1 hi hj hij) (fun W o => iSwpOp_c R R U s.2 (R * R) cu i j B W rfl hR hR o ok.n2 hi hj hij)
  · have e1 : trL R R (swpT R R i j (trL R R (swpT R R i j s.1))) = swpCT R R i j (swpT R R i j s.1) := swpCT_tr hi hj
    have e2 : trL R R (trL R R s.2) = s.2 := trL_trL ok.l2
    have := cols_c R R (R * R) (R * R) (R * R) B b A U V ca cu cv 0 i j 0 (swpT R R i j s.1) (swpT R R i j s.2) (trL R R s.2) (swpT R R i j (trL R R (swpT R R i j s.1))) (swpT R R i j s.2) true true W wk rfl rfl hR hR (swpT_length _ _ _ _ _) (trL_length _ _ _) n1 (trL_num ok.l2 ok.n2) (swpT_length _ _ _ _ _) (swpT_length _ _ _ _ _) (fun _ => swpT_num (trL_length _ _ _) hi hj (trL_num (swpT_length _ _ _ _ _) n1)) (fun _ => n2)
      (fun W => isSwp_c R i j W hR hi hj hij)
      (fun W B' A' c' o => iSwpOp_c R R A' _ (R * R) c' i j B' W rfl hR hR o (trL_num (swpT_length _ _ _ _ _) n1) hi hj hij)
      (fun W B' A' c' o => by
        rw [e2] at o
        exact iSwpOp_c R R A' s.2 (R * R) c' i j B' W rfl hR hR o ok.n2 hi hj hij)
    refine this.mono ?_
    rintro e w' ⟨rfl, ⟨A', V', ca', cv', a', v', wk', hav, hfr⟩, b3, kp⟩
    refine ⟨rfl, ?_, b3, kp y0 hyW hb1⟩
    obtain ⟨hf1, hf2⟩ := hfr y0 hyW hb2 hb4
    obtain ⟨rfl, rfl⟩ := hav rfl
    rw [e1] at wk'
    exact (show WkF _ B b R y0 (bothW R i j s) from ⟨_, _, _, _, _, _, wk', hb1, hf1, hb3, hf2⟩).toO
end
end Go.Proofs.YtfilbjbogggaoaaGreat

/- Contract: a step of the reduction, the program's. -/
namespace Go.Proofs.YtfilbjbogggaoaaGreat
set_option linter.unusedSimpArgs false
set_option linter.unusedVariables false
open Go.RowKit

theorem step_keep {W w : World} {b bk bm om br p : Nat} {u v : Value} {x y z t : Value} (h : SBox W b u v) (hk : W.cell? ⟨bk, 0, none⟩ = some x) (hbk : bk < W.heap.size) (hm : W.cell? ⟨bm, om, none⟩ = some y) (hbm : bm < W.heap.size) (h0 : W.cell? ⟨br, p, none⟩ = some z) (h1 : W.cell? ⟨br, p + 1, none⟩ = some t) (hbr : br < W.heap.size) (g : Grows W w) :
    w.cell? ⟨b, 0, none⟩ = some u ∧ w.cell? ⟨bk, 0, none⟩ = some x ∧ w.cell? ⟨bm, om, none⟩ = some y ∧ w.cell? ⟨br, p, none⟩ = some z ∧ w.cell? ⟨br, p + 1, none⟩ = some t :=
  ⟨(h.grows g).c0, (g.cell (p := ⟨bk, 0, none⟩) hbk).trans hk, (g.cell (p := ⟨bm, om, none⟩) hbm).trans hm, (g.cell (p := ⟨br, p, none⟩) hbr).trans h0, (g.cell (p := ⟨br, p + 1, none⟩) hbr).trans h1⟩
theorem WkF.putK {w : World} {B b R x : Nat} {s : LL} (h : WkF w B b R x s) (u : Value) : WkF (w.setCell ⟨x, 0, none⟩ u) B b R x s := by
  obtain ⟨A, U, V, ca, cu, cv, wk, n1, n2, n3, n4⟩ := h
  exact ⟨A, U, V, ca, cu, cv, ⟨wk.bx.of_block (Below.heap_setCell w ⟨x, 0, none⟩ u b n1.symm) (by simp), wk.oa.far (fun g h e => n2 (by rw [h]; exact congrArg some e)) u, wk.ou.far (fun g h e => n3 (by rw [h]; exact congrArg some e)) u, wk.ov.far (fun g h e => n4 (by rw [h]; exact congrArg some e)) u, wk.ab, wk.ub, wk.vb, wk.au, wk.av, wk.uv, wk.lo⟩, n1, n2, n3, n4⟩
theorem WkFO.bad {w : World} {B b R x : Nat} {o : Option LL} (h : WkFO w B b R x o) : w.cell? ⟨b, 9, none⟩ = some (.bool (!o.isSome)) ∧ b < w.heap.size := by
  cases o with
  | none =>
    obtain ⟨A, U, V, ca, cu, cv, a, u, v, wk⟩ := h.2 rfl
    exact ⟨wk.bx.c9, wk.bx.lt⟩
  | some s =>
    obtain ⟨A, U, V, ca, cu, cv, wk, _⟩ := h.1 s rfl
    exact ⟨wk.bx.c9, wk.bx.lt⟩
theorem kput {w : World} {bk : Nat} {K : Int} (h : w.cell? ⟨bk, 0, none⟩ = some (.int .i64 K)) (hf : w.frozen? ⟨bk, 0, none⟩ = false) (hl : bk < w.heap.size) (k : Int) : (w.setCell ⟨bk, 0, none⟩ (.int .i64 k)).cell? ⟨bk, 0, none⟩ = some (.int .i64 k) ∧ (w.setCell ⟨bk, 0, none⟩ (.int .i64 k)).frozen? ⟨bk, 0, none⟩ = false ∧ bk < (w.setCell ⟨bk, 0, none⟩ (.int .i64 k)).heap.size :=
  ⟨by simp [go_sem, h], by simp [go_sem, hf], by simp; exact hl⟩
/-- what a step answers -/
def StepRet (R B b bk : Nat) (o : Option RS) (w : World) (e : Ending) (w' : World) : Prop := e = .returned (.bool o.isSome) ∧ Below B w w' ∧ ∀ y, o = some y → WkF w' B b R bk y.1 ∧ w'.cell? ⟨bk, 0, none⟩ = some (.int .i64 y.2) ∧ w'.frozen? ⟨bk, 0, none⟩ = false ∧ bk < w'.heap.size
section
set_option maxHeartbeats 40000000
set_option maxRecDepth 100000
theorem step_c (R B b bk K : Nat) (s : LL) (mu : List (List Q2)) (sq : List Q2) (Am As : Option Addr) (cm cs : Nat) (w : World) (hR : R ≤ 24) (wf : WkF w B b R bk s) (ok : Ok2 R R s) (hK1 : 1 ≤ K) (hlt : K < R) (hbk : bk < w.heap.size) (hBk : B ≤ bk) (hck : w.cell? ⟨bk, 0, none⟩ = some (.int .i64 K)) (hfk : w.frozen? ⟨bk, 0, none⟩ = false)
    (hI1 : mu.length = R) (hI2 : sq.length = R) (hI3 : ∀ j, j < R → (mu.getD j []).length = j) (rdm : RdR RSQ w Am mu) (rds : RdQ w As sq) :
    Calls Tryz.prog 71 #[.pointer (some ⟨b, 0, none⟩), .agg #[.slice Am R cm, .slice As R cs], .pointer (some ⟨bk, 0, none⟩)] w (StepRet R B b bk (redS R (mu, sq) (s, K)) w) := by
  have hBw : B ≤ w.heap.size := by omega
  obtain ⟨w1, hw1⟩ : ∃ w1, w1 = w.alloc (.cells #[.slice Am R cm, .slice As R cs] 71) := ⟨_, rfl⟩
  have so : SBox w1 w.heap.size (.slice Am R cm) (.slice As R cs) := by rw [hw1]; exact SBox.new_ _ _ _ _ rfl
  have g01 : Grows w w1 := by rw [hw1]; exact bel0
  have hs1 := Below.size g01
  have HW1 := Lib.hid hw1
  obtain ⟨P, hP⟩ : ∃ P, K = P + 1 := ⟨K - 1, by omega⟩
  have HP := Lib.hid hP
  have k0 : IntKind.i64.wrap ((K : Int) - 1) = (P : Int) := by rw [show (K : Int) - 1 = (P : Int) by omega]; exact IntWalk.i64_in _ (by omega)
  have hck1 := (g01.cell (p := ⟨bk, 0, none⟩) hbk).trans hck
  have hfk1 := (g01.frozen (p := ⟨bk, 0, none⟩) hbk).trans hfk
  have hbk1 : bk < w1.heap.size := by omega
  obtain ⟨row, hrow⟩ : ∃ x, x = mu.getD K [] := ⟨_, rfl⟩
  have hI4 : row.length = K := by rw [hrow]; exact hI3 K hlt
  obtain ⟨bm, om, Ar, cr, rfl, hbm, hcm, rdr, _⟩ := (rdm.grows RSQ.good g01).rowQ K (by rw [hI1]; exact hlt)
  rw [← hrow] at hcm rdr
  rw [hI4] at hcm
  have HRW := Lib.hid hrow
  obtain ⟨RES, hRES⟩ : ∃ x, x = redS R (mu, sq) (s, K) := ⟨_, rfl⟩
  rw [← hRES]
  have HR := Lib.hid hRES
  have HOK := Lib.hid ok
  have wf1 := wf.grows g01
  have CIR := Lib.hid fun (q : Q2) W => iIsRatio_c q.1 q.2 W
  change RowKit.Hid (∀ (q : Q2) W, Calls Tryz.prog 129 #[.agg #[.int .i64 q.1, .int .i64 q.2]] W fun e w' => e = .returned (.bool (okQ q)) ∧ Grows W w') at CIR
  have CRQ := Lib.hid fun (q : Q2) W => iRoundQ_c q W
  have CIO := Lib.hid fun W h1 h2 => inOrder_c (mu, sq) R K (some ⟨bm, om, none⟩) As cm cs W hI1 hI2 hI3 hR (by omega) hlt h1 h2
  have rdm1 := rdm.grows RSQ.good g01
  have rds1 := rds.grows g01
  have HKR := Lib.hid (show (K : Int) < (R : Int) by omega)
  have HI4 := Lib.hid hI4
  clear hw1 hrow hRES ok wf hP rdm rds hfk hI1 hI2 hI3 hI4
  go_enter Tryz.func71, Tryz.ntmps71
  go_wp2_with fail
  clear hck
  rw [← HW1.out]
  go_loopw [7] (fun j wr => ∃ q : Nat, j = .int .i64 ((q : Int) - 1) ∧ q ≤ K ∧ fstJ row K = fstJ row q ∧ Grows w1 wr) (fun j _ => (intOf j + 1).toNat)
  case atStart => exact ⟨K, by rw [show (P : Int) = (K : Int) - 1 by (have := HP.out; omega)], Nat.le_refl _, rfl, by exact bel0⟩
  case round =>
    obtain ⟨q, rfl, hqK, hfq, hg⟩ := hrel
    have HFQ := Lib.hid hfq
    clear hfq
    have hsw := Below.size hg
    have ckr := (hg.cell (p := ⟨bk, 0, none⟩) hbk1).trans hck1
    have fkr := (hg.frozen (p := ⟨bk, 0, none⟩) hbk1).trans hfk1
    have sor := so.grows hg
    rcases q with _ | p
    · have e0 : ((0 : Nat) : Int) - 1 = -1 := rfl
      have HQ0 := Lib.hid (HFQ.out.trans (show fstJ row 0 = none from rfl))
      rw [e0]
      have sx := ext_is sor.c0
      have sy := ext_is sor.c1
      have kx := ext_is ckr
      have sl := sor.lt
      have hP := HP.out
      have HU := Lib.hid fun h => HR.out.trans (redS_unknown (R := R) (s := s) (mu := (mu, sq)) (k := K) (by simp only; rw [← HRW.out]; exact HQ0.out) h)
      have HGD := Lib.hid fun h => HR.out.trans (redS_good (R := R) (s := s) (mu := (mu, sq)) (k := K) (by simp only; rw [← HRW.out]; exact HQ0.out) h)
      have HSW := Lib.hid fun h h2 => HR.out.trans (redS_swap (R := R) (s := s) (mu := (mu, sq)) (k := K) (by simp only; rw [← HRW.out]; exact HQ0.out) h h2)
      have hc4 : ordS (mu, sq) K = -1 ∨ ordS (mu, sq) K = 0 ∨ ordS (mu, sq) K = 1 ∨ ordS (mu, sq) K = 2 := cmpQ_four _ _
      generalize ordS (mu, sq) K = C at *
      have hbk8 : bk < wr.heap.size := by omega
      clear hP
      have HGW : Grows w wr := by exact bel2 hg g01
      rcases hc4 with rfl | rfl | rfl | rfl
      · have hRES : RES = some (bothW R K P s, max 1 P) := (HSW.out (by omega) (by omega)).trans (by rw [show K - 1 = P by (have := HP.out; omega)])
        have HRE := Lib.hid hRES
        clear hRES
        go_wp2_with fail
        ((refine wp_region_ext (by kernel_rfl) (by kernel_rfl) ?_); (repeat (go_big_quiet_step ((go_at_call 83; with_reducible exact extC (CIO.out _ (rdm1.grows RSQ.good (Grows.trans hg (ext_grows _ _))) (rds1.grows (Grows.trans hg (ext_grows _ _)))))))); refine wpQuiet_nil ?_; rintro w9 ⟨w90, hw90⟩; have g9 := grows_of_ext hw90; clear hw90 w90)
        have ck9 := (g9.cell (p := ⟨bk, 0, none⟩) hbk8).trans ckr
        have fk9 := (g9.frozen (p := ⟨bk, 0, none⟩) hbk8).trans fkr
        have hs9 := Below.size g9
        have hb9 : bk < w9.heap.size := by omega
        have k9 := ext_is ck9
        have G9 : Grows w1 w9 := by exact bel2 g9 hg
        clear sx sy kx
        go_wp2_with fail
        ((refine wp_region_tail 9 (by kernel_rfl) (by kernel_rfl) ?_; simp only [List.take_succ_cons, List.take_zero, List.drop_succ_cons, List.drop_zero]); (repeat (go_big_quiet_step (fail))); refine wpQuiet_nil ?_; rintro wa ⟨wa0, hwa0⟩; have ga := grows_of_ext hwa0; clear hwa0 wa0)
        have cka := (ga.cell (p := ⟨bk, 0, none⟩) hb9).trans ck9
        have fka := (ga.frozen (p := ⟨bk, 0, none⟩) hb9).trans fk9
        have hba : bk < wa.heap.size := by have := Below.size ga; omega
        have GA : Grows w1 wa := by exact bel2 ga G9
        have CBS := bothSwpI_c R B b bk K P s wa hba hR HOK.out hlt (by have := HP.out; omega) (by have := HP.out; omega) (wf1.grows GA)
        have CBS' := Lib.hid CBS
        clear CBS k9
        go_wp2_with fail
        refine CBS'.out.mono ?_; rintro e wb ⟨rfl, wo, bb, hyb⟩
        obtain ⟨c9, cl⟩ := wo.bad
        have ckb : wb.cell? ⟨bk, 0, none⟩ = _ := (World.cell?_of_block hyb).trans cka
        have fkb : wb.frozen? ⟨bk, 0, none⟩ = _ := (World.frozen?_of_block hyb).trans fka
        have hsb := Below.size bb
        have hbb : bk < wb.heap.size := by omega
        have GB : Below B w wb := Below.trans (Below.mono (show Grows w wa by exact bel2 GA g01) hBw) bb
        have wkb := wo.1 _ rfl
        have hnb : b ≠ bk := by
          obtain ⟨A, U, V, ca, cu, cv, _, h, _⟩ := wkb
          exact h.symm
        clear hyb wo
        go_wp2_with fail
        all_goals
          go_ret
          rw [HRE.out]
          refine ⟨rfl, GB.setCell hBk _, fun y hy => ?_⟩
          cases hy
          first
            | (have e : max 1 P = P := by omega
               rw [e]
               exact ⟨wkb.putK _, kput ckb fkb hbb _⟩)
            | (have e : max 1 P = 1 := by omega
               rw [e]
               exact ⟨wkb.putK _, kput ckb fkb hbb _⟩)
      · have hRES : RES = some (s, K + 1) := HGD.out (by omega)
        have HRE := Lib.hid hRES
        clear hRES
        go_wp2_with fail
        ((refine wp_region_ext (by kernel_rfl) (by kernel_rfl) ?_); (repeat (go_big_quiet_step ((go_at_call 83; with_reducible exact extC (CIO.out _ (rdm1.grows RSQ.good (Grows.trans hg (ext_grows _ _))) (rds1.grows (Grows.trans hg (ext_grows _ _)))))))); refine wpQuiet_nil ?_; rintro w9 ⟨w90, hw90⟩; have g9 := grows_of_ext hw90; clear hw90 w90)
        have ck9 := (g9.cell (p := ⟨bk, 0, none⟩) hbk8).trans ckr
        have fk9 := (g9.frozen (p := ⟨bk, 0, none⟩) hbk8).trans fkr
        have hs9 := Below.size g9
        have hb9 : bk < w9.heap.size := by omega
        have G9 : Grows w1 w9 := by exact bel2 g9 hg
        clear sx sy kx
        go_wp2_with fail
        go_ret
        rw [HRE.out]
        refine ⟨rfl, ?_, fun y hy => ?_⟩
        · exact (Below.mono (show Grows w w9 by exact bel2 G9 g01) hBw).setCell hBk _
        · cases hy
          have hk1 : (K : Int) + 1 = ((K + 1 : Nat) : Int) := by omega
          rw [hk1]
          exact ⟨(wf1.grows G9).putK _, kput ck9 fk9 hb9 _⟩
      · have hRES : RES = some (s, K + 1) := HGD.out (by omega)
        have HRE := Lib.hid hRES
        clear hRES
        go_wp2_with fail
        ((refine wp_region_ext (by kernel_rfl) (by kernel_rfl) ?_); (repeat (go_big_quiet_step ((go_at_call 83; with_reducible exact extC (CIO.out _ (rdm1.grows RSQ.good (Grows.trans hg (ext_grows _ _))) (rds1.grows (Grows.trans hg (ext_grows _ _)))))))); refine wpQuiet_nil ?_; rintro w9 ⟨w90, hw90⟩; have g9 := grows_of_ext hw90; clear hw90 w90)
        have ck9 := (g9.cell (p := ⟨bk, 0, none⟩) hbk8).trans ckr
        have fk9 := (g9.frozen (p := ⟨bk, 0, none⟩) hbk8).trans fkr
        have hs9 := Below.size g9
        have hb9 : bk < w9.heap.size := by omega
        have G9 : Grows w1 w9 := by exact bel2 g9 hg
        clear sx sy kx
        go_wp2_with fail
        go_ret
        rw [HRE.out]
        refine ⟨rfl, ?_, fun y hy => ?_⟩
        · exact (Below.mono (show Grows w w9 by exact bel2 G9 g01) hBw).setCell hBk _
        · cases hy
          have hk1 : (K : Int) + 1 = ((K + 1 : Nat) : Int) := by omega
          rw [hk1]
          exact ⟨(wf1.grows G9).putK _, kput ck9 fk9 hb9 _⟩
      · obtain rfl : RES = none := HU.out rfl
        go_wp2_with fail
        ((refine wp_region_ext (by kernel_rfl) (by kernel_rfl) ?_); (repeat (go_big_quiet_step ((go_at_call 83; with_reducible exact extC (CIO.out _ (rdm1.grows RSQ.good (Grows.trans hg (ext_grows _ _))) (rds1.grows (Grows.trans hg (ext_grows _ _)))))))); refine wpQuiet_nil ?_; rintro w9 ⟨w90, hw90⟩; have g9 := grows_of_ext hw90; clear hw90 w90)
        clear sx sy kx
        go_wp2_with fail
        go_ret
        exact ⟨rfl, Below.mono (show Grows w w9 by exact bel3 g9 hg g01) hBw, fun y hy => by cases hy⟩
    · have e0 : ((p + 1 : Nat) : Int) - 1 = (p : Int) := by omega
      rw [e0]
      have hpr : p < row.length := by rw [HI4.out]; omega
      have hpi : (p : Int) < (K : Int) := by omega
      have hp0 : (0 : Int) ≤ (p : Int) := by omega
      have hKR := HKR.out
      obtain ⟨br, orr, rfl, hbr, y0, y1⟩ := (rdr.grows hg) p hpr
      have hcm8 := (hg.cell (p := ⟨bm, om + K, none⟩) hbm).trans hcm
      have HB1 := Lib.hid fun h => fstJ_bad (row := row) (j := p) h
      have HB2 := Lib.hid fun h h2 => fstJ_next (row := row) (j := p) h h2
      have HB3 := Lib.hid fun h h2 => fstJ_here (row := row) (j := p) h h2
      have C1 := CIR.out (nthQ row p)
      have C2 := Lib.hid fun W => CRQ.out (nthQ row p) W
      have k1 : IntKind.i64.wrap ((p : Int) - 1) = (p : Int) - 1 := IntWalk.i64_in _ (by omega)
      have HRN := Lib.hid fun h => round_num (q := nthQ row p) h
      have hR1 := Lib.hid fun (h : fstJ row K = some p) h2 => redS_bad (R := R) (s := s) (mu := (mu, sq)) (k := K) (j := p) (by simp only; rw [← HRW.out]; exact h) h2
      have hR2 := Lib.hid fun (h : fstJ row K = some p) h2 => redS_add (R := R) (s := s) (mu := (mu, sq)) (k := K) (j := p) (by simp only; rw [← HRW.out]; exact h) h2
      simp only at hR1 hR2
      rw [← HRW.out] at hR1 hR2
      generalize nthQ row p = qq at *
      have hbm8 : bm < wr.heap.size := by omega
      have hbk8 : bk < wr.heap.size := by omega
      go_wp2_with fail
      go_cut [8] (fun pp wx => ∃ g : Nat, pp = .pointer (some ⟨g, 0, none⟩) ∧ QBox wx g qq ∧ Grows wr wx)
      case first =>
        go_region_held3 (fun W => W.cell? ⟨w.heap.size, 0, none⟩ = some (.slice (some ⟨bm, om, none⟩) R cm) ∧ W.cell? ⟨bk, 0, none⟩ = some (.int .i64 K) ∧ W.cell? ⟨bm, om + K, none⟩ = some (.slice (some ⟨br, orr, none⟩) K cr) ∧ W.cell? ⟨br, orr + p * 2, none⟩ = some (.int .i64 qq.1) ∧ W.cell? ⟨br, orr + p * 2 + 1, none⟩ = some (.int .i64 qq.2)) (exact step_keep sor ckr hbk8 hcm8 hbm8 y0 y1 hbr (by exact bel0)) (fail)
        all_goals
          go_wp2_with fail
          go_meet
          exact ⟨_, rfl, (by first | exact (QBox.put (QBox.new_ _ (0, 0) _ rfl) qq).grows (by exact bel0) | exact (QBox.new_ _ qq _ rfl).grows (by exact bel0)), (by exact bel0)⟩
      case rest =>
        obtain ⟨g8, rfl, qb, gc⟩ := hcut
        obtain ⟨w8, rfl⟩ : ∃ x : World, x = wc := ⟨_, rfl⟩
        obtain ⟨q0, q1⟩ := qb.cells
        have ql := qb.lt
        have G8 : Grows w1 w8 := by exact bel2 gc hg
        have hs8 := Below.size gc
        cases hok : okQ qq
        · have HT := Lib.hid (HFQ.out.trans (HB1.out hok))
          obtain rfl : RES = none := HR.out.trans (hR1 HT.out hok)
          rw [hok] at C1
          have C1' := Lib.hid C1
          clear C1 hok hR1 hR2
          go_wp2_with fail
          refine (C1'.out _).mono ?_; rintro e w9 ⟨rfl, g9⟩
          go_wp2_with fail
          go_ret
          exact ⟨rfl, Below.mono (show Grows w w9 by exact bel3 g9 G8 g01) hBw, fun y hy => by cases hy⟩
        · rw [hok] at C1
          have C1' := Lib.hid C1
          by_cases hz : roundQ qq = 0
          · have HT := Lib.hid (HFQ.out.trans (HB2.out hok hz))
            have C2' := C2.out
            rw [hz] at C2'
            have C22 := Lib.hid C2'
            clear C1 C2' hok hR1 hR2 hz
            go_wp2_with fail
            refine (C1'.out _).mono ?_; rintro e w9 ⟨rfl, g9⟩
            obtain ⟨z0, z1⟩ := (qb.grows g9).cells
            have zl := (qb.grows g9).lt
            clear q0 q1 ql
            go_wp2_with fail
            refine (C22.out _).mono ?_; rintro e wa ⟨rfl, ga⟩
            go_wp2_with fail
            go_round
            case rel => exact ⟨p, by go_num, by omega, HT.out, by exact bel3 ga g9 G8⟩
            case measure => first | (simp [intOf]; done) | (simp [intOf]; omega)
          · have HT := Lib.hid (HFQ.out.trans (HB3.out hok hz))
            have hRES := HR.out.trans (hR2 HT.out hok)
            have hrn := HRN.out hok
            clear C1 hok hR1 hR2 HRN
            generalize roundQ qq = rq at *
            have hnb := (isNum_iff rq).1 hrn
            have hnn : isNum (-rq) = true := (isNum_iff _).2 (by omega)
            have kn : IntKind.i64.wrap (-rq) = -rq := IntWalk.i64_in _ (by omega)
            have hbi : bk < w8.heap.size := by omega
            have CBA := Lib.hid fun W hb wf => bothAddI_c R B b bk K p (-rq) s W hb hR HOK.out hlt (by omega) (by omega) hnn wf
            generalize bothA R K p (-rq) s = o at *
            have HRE := Lib.hid hRES
            clear hRES hnn hrn
            go_wp2_with fail
            refine (C1'.out _).mono ?_; rintro e w9 ⟨rfl, g9⟩
            obtain ⟨z0, z1⟩ := (qb.grows g9).cells
            have zl := (qb.grows g9).lt
            clear q0 q1 ql
            go_wp2_with fail
            refine (C2.out _).mono ?_; rintro e wa ⟨rfl, ga⟩
            have GA : Grows w1 wa := by exact bel3 ga g9 G8
            have cka := (GA.cell (p := ⟨bk, 0, none⟩) hbk1).trans hck1
            have fka := (GA.frozen (p := ⟨bk, 0, none⟩) hbk1).trans hfk1
            have hba : bk < wa.heap.size := by have := Below.size GA; omega
            clear z0 z1 zl
            go_wp2_with fail
            refine (CBA.out _ hba (wf1.grows GA)).mono ?_; rintro e wb ⟨rfl, wo, bb, hyb⟩
            obtain ⟨c9, cl⟩ := wo.bad
            have ckb : wb.cell? ⟨bk, 0, none⟩ = _ := (World.cell?_of_block hyb).trans cka
            have fkb : wb.frozen? ⟨bk, 0, none⟩ = _ := (World.frozen?_of_block hyb).trans fka
            have hsb := Below.size bb
            have hbb : bk < wb.heap.size := by omega
            have GB : Below B w wb := Below.trans (Below.mono (show Grows w wa by exact bel2 GA g01) hBw) bb
            clear hyb
            cases o with
            | none =>
              obtain rfl : RES = none := HRE.out
              go_wp2_with fail
              go_ret
              exact ⟨rfl, GB, fun y hy => by cases hy⟩
            | some s' =>
              obtain rfl : RES = some (s', K) := HRE.out
              go_wp2_with fail
              go_ret
              exact ⟨rfl, GB, fun y hy => by cases hy; exact ⟨wo.1 s' rfl, ckb, fkb, hbb⟩⟩
end
end Go.Proofs.YtfilbjbogggaoaaGreat
