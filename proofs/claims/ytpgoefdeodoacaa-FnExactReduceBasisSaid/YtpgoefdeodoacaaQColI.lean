/- Contracts and lemmas, put together. -/
import Derived.Test.YtpgoefdeodoacaaPkG
import Derived.Test.YtpgoefdeodoacaaQRdgP
import Derived.Test.YtpgoefdeodoacaaQSmithP
/- Contract: an operation on the columns of a matrix under work, the program's. -/
namespace Go.Proofs.Ytpgoefdeodoacaa
set_option linter.unusedSimpArgs false
set_option linter.unusedVariables false
open Go.RowKit

theorem tr_c (R C : Nat) (A : Option Addr) (l : List Int) (n cap : Nat) (w : World) (hn : n = R * C) (hl : l.length = n) (hR : R ≤ 24) (hC : C ≤ 24) (hnum : allNum l = true) (ha : Rd w A l) :
    Calls Try.prog 172 #[.agg #[.int .i64 R, .int .i64 C, .slice A n cap]] w fun e w' => ∃ A' c', e = .returned (.tuple #[.agg #[.int .i64 C, .int .i64 R, .slice A' (C * R) c'], .bool true]) ∧ Own w' w.heap.size (.slice A' (C * R) c') (trL R C l) ∧ Grows w w' := by
  have hRC : R * C ≤ 576 := Nat.mul_le_mul hR hC
  have hm : isMat R C l = true := by rw [isMat_made hR hC (hl.trans hn)]; exact hnum
  have e : trO ⟨R, C, l⟩ = some ⟨C, R, trL R C l⟩ := by
    unfold trO trM MX.ok
    simp only [hm, if_true, Int.toNat_natCast]
  refine (iTr_m R C A l n cap w hl ha (by omega)).mono ?_
  rintro e2 w' h
  obtain ⟨v, rfl, o, g⟩ := matRet_out h
  rw [e] at o ⊢
  have o' : Own w' w.heap.size v (trL R C l) := o
  obtain ⟨A', c', rfl, _, _⟩ := o'.val
  rw [trL_length] at o' ⊢
  exact ⟨A', c', rfl, o', g⟩
theorem WBox.putM {w : World} {b : Nat} {R C : Int} {A U V : Value} {bd : Bool} (h : WBox w b R C A U V bd) (A' : Value) : WBox (((w.setCell ⟨b, 0, none⟩ (.int .i64 R)).setCell ⟨b, 1, none⟩ (.int .i64 C)).setCell ⟨b, 2, none⟩ A') b R C A' U V bd := by
  obtain ⟨h0, h1, h2, h3, h4, h5, h6, h7, h8, h9⟩ := h.cells
  have hl := h.lt
  have hf := h.fz
  exact ⟨by simp; exact hl, by simp [go_sem, h0], by simp [go_sem, h1], by simp [go_sem, h2], by simp [go_sem, h3], by simp [go_sem, h4], by simp [go_sem, h5], by simp [go_sem, h6], by simp [go_sem, h7], by simp [go_sem, h8], by simp [go_sem, h9], fun o => by simp [go_sem, hf]⟩
theorem WBox.putV {w : World} {b : Nat} {R C : Int} {A U V : Value} {bd : Bool} (h : WBox w b R C A U V bd) (V' : Value) : WBox (((w.setCell ⟨b, 6, none⟩ (.int .i64 C)).setCell ⟨b, 7, none⟩ (.int .i64 C)).setCell ⟨b, 8, none⟩ V') b R C A U V' bd := by
  obtain ⟨h0, h1, h2, h3, h4, h5, h6, h7, h8, h9⟩ := h.cells
  have hl := h.lt
  have hf := h.fz
  exact ⟨by simp; exact hl, by simp [go_sem, h0], by simp [go_sem, h1], by simp [go_sem, h2], by simp [go_sem, h3], by simp [go_sem, h4], by simp [go_sem, h5], by simp [go_sem, h6], by simp [go_sem, h7], by simp [go_sem, h8], by simp [go_sem, h9], fun o => by simp [go_sem, hf]⟩
theorem Own.put3 {w : World} {B b o1 o2 o3 : Nat} {v : Value} {l : List Int} (h : Own w B v l) (hne : ∀ g, v.ownBlock = some g → g ≠ b) (x y z : Value) : Own (((w.setCell ⟨b, o1, none⟩ x).setCell ⟨b, o2, none⟩ y).setCell ⟨b, o3, none⟩ z) B v l :=
  ((h.far (p := ⟨b, o1, none⟩) hne x).far (p := ⟨b, o2, none⟩) hne y).far (p := ⟨b, o3, none⟩) hne z
theorem MBox.put3 {w : World} {b b' o1 o2 o3 : Nat} {r c : Int} {v : Value} (h : MBox w b r c v) (hne : b ≠ b') (x y z : Value) : MBox (((w.setCell ⟨b', o1, none⟩ x).setCell ⟨b', o2, none⟩ y).setCell ⟨b', o3, none⟩ z) b r c v :=
  ((h.far (p := ⟨b', o1, none⟩) (by simpa using hne) x).far (p := ⟨b', o2, none⟩) (by simpa using hne) y).far (p := ⟨b', o3, none⟩) (by simpa using hne) z
theorem col_keep {w W : World} {b x R C n m q : Nat} {A U V : Option Addr} {ca cu cv : Nat} {bd : Bool} {k i j t : Int} (h : WBox W b R C (.slice A n ca) (.slice U m cu) (.slice V q cv) bd) (o : OBox W x k i j t) (g : Grows W w) :
    w.cell? ⟨b, 1, none⟩ = some (.int .i64 C) ∧ w.cell? ⟨b, 9, none⟩ = some (.bool bd) ∧ w.cell? ⟨x, 0, none⟩ = some (.int .i64 k) ∧ w.cell? ⟨x, 1, none⟩ = some (.int .i64 i) ∧ w.cell? ⟨x, 2, none⟩ = some (.int .i64 j) ∧ w.cell? ⟨x, 3, none⟩ = some (.int .i64 t) :=
  ⟨(h.grows g).c1, (h.grows g).c9, (o.grows g).c0, (o.grows g).c1, (o.grows g).c2, (o.grows g).c3⟩
section
set_option maxHeartbeats 40000000
set_option maxRecDepth 100000
theorem cols_c (R C n m q B b : Nat) (A U V : Option Addr) (ca cu cv : Nat) (k i j t : Int) (a u v a1 v1 : List Int) (k1 k2 : Bool) (w : World) (wk : Wk w B b R C n m q A U V ca cu cv a u v false)
    (hn : n = R * C) (hq : q = C * C) (hR : R ≤ 24) (hC : C ≤ 24) (hal : a.length = n) (hvl : v.length = q) (hna : allNum a = true) (hnv : allNum v = true) (hl1 : a1.length = C * R) (hl2 : v1.length = C * C) (hn1 : k1 = true → allNum a1 = true) (hn2 : k2 = true → allNum v1 = true)
    (HI : ∀ W, Calls Try.prog 194 #[.agg #[.int .i64 k, .int .i64 i, .int .i64 j, .int .i64 t], .int .i64 C] W fun e w' => e = .returned (.bool true) ∧ Grows W w')
    (HA : ∀ W B' A' c', Own W B' (.slice A' (C * R) c') (trL R C a) → Calls Try.prog 195 #[.agg #[.int .i64 C, .int .i64 R, .slice A' (C * R) c'], .agg #[.int .i64 k, .int .i64 i, .int .i64 j, .int .i64 t]] W (OpRes W B' (.slice A' (C * R) c') k1 a1))
    (HV : ∀ W B' A' c', Own W B' (.slice A' (C * C) c') (trL C C v) → Calls Try.prog 195 #[.agg #[.int .i64 C, .int .i64 C, .slice A' (C * C) c'], .agg #[.int .i64 k, .int .i64 i, .int .i64 j, .int .i64 t]] W (OpRes W B' (.slice A' (C * C) c') k2 v1)) :
    Calls Try.prog 205 #[.pointer (some ⟨b, 0, none⟩), .agg #[.int .i64 k, .int .i64 i, .int .i64 j, .int .i64 t]] w fun e w' => e = .returned (.tuple #[]) ∧
      (∃ (A' V' : Option Addr) (ca' cv' : Nat) (a' v' : List Int), Wk w' B b R C n m q A' U V' ca' cu cv' a' u v' (!(k1 && k2)) ∧ ((k1 && k2) = true → a' = trL C R a1 ∧ v' = trL C C v1) ∧ (∀ x, x < w.heap.size → (Value.slice A n ca).ownBlock ≠ some x → (Value.slice V q cv).ownBlock ≠ some x → (Value.slice A' n ca').ownBlock ≠ some x ∧ (Value.slice V' q cv').ownBlock ≠ some x)) ∧ Below B w w' ∧ ∀ x, x < w.heap.size → x ≠ b → w'.heap[x]? = w.heap[x]? := by
  obtain ⟨w1, hw1⟩ : ∃ w1, w1 = w.alloc (.cells #[.int .i64 k, .int .i64 i, .int .i64 j, .int .i64 t] 78) := ⟨_, rfl⟩
  have g01 : Grows w w1 := by rw [hw1]; exact bel0
  have ob : OBox w1 w.heap.size k i j t := by rw [hw1]; exact OBox.new_ _ _ _ _ _ _ rfl
  have wk1 := wk.grows g01
  have hBs := wk.size
  have hs01 := Below.size g01
  have HW1 := Lib.hid hw1
  have HI' := Lib.hid HI
  have HA' := Lib.hid HA
  have HV' := Lib.hid HV
  have HN1 := Lib.hid hn1
  have HN2 := Lib.hid hn2
  have CT1 := Lib.hid fun W h => tr_c R C A a n ca W hn hal hR hC hna h
  have CT2 := Lib.hid fun W h => tr_c C C V v q cv W hq hvl hC hC hnv h
  have CT3 := Lib.hid fun A' c' W hk h => tr_c C R A' a1 (C * R) c' W rfl hl1 hC hR (hn1 hk) h
  have CT4 := Lib.hid fun A' c' W hk h => tr_c C C A' v1 (C * C) c' W rfl hl2 hC hC (hn2 hk) h
  have HNN := Lib.hid hn
  have HQQ := Lib.hid hq
  clear hw1 HI HA HV hn1 hn2 hn hq hal hvl hna hnv hl1 hl2
  go_enter Try.func205, Try.ntmps205
  go_wp2_with fail
  rw [← HW1.out]
  (refine wp_region_heldL (fun W => W.cell? ⟨b, 1, none⟩ = some (.int .i64 C) ∧ W.cell? ⟨b, 9, none⟩ = some (.bool false) ∧ W.cell? ⟨w.heap.size, 0, none⟩ = some (.int .i64 k) ∧ W.cell? ⟨w.heap.size, 1, none⟩ = some (.int .i64 i) ∧ W.cell? ⟨w.heap.size, 2, none⟩ = some (.int .i64 j) ∧ W.cell? ⟨w.heap.size, 3, none⟩ = some (.int .i64 t)) (by kernel_rfl) (by ((try dsimp only); (first | exact col_keep wk1.bx ob (by exact bel1 g2) | exact col_keep wk1.bx ob (by exact bel0)))) (fun hHeld => ?_); refine heldL_take (i := 0) (v := _) (by rfl) (by kernel_rfl) (by kernel_rfl) (by kernel_rfl) (fun _ _ _ h => h) (Or.inl ⟨by rfl, fun wS hSw => by ((try dsimp only at hSw); go_simp; (try with_reducible rfl))⟩) (by assumption) ?_; simp only [Act.put, List.setIfInBounds_toArray, List.set_cons_zero, List.set_cons_succ]; refine heldL_take (i := 1) (v := _) (by rfl) (by kernel_rfl) (by kernel_rfl) (by kernel_rfl) (fun _ _ _ h => h) (Or.inl ⟨by rfl, fun wS hSw => by ((try dsimp only at hSw); go_simp; (try with_reducible rfl))⟩) (by assumption) ?_; simp only [Act.put, List.setIfInBounds_toArray, List.set_cons_zero, List.set_cons_succ]; refine heldL_take (i := 2) (v := _) (by rfl) (by kernel_rfl) (by kernel_rfl) (by kernel_rfl) (fun _ _ _ h => h) (Or.inl ⟨by rfl, fun wS hSw => by ((try dsimp only at hSw); go_simp; (try with_reducible rfl))⟩) (by assumption) ?_; simp only [Act.put, List.setIfInBounds_toArray, List.set_cons_zero, List.set_cons_succ]; refine heldL_take (i := 3) (v := _) (by rfl) (by kernel_rfl) (by kernel_rfl) (by kernel_rfl) (fun _ _ _ h => h) (Or.inl ⟨by rfl, fun wS hSw => by ((try dsimp only at hSw); go_simp; (try with_reducible rfl))⟩) (by assumption) ?_; simp only [Act.put, List.setIfInBounds_toArray, List.set_cons_zero, List.set_cons_succ]; refine heldL_take (i := 4) (v := _) (by rfl) (by kernel_rfl) (by kernel_rfl) (by kernel_rfl) (fun _ _ _ h => h) (Or.inl ⟨by rfl, fun wS hSw => by ((try dsimp only at hSw); go_simp; (try with_reducible rfl))⟩) (by assumption) ?_; simp only [Act.put, List.setIfInBounds_toArray, List.set_cons_zero, List.set_cons_succ]; refine heldL_take (i := 5) (v := _) (by rfl) (by kernel_rfl) (by kernel_rfl) (by kernel_rfl) (fun _ _ _ h => h) (Or.inl ⟨by rfl, fun wS hSw => by ((try dsimp only at hSw); go_simp; (try with_reducible rfl))⟩) (by assumption) ?_; simp only [Act.put, List.setIfInBounds_toArray, List.set_cons_zero, List.set_cons_succ]; refine heldL_take (i := 6) (v := _) (by rfl) (by kernel_rfl) (by kernel_rfl) (by kernel_rfl) (fun _ _ _ h => h) (Or.inl ⟨by rfl, fun wS hSw => by ((try dsimp only at hSw); go_simp; (try with_reducible rfl))⟩) (by assumption) ?_; simp only [Act.put, List.setIfInBounds_toArray, List.set_cons_zero, List.set_cons_succ]; refine heldL_take (i := 7) (v := _) (by rfl) (by kernel_rfl) (by kernel_rfl) (by kernel_rfl) (fun _ _ _ h => h) (Or.inl ⟨by rfl, fun wS hSw => by ((try dsimp only at hSw); go_simp; (try with_reducible rfl))⟩) (by assumption) ?_; simp only [Act.put, List.setIfInBounds_toArray, List.set_cons_zero, List.set_cons_succ]; refine heldL_take (i := 8) (v := _) (by rfl) (by kernel_rfl) (by kernel_rfl) (by kernel_rfl) (fun _ _ _ h => h) (Or.inl ⟨by rfl, fun wS hSw => by ((try dsimp only at hSw); go_simp; (try with_reducible rfl))⟩) (by assumption) ?_; simp only [Act.put, List.setIfInBounds_toArray, List.set_cons_zero, List.set_cons_succ]; refine heldL_take (i := 9) (v := _) (by rfl) (by kernel_rfl) (by kernel_rfl) (by kernel_rfl) (fun _ _ _ h => h) (Or.inl ⟨by rfl, fun wS hSw => by ((try dsimp only at hSw); go_simp; (try with_reducible rfl))⟩) (by assumption) ?_; simp only [Act.put, List.setIfInBounds_toArray, List.set_cons_zero, List.set_cons_succ]; refine heldL_take (i := 10) (v := _) (by rfl) (by kernel_rfl) (by kernel_rfl) (by kernel_rfl) (fun _ _ _ h => h) (Or.inl ⟨by rfl, fun wS hSw => by ((try dsimp only at hSw); go_simp; (try with_reducible rfl))⟩) (by assumption) ?_; simp only [Act.put, List.setIfInBounds_toArray, List.set_cons_zero, List.set_cons_succ]; refine heldL_step (i := 11) (by kernel_rfl) (by rfl) (fun K hK => ?_); go_simp; (go_at_call 194; refine (HI'.out _).mono ?_; rintro e w2 ⟨rfl, g2⟩; have hs2 : w1.heap.size ≤ w2.heap.size := (by have := Below.size g2; simpa using this)) ; (try (go_wp2_with fail)); refine hK.out _ _ (by ((try dsimp only); (first | exact col_keep wk1.bx ob (by exact bel1 g2) | exact col_keep wk1.bx ob (by exact bel0)))) (fun hHeld => ?_); clear hK K; (try simp only [Act.put, List.setIfInBounds_toArray, List.set_cons_zero, List.set_cons_succ]); refine heldL_take (i := 12) (v := _) (by rfl) (by kernel_rfl) (by kernel_rfl) (by kernel_rfl) (fun _ _ _ h => h) (Or.inl ⟨by rfl, fun wS hSw => by ((try dsimp only at hSw); go_simp; (try with_reducible rfl))⟩) (by assumption) ?_; simp only [Act.put, List.setIfInBounds_toArray, List.set_cons_zero, List.set_cons_succ]; refine heldL_take (i := 13) (v := _) (by rfl) (by kernel_rfl) (by kernel_rfl) (by kernel_rfl) (fun _ _ _ h => h) (Or.inl ⟨by rfl, fun wS hSw => by ((try dsimp only at hSw); go_simp; (try with_reducible rfl))⟩) (by assumption) ?_; simp only [Act.put, List.setIfInBounds_toArray, List.set_cons_zero, List.set_cons_succ]; refine wpAnyH_done (by kernel_rfl) ?_ _; refine NoPanic.normal ?_)
  have g12 : Grows w1 w2 := by exact bel1 g2
  have wk2 := wk1.grows g12
  have ob2 := ob.grows g12
  obtain ⟨c0, c1, c2, c3, c4, c5, c6, c7, c8, c9⟩ := wk2.bx.cells
  have hbl := wk2.bx.lt
  go_wp2_with fail
  refine (CT1.out _ wk2.oa.rd').mono ?_; rintro e w3 ⟨A3, c3', rfl, o3, g3⟩
  have hs3 := Below.size g3
  clear c0 c1 c2 c3 c4 c5 c6 c7 c8 c9
  obtain ⟨c0, c1, c2, c3, c4, c5, c6, c7, c8, c9⟩ := (wk2.bx.grows g3).cells
  have hbl3 := (wk2.bx.grows g3).lt
  have hrv := wk2.ov.rd'
  go_wp2_with fail
  refine (CT2.out _ (by exact (Rd.grows hrv (by exact bel1 g3)))).mono ?_; rintro e w4 ⟨A4, c4', rfl, o4, g4⟩
  have hs4 := Below.size g4
  simp at hs4
  have m3 : MBox w4 w3.heap.size C R (.slice A3 (C * R) c3') := (MBox.mk_ w3 C R (.slice A3 (C * R) c3') 28).grows g4
  obtain ⟨w5, hw5⟩ : ∃ w5, w5 = w4.alloc (.cells #[.int .i64 C, .int .i64 C, .slice A4 (C * C) c4'] 28) := ⟨_, rfl⟩
  have m5 : MBox w5 w3.heap.size C R (.slice A3 (C * R) c3') := by rw [hw5]; exact m3.alloc _
  have m6 : MBox w5 w4.heap.size C C (.slice A4 (C * C) c4') := by rw [hw5]; exact MBox.mk_ _ _ _ _ _
  have g45 : Grows w4 w5 := by rw [hw5]; exact bel0
  have g35 : Grows w3 w5 := by rw [hw5]; exact bel1 g4
  have g25 : Grows w2 w5 := by exact bel2 g35 g3
  have hA3 : ∀ g, (Value.slice A3 (C * R) c3').ownBlock = some g → w2.heap.size ≤ g ∧ g < w3.heap.size := fun g h => World.ownsRow.lt o3 g h
  have hA4 : ∀ g, (Value.slice A4 (C * C) c4').ownBlock = some g → w3.heap.size + 1 ≤ g ∧ g < w4.heap.size := fun g h => by have := World.ownsRow.lt o4 g h; simpa using this
  have o35 : Own w5 w2.heap.size (.slice A3 (C * R) c3') (trL R C a) := o3.grows g35
  have o45 : Own w5 w2.heap.size (.slice A4 (C * C) c4') (trL C C v) := (o4.grows g45).less (by simp; omega)
  have hs5 : w5.heap.size = w4.heap.size + 1 := by rw [hw5]; simp
  have HW5 := Lib.hid hw5
  have HA3 := Lib.hid hA3
  have HA4 := Lib.hid hA4
  have ob5 := ob2.grows g25
  have ob4 := ob2.grows (w' := w4) (by exact bel2 g4 g3)
  obtain ⟨x0, x1, x2, x3⟩ := ob4.cells
  have xl := ob4.lt
  obtain ⟨y0, y1, y2⟩ := m3.cells
  have yl := m3.lt
  clear hw5 hA3 hA4 m3 o3 o4 c0 c1 c2 c3 c4 c5 c6 c7 c8 c9 CT1 CT2
  have kp2 : Grows w w2 := Below.trans g01 (Below.mono g12 (by omega))
  have hb2 : Below B w w2 := Below.trans (Below.mono g01 hBs) (Below.mono g12 (by omega))
  go_wp2_with fail
  rw [← HW5.out]
  refine (HA'.out _ _ _ _ o35).mono ?_; rintro e w6 hop
  obtain ⟨m6', rfl, o36, hm6, g6⟩ := opRes_out hop
  have G6 := Lib.hid g6
  have HM6 := Lib.hid hm6
  have g56 : Below w2.heap.size w5 w6 := below_app o35 (by omega) g6
  have g26 : Grows w2 w6 := Below.trans g25 g56
  have hs6 := g6.size
  have ob6 := ob2.grows g26
  clear hop hm6 x0 x1 x2 x3 y0 y1 y2 xl yl ob4
  cases k1
  · have wk6 := wk2.grows g26
    have c9 := wk6.bx.c9
    have cl := wk6.bx.lt
    have cf := wk6.bx.fz
    clear g6
    go_wp2_with fail
    ((try simp only [Exit.inBlock, Exit.then]); refine bodyPost_ret (results_none rfl _ _ _) rfl ?_)
    exact ⟨rfl, ⟨A, V, ca, cv, a, v, wk6.setBad true, (fun h => by cases h), fun x _ h1 h2 => ⟨h1, h2⟩⟩, (Below.trans hb2 (Below.mono g26 (by omega))).setCell wk6.lo _, fun x hx hxb => (Below.heap_setCell _ _ _ _ hxb).trans ((g26.block x (by omega)).trans (kp2.block x hx))⟩
  · have m66 := m6.own g6 (fun g h => by have := HA3.out g h; omega)
    have m56 := m5.own g6 (fun g h => by have := HA3.out g h; omega)
    have o46 : Own w6 w2.heap.size (.slice A4 (C * C) c4') (trL C C v) := o45.other g6 (fun g h1 h2 => by have := HA3.out g h1; have := HA4.out g h2; omega)
    have e6 : m6' = a1 := HM6.out rfl
    subst e6
    clear g6
    obtain ⟨x0, x1, x2, x3⟩ := ob6.cells
    obtain ⟨y0, y1, y2⟩ := m66.cells
    go_wp2_with fail
    refine (HV'.out _ _ _ _ o46).mono ?_; rintro e w7 hop
    obtain ⟨m7', rfl, o47, hm7, g7⟩ := opRes_out hop
    have HM7 := Lib.hid hm7
    have g67 : Below w2.heap.size w6 w7 := below_app o46 (by omega) g7
    have g27 : Grows w2 w7 := Below.trans g26 g67
    have hs7 := g7.size
    clear hop hm7 x0 x1 x2 x3 y0 y1 y2
    cases k2
    · have wk7 := wk2.grows g27
      have c9 := wk7.bx.c9
      have cl := wk7.bx.lt
      have cf := wk7.bx.fz
      clear g7
      go_wp2_with fail
      ((try simp only [Exit.inBlock, Exit.then]); refine bodyPost_ret (results_none rfl _ _ _) rfl ?_)
      exact ⟨rfl, ⟨A, V, ca, cv, a, v, wk7.setBad true, (fun h => by cases h), fun x _ h1 h2 => ⟨h1, h2⟩⟩, (Below.trans hb2 (Below.mono g27 (by omega))).setCell wk7.lo _, fun x hx hxb => (Below.heap_setCell _ _ _ _ hxb).trans ((g27.block x (by omega)).trans (kp2.block x hx))⟩
    · have m67 := m66.own g7 (fun g h => by have := HA4.out g h; omega)
      have m57 := m56.own g7 (fun g h => by have := HA4.out g h; omega)
      have o37 : Own w7 w2.heap.size (.slice A3 (C * R) c3') m6' := o36.other g7 (fun g h1 h2 => by have := HA4.out g h1; have := HA3.out g h2; omega)
      have e7 : m7' = v1 := HM7.out rfl
      subst e7
      clear g7
      obtain ⟨y0, y1, y2⟩ := m57.cells
      have wk7 := wk2.grows g27
      go_wp2_with fail
      refine (CT3.out _ _ _ (by first | rfl | trivial) o37.rd').mono ?_; rintro e w8 ⟨A8, c8', rfl, o8, g8⟩
      have hs8 := Below.size g8
      have wk8 := wk7.grows g8
      have cl := wk8.bx.lt
      have cf := wk8.bx.fz
      obtain ⟨d0, d1, d2, d3, d4, d5, d6, d7, d8, d9⟩ := wk8.bx.cells
      have m68 := m67.grows g8
      have o48 := o47.grows g8
      clear y0 y1 y2
      obtain ⟨w9, hw9⟩ : ∃ w9, w9 = ((w8.setCell ⟨b, 0, none⟩ (.int .i64 R)).setCell ⟨b, 1, none⟩ (.int .i64 C)).setCell ⟨b, 2, none⟩ (.slice A8 (R * C) c8') := ⟨_, rfl⟩
      have hb2s : b < w2.heap.size := hbl
      have bx9 : WBox w9 b R C (.slice A8 (R * C) c8') (.slice U m cu) (.slice V q cv) false := by rw [hw9]; exact wk8.bx.putM _
      have m69 : MBox w9 w4.heap.size C C (.slice A4 (C * C) c4') := by rw [hw9]; exact m68.put3 (by omega) _ _ _
      have o49 : Own w9 w2.heap.size (.slice A4 (C * C) c4') m7' := by rw [hw9]; exact o48.put3 (fun g h => by have := HA4.out g h; omega) _ _ _
      have h8 : ∀ g, (Value.slice A8 (R * C) c8').ownBlock = some g → w7.heap.size ≤ g ∧ g < w8.heap.size := fun g h => World.ownsRow.lt o8 g h
      have H8 := Lib.hid h8
      have o89 : Own w9 w7.heap.size (.slice A8 (R * C) c8') (trL C R m6') := by rw [hw9]; exact o8.put3 (fun g h => by have := H8.out g h; omega) _ _ _
      have ou9 : Own w9 B (.slice U m cu) u := by rw [hw9]; exact wk8.ou.put3 wk8.ub _ _ _
      have hs9 : w9.heap.size = w8.heap.size := by rw [hw9]; simp [World.setCell]
      have hb9 : Below B w w9 := by rw [hw9]; exact (((Below.trans (Below.trans hb2 (Below.mono g27 (by omega))) (Below.mono g8 (by omega))).setCell wk8.lo _).setCell wk8.lo _).setCell wk8.lo _
      have kp9 : ∀ x, x < w.heap.size → x ≠ b → w9.heap[x]? = w.heap[x]? := fun x hx hxb => by
        rw [hw9]
        exact (Below.heap_setCell _ _ _ _ hxb).trans ((Below.heap_setCell _ _ _ _ hxb).trans ((Below.heap_setCell _ _ _ _ hxb).trans ((g8.block x (by omega)).trans ((g27.block x (by omega)).trans (kp2.block x hx)))))
      have HW9 := Lib.hid hw9
      clear hw9 h8
      obtain ⟨y0, y1, y2⟩ := m69.cells
      have hgU : ∀ g, (Value.slice U m cu).ownBlock = some g → g < w2.heap.size := fun g h => (World.ownsRow.lt wk2.ou g h).2
      have HGU := Lib.hid hgU
      have HUB := Lib.hid wk2.ub
      have hlo := wk2.lo
      clear hgU
      go_upto_region 8 with fail
      rw [← HW9.out]
      clear d0 d1 d2 d3 d4 d5 d6 d7 d8 d9
      go_wp2_with fail
      refine (CT4.out _ _ _ (by first | rfl | trivial) o49.rd').mono ?_; rintro e w10 ⟨A10, c10', rfl, o10, g10⟩
      have hs10 := Below.size g10
      have bx10 := bx9.grows g10
      have cl := bx10.lt
      have cf := bx10.fz
      obtain ⟨d0, d1, d2, d3, d4, d5, d6, d7, d8, d9⟩ := bx10.cells
      have h10 : ∀ g, (Value.slice A10 (C * C) c10').ownBlock = some g → w9.heap.size ≤ g ∧ g < w10.heap.size := fun g h => World.ownsRow.lt o10 g h
      have H10 := Lib.hid h10
      clear h10 y0 y1 y2
      go_wp2_with fail
      go_end0
      have hn := HNN.out
      have hq := HQQ.out
      subst hn hq
      refine ⟨rfl, ⟨A8, A10, c8', c10', trL C R m6', trL C C m7', ⟨bx10.putV _, ((o89.grows g10).less (by omega)).put3 (fun g h => by have := H8.out g h; omega) _ _ _, (ou9.grows g10).put3 HUB.out _ _ _, (o10.less (by omega)).put3 (fun g h => by have := H10.out g h; omega) _ _ _, fun g h => by have := H8.out g h; omega, HUB.out, fun g h => by have := H10.out g h; omega, fun g h h2 => by have := H8.out g h; have := HGU.out g h2; omega, fun g h h2 => by have := H8.out g h; have := H10.out g h2; omega, fun g h h2 => by have := HGU.out g h; have := H10.out g h2; omega, hlo⟩, fun _ => ⟨rfl, rfl⟩, fun x hx _ _ => ⟨fun e => by have := H8.out x e; omega, fun e => by have := H10.out x e; omega⟩⟩, ?_, fun x hx hxb => (Below.heap_setCell _ _ _ _ hxb).trans ((Below.heap_setCell _ _ _ _ hxb).trans ((Below.heap_setCell _ _ _ _ hxb).trans ((g10.block x (by omega)).trans (kp9 x hx hxb))))⟩
      exact (((Below.trans hb9 (Below.mono g10 (by omega))).setCell hlo _).setCell hlo _).setCell hlo _
end
end Go.Proofs.Ytpgoefdeodoacaa
