/- Contracts and lemmas, put together. -/
import Derived.Deep.DeepCutAuto
import Derived.Deep.RegionHeld3
import Derived.IntWalk
import Derived.Test.YthajmffhgbenpaaPkA
import Derived.Test.YthajmffhgbenpaaPkB
import Derived.Test.YthajmffhgbenpaaPkE
import Derived.Test.YthajmffhgbenpaaPkT
/- Contracts: a vector as a matrix of one row, of one column. -/
namespace Go.Proofs.Ythajmffhgbenpaa
set_option linter.unusedSimpArgs false
set_option linter.unusedVariables false
open Go.RowKit

section
set_option maxHeartbeats 1000000
theorem below_rb {w w2 : World} {g : Nat} {u : Value} {o1 o2 : Obj} (hu : u.ownBlock = some g) (hg : w.heap.size + 1 ≤ g) (h : ((w.alloc o1).alloc o2).grownBy w2 u.ownBlock) : Below (w.heap.size + 1) (w.alloc o1) w2 :=
  ((Below.refl _ _).alloc (by simp) _).grown h (by simp) fun k hk => by rw [hu] at hk; injection hk with hk; omega

theorem rowMatrix_c (A : Option Addr) (l : List Int) (n cap : Nat) (w : World) (hn : l.length = n) (ha : Rd w A l) (hl : n ≤ 1099511627776) :
    Calls Try.prog 83 #[.slice A n cap] w fun e w' => ∃ v, e = .returned (.agg #[.int .i64 1, .int .i64 n, v]) ∧ Own w' w.heap.size v l ∧ Grows w w' := by
  go_enter Try.func83, Try.ntmps83
  go_wp2_with (at_builtin; refine wpList_app rfl (.tmp 5) (.tmp 6) rfl _ (w.heap.size + 1) _ [] rfl ?_ A l n cap rfl hn ?_ ?_ ?_ ?_; rotate_right; (intro v2 w2 ho2 hgb _; have bb := below_rb rfl (by simp) hgb; obtain ⟨A2, c2, rfl, _, _⟩ := ho2.val; have rb : MBox w2 w.heap.size 0 0 (.slice none 0 0) := (MBox.mk_ w 0 0 (.slice none 0 0) 26).keep bb (by simp); obtain ⟨r0, r1, r2⟩ := rb.cells; have rf := rb.fz))
  · refine bodyPost_ret (v := .agg #[.int .i64 1, .int .i64 n, .slice A2 n c2]) ?_ rfl ?_
    · simp [results, Try.results83, go_sem, r0, r1, r2]
    · replace ho2 := ho2.low (p := ⟨w.heap.size, 0, none⟩) (by simp) (.int .i64 1)
      replace ho2 := ho2.low (p := ⟨w.heap.size, 1, none⟩) (by simp) (.int .i64 n)
      replace ho2 := ho2.low (p := ⟨w.heap.size, 2, none⟩) (by simp) (.slice A2 n c2)
      replace ho2 := ho2.less (Nat.le_succ _)
      rw [List.nil_append, hn] at ho2
      have b1 : Grows w w2 := Grows.trans ((Below.refl _ _).alloc (Nat.le_refl _) _) (bb.mono (by simp))
      exact ⟨_, rfl, ho2, by exact bel1 b1⟩
  · have := Own.mk_empty (w.alloc (.cells #[.int .i64 0, .int .i64 0, .slice none 0 0] 26)) (w.heap.size + 1) (by simp)
    rw [World.size_alloc] at this
    exact this
  · exact (ha.alloc _).alloc _
  · simp; omega
  · simp

theorem columnOf_c (A : Option Addr) (l : List Int) (n cap : Nat) (w : World) (hn : l.length = n) (ha : Rd w A l) (hl : n ≤ 1099511627776) :
    Calls Try.prog 79 #[.slice A n cap] w fun e w' => ∃ v, e = .returned (.agg #[.int .i64 n, .int .i64 1, v]) ∧ Own w' w.heap.size v l ∧ Grows w w' := by
  go_enter Try.func79, Try.ntmps79
  go_wp2_with (at_builtin; refine wpList_app rfl (.tmp 5) (.tmp 6) rfl _ (w.heap.size + 1) _ [] rfl ?_ A l n cap rfl hn ?_ ?_ ?_ ?_; rotate_right; (intro v2 w2 ho2 hgb _; have bb := below_rb rfl (by simp) hgb; obtain ⟨A2, c2, rfl, _, _⟩ := ho2.val; have rb : MBox w2 w.heap.size 0 0 (.slice none 0 0) := (MBox.mk_ w 0 0 (.slice none 0 0) 26).keep bb (by simp); obtain ⟨r0, r1, r2⟩ := rb.cells; have rf := rb.fz))
  · refine bodyPost_ret (v := .agg #[.int .i64 n, .int .i64 1, .slice A2 n c2]) ?_ rfl ?_
    · simp [results, Try.results79, go_sem, r0, r1, r2]
    · replace ho2 := ho2.low (p := ⟨w.heap.size, 0, none⟩) (by simp) (.int .i64 n)
      replace ho2 := ho2.low (p := ⟨w.heap.size, 1, none⟩) (by simp) (.int .i64 1)
      replace ho2 := ho2.low (p := ⟨w.heap.size, 2, none⟩) (by simp) (.slice A2 n c2)
      replace ho2 := ho2.less (Nat.le_succ _)
      rw [List.nil_append, hn] at ho2
      have b1 : Grows w w2 := Grows.trans ((Below.refl _ _).alloc (Nat.le_refl _) _) (bb.mono (by simp))
      exact ⟨_, rfl, ho2, by exact bel1 b1⟩
  · have := Own.mk_empty (w.alloc (.cells #[.int .i64 0, .int .i64 0, .slice none 0 0] 26)) (w.heap.size + 1) (by simp)
    rw [World.size_alloc] at this
    exact this
  · exact (ha.alloc _).alloc _
  · simp; omega
  · simp
end
end Go.Proofs.Ythajmffhgbenpaa

/- Contracts: a matrix without a row and a column. -/
namespace Go.Proofs.Ythajmffhgbenpaa
set_option linter.unusedSimpArgs false
set_option linter.unusedVariables false
open Go.RowKit

/-! ### plain -/
/-- the cells of a matrix of C columns that lie neither in row ri nor in column ci: of its first k cells -/
def crs (C : Nat) (l : List Int) (ri ci : Nat) : Nat → List Int
  | 0 => []
  | k + 1 => crs C l ri ci k ++ (if k / C ≠ ri ∧ k % C ≠ ci then [nth l k] else [])
theorem crs_take {C : Nat} {l : List Int} {ri ci I J : Nat} (hJ : J < C) (h1 : I ≠ ri) (h2 : J ≠ ci) : crs C l ri ci (I * C + (J + 1)) = crs C l ri ci (I * C + J) ++ [nth l (I * C + J)] := by
  rw [← Nat.add_assoc, crs, idx_div hJ, idx_mod hJ, if_pos ⟨h1, h2⟩]
theorem crs_skip {C : Nat} {l : List Int} {ri ci I J : Nat} (hJ : J < C) (h : I = ri ∨ J = ci) : crs C l ri ci (I * C + (J + 1)) = crs C l ri ci (I * C + J) := by
  rw [← Nat.add_assoc, crs, idx_div hJ, idx_mod hJ, if_neg (by omega), List.append_nil]
theorem crs_length (C : Nat) (l : List Int) (ri ci k : Nat) : (crs C l ri ci k).length ≤ k := by
  induction k with
  | zero => simp [crs]
  | succ k ih => rw [crs, List.length_append]; split <;> simp <;> omega

theorem cells4 {w : World} {b : Nat} {r c : Int} {v u : Value} {a : Addr} (h : MBox w b r c v) (h2 : w.cell? a = some u) :
    w.cell? ⟨b, 0, none⟩ = some (.int .i64 r) ∧ w.cell? ⟨b, 1, none⟩ = some (.int .i64 c) ∧ w.cell? ⟨b, 2, none⟩ = some v ∧ w.cell? a = some u := ⟨h.c0, h.c1, h.c2, h2⟩
theorem crs_keep4 {w w' : World} {B b b2 o : Nat} {r c : Int} {v x u : Value} {a : Addr} (mb : MBox w b r c v) (hc : w.cell? ⟨b2, o, none⟩ = some x) (k : Below B w w') (h1 : b < B) (h2 : b2 < B) (h3 : w'.cell? a = some u) :
    w'.cell? ⟨b, 1, none⟩ = some (.int .i64 c) ∧ w'.cell? ⟨b, 2, none⟩ = some v ∧ w'.cell? ⟨b2, o, none⟩ = some x ∧ w'.cell? a = some u :=
  ⟨(k.cell (p := ⟨b, 1, none⟩) h1).trans mb.c1, (k.cell (p := ⟨b, 2, none⟩) h1).trans mb.c2, (k.cell (p := ⟨b2, o, none⟩) h2).trans hc, h3⟩
theorem crs_keep {w w' : World} {B b b2 o : Nat} {r c : Int} {v x : Value} (mb : MBox w b r c v) (hc : w.cell? ⟨b2, o, none⟩ = some x) (k : Below B w w') (h1 : b < B) (h2 : b2 < B) :
    w'.cell? ⟨b, 1, none⟩ = some (.int .i64 c) ∧ w'.cell? ⟨b, 2, none⟩ = some v ∧ w'.cell? ⟨b2, o, none⟩ = some x :=
  ⟨(k.cell (p := ⟨b, 1, none⟩) h1).trans mb.c1, (k.cell (p := ⟨b, 2, none⟩) h1).trans mb.c2, (k.cell (p := ⟨b2, o, none⟩) h2).trans hc⟩

section
set_option maxHeartbeats 1000000
theorem iCross_c (R C : Nat) (A : Option Addr) (l : List Int) (n cap : Nat) (row col : Int) (ri ci : Nat) (w : World) (hn : l.length = n) (hrow : row = ri) (hcol : col = ci) (hlen : n = R * C) (hR : R ≤ 24) (hC : C ≤ 24) (ha : Rd w A l) :
    Calls Try.prog 127 #[.agg #[.int .i64 R, .int .i64 C, .slice A n cap], .int .i64 row, .int .i64 col] w fun e w' =>
      ∃ v, e = .returned (.agg #[.int .i64 ((R : Int) - 1), .int .i64 ((C : Int) - 1), v]) ∧ Own w' w.heap.size v (crs C l ri ci (R * C)) ∧ Grows w w' := by
  subst hrow
  subst hcol
  have HN := Lib.hid hn
  have HL := Lib.hid hlen
  have hRC : R * C ≤ 576 := Nat.mul_le_mul hR hC
  clear hn hlen
  obtain ⟨w1, hw1⟩ : ∃ w1, w1 = (w.alloc (.cells #[.int .i64 R, .int .i64 C, .slice A n cap] 26)).alloc (.cells #[.int .i64 0, .int .i64 0, .slice none 0 0] 26) := ⟨_, rfl⟩
  have mb1 : MBox w1 w.heap.size R C (.slice A n cap) := by rw [hw1]; exact (MBox.mk_ _ _ _ _ _).alloc _
  have mr1 : MBox w1 (w.heap.size + 1) 0 0 (.slice none 0 0) := by rw [hw1]; simpa using MBox.mk_ (w.alloc (.cells #[.int .i64 R, .int .i64 C, .slice A n cap] 26)) 0 0 (.slice none 0 0) 26
  have hs1 : w1.heap.size = w.heap.size + 2 := by rw [hw1]; simp
  have hg01 : Grows w w1 := by rw [hw1]; exact bel0
  have ha1 : Rd w1 A l := ha.grows hg01
  have HS1 := Lib.hid hs1
  have HW1 := Lib.hid hw1
  clear hs1 hw1
  go_enter Try.func127, Try.ntmps127
  go_wp2_with fail
  go_loopw [8] (fun i wr => ∃ (I : Nat) (v : Value), i = .int .i64 I ∧ I ≤ R ∧ Grows w1 wr ∧ MBox wr (w.heap.size + 1 + 1 + 1) ((R : Int) - 1) ((C : Int) - 1) v ∧ Own wr (w.heap.size + 2) v (crs C l ri ci (I * C)) ∧ (∀ g, v.ownBlock = some g → g ≠ w.heap.size + 3)) (fun i _ => R - (intOf i).toNat)
  case atStart => exact ⟨0, _, rfl, Nat.zero_le _, by rw [HW1.out]; exact bel0, MBox.new_ _ _ _ _ _ (by simp), by rw [Nat.zero_mul]; exact (Own.new_ _ (by simp) (by omega)).alloc _, by intro g hg; simp [Value.ownBlock] at hg; omega⟩
  case round =>
    obtain ⟨I, v, rfl, hI, hg, mo, ho, hv⟩ := hrel
    by_cases hlt : I < R
    · have mb := mb1.grows hg
      obtain ⟨b0, b1, b2⟩ := mb.cells
      go_wp2_with fail
      clear b0 b1 b2 mb
      obtain ⟨wo, rfl⟩ : ∃ wo : World, wo = wr := ⟨_, rfl⟩
      go_loopw [9] (fun j w2 => ∃ (J : Nat) (v : Value), j = .int .i64 J ∧ J ≤ C ∧ Grows w1 w2 ∧ MBox w2 (w.heap.size + 1 + 1 + 1) ((R : Int) - 1) ((C : Int) - 1) v ∧ Own w2 (w.heap.size + 2) v (crs C l ri ci (I * C + J)) ∧ (∀ g, v.ownBlock = some g → g ≠ w.heap.size + 3)) (fun j _ => C - (intOf j).toNat)
      case atStart => exact ⟨0, v, rfl, Nat.zero_le _, hg, mo, ho, hv⟩
      case round =>
        clear hg mo ho hv v
        obtain ⟨J, v, rfl, hJ, hg, mo, ho, hv⟩ := hrel
        have mb := mb1.grows hg
        by_cases hlt2 : J < C
        · by_cases hc : I ≠ ri ∧ J ≠ ci
          · obtain ⟨h1, h2⟩ := hc
            have HC := Lib.hid (crs_take (l := l) hlt2 h1 h2)
            have e1 : ((I : Int) != (ri : Int)) = true := by rw [bne_iff_ne]; omega
            have e2 : ((J : Int) != (ci : Int)) = true := by rw [bne_iff_ne]; omega
            have hd := ha1.grows hg
            have k1 := castMul I C
            have k2 : (I : Int) * (C : Int) ≤ ((1048576 : Nat) : Int) := castMulLe (by have := Nat.mul_le_mul hI hC; omega)
            have k3 := castPos I C J
            have k4 : (I : Int) * (C : Int) + (J : Int) < (l.length : Int) := castLt (by rw [HN.out, HL.out]; exact idx_lt hlt hlt2)
            have hl5 : l.length ≤ 1048576 := by rw [HN.out, HL.out]; omega
            have C1 := Lib.hid fun W (hrd : Rd W A l) => at_c R C A l n cap I J W HN.out hrd (by omega) (by omega) (by omega) (by omega) (by omega)
            have hcl : (crs C l ri ci (I * C + J)).length + 1 ≤ 1099511627776 := by have := crs_length C l ri ci (I * C + J); have := idx_lt hlt hlt2; omega
            obtain ⟨b0, b1, b2⟩ := mb.cells
            go_wp2_with fail
            clear h1 h2 k1 k2 k3 k4
            have mol := mo.lt
            obtain ⟨y0, y1, y2⟩ := mo.cells
            (refine wp_region_held_last 9 (fun W => W.cell? ⟨w.heap.size, 0, none⟩ = some (.int .i64 R) ∧ W.cell? ⟨w.heap.size, 1, none⟩ = some (.int .i64 C) ∧ W.cell? ⟨w.heap.size, 2, none⟩ = some (.slice A n cap) ∧ W.cell? ⟨w.heap.size + 1 + 1 + 1, 2, none⟩ = some v) (by rfl) (by kernel_rfl) (by kernel_rfl) (by ((try dsimp only); (refine cells4 (mb.keep (B := w.heap.size + 2) (by first | exact bel2 hb4 g3 | exact bel1 g3 | exact bel0) (by omega)) (by first | exact mo.c2 | exact (mo.alloc _).c2 | exact (mo.grows (by exact bel0)).c2)))) (fun hHeld => ?_); simp only [List.take_succ_cons, List.take_zero]; refine heldL_take (i := 0) (v := _) (by rfl) (by kernel_rfl) (by kernel_rfl) (by kernel_rfl) (fun _ _ _ h => h) (Or.inl ⟨by rfl, fun wS hSw => by ((try dsimp only at hSw); go_simp; (try with_reducible rfl))⟩) (by assumption) ?_; simp only [Act.put, List.setIfInBounds_toArray, List.set_cons_zero, List.set_cons_succ]; refine heldL_take (i := 1) (v := _) (by rfl) (by kernel_rfl) (by kernel_rfl) (by kernel_rfl) (fun _ _ _ h => h) (Or.inl ⟨by rfl, fun wS hSw => by ((try dsimp only at hSw); go_simp; (try with_reducible rfl))⟩) (by assumption) ?_; simp only [Act.put, List.setIfInBounds_toArray, List.set_cons_zero, List.set_cons_succ]; refine heldL_take (i := 2) (v := _) (by rfl) (by kernel_rfl) (by kernel_rfl) (by kernel_rfl) (fun _ _ _ h => h) (Or.inl ⟨by rfl, fun wS hSw => by ((try dsimp only at hSw); go_simp; (try with_reducible rfl))⟩) (by assumption) ?_; simp only [Act.put, List.setIfInBounds_toArray, List.set_cons_zero, List.set_cons_succ]; refine heldL_take (i := 3) (v := _) (by rfl) (by kernel_rfl) (by kernel_rfl) (by kernel_rfl) (fun _ _ _ h => h) (Or.inl ⟨by rfl, fun wS hSw => by ((try dsimp only at hSw); go_simp; (try with_reducible rfl))⟩) (by assumption) ?_; simp only [Act.put, List.setIfInBounds_toArray, List.set_cons_zero, List.set_cons_succ]; refine heldL_take (i := 4) (v := _) (by rfl) (by kernel_rfl) (by kernel_rfl) (by kernel_rfl) (fun _ _ _ h => h) (Or.inl ⟨by rfl, fun wS hSw => by ((try dsimp only at hSw); go_simp; (try with_reducible rfl))⟩) (by assumption) ?_; simp only [Act.put, List.setIfInBounds_toArray, List.set_cons_zero, List.set_cons_succ]; refine heldL_step (i := 5) (by kernel_rfl) (by rfl) (fun K hK => ?_); go_simp; (go_at_call 62; refine (C1.out _ (by exact (Rd.grows hd (by exact bel0)))).mono ?_; rintro e w3 ⟨rfl, g3⟩; have ho3 := ho.grows (w' := w3) (by exact bel1 g3); replace mo := mo.grows (w' := w3) (by exact bel1 g3); clear y0 y1 y2; obtain ⟨y0, y1, y2⟩ := mo.cells; have hz3 : w.heap.size + 1 + 1 + 1 < w3.heap.size := mo.lt) ; (try (go_wp2_with fail)); refine hK.out _ _ (by ((try dsimp only); (refine cells4 (mb.keep (B := w.heap.size + 2) (by first | exact bel2 hb4 g3 | exact bel1 g3 | exact bel0) (by omega)) (by first | exact mo.c2 | exact (mo.alloc _).c2 | exact (mo.grows (by exact bel0)).c2)))) (fun hHeld => ?_); clear hK K; (try simp only [Act.put, List.setIfInBounds_toArray, List.set_cons_zero, List.set_cons_succ]); refine heldL_step (i := 6) (by kernel_rfl) (by rfl) (fun K hK => ?_); go_simp; refine hK.out _ _ (by ((try dsimp only); (refine cells4 (mb.keep (B := w.heap.size + 2) (by first | exact bel2 hb4 g3 | exact bel1 g3 | exact bel0) (by omega)) (by first | exact mo.c2 | exact (mo.alloc _).c2 | exact (mo.grows (by exact bel0)).c2)))) (fun hHeld => ?_); clear hK K; (try simp only [Act.put, List.setIfInBounds_toArray, List.set_cons_zero, List.set_cons_succ]); refine heldL_step (i := 7) (by kernel_rfl) (by rfl) (fun K hK => ?_); (refine step_app1 rfl (.tmp 39) (.tmp 44) rfl w3 _ (w.heap.size + 2) v (crs C l ri ci (I * C + J)) (by rfl) ho3 (by rfl) hcl (by omega) ?_; intro v' w4 ho4 hg4 hv4; rw [castIdx] at ho4; have hb4 : Below (w.heap.size + 2) w3 w4 := below_app ho3 (by omega) hg4; obtain ⟨A4, c4, rfl, _, _⟩ := ho4.val; replace mo := mo.own hg4 hv; clear y0 y1 y2; obtain ⟨y0, y1, y2⟩ := mo.cells; have yf := mo.fz) ; refine hK.out _ _ (by ((try dsimp only); (refine cells4 (mb.keep (B := w.heap.size + 2) (by first | exact bel2 hb4 g3 | exact bel1 g3 | exact bel0) (by omega)) (by first | exact mo.c2 | exact (mo.alloc _).c2 | exact (mo.grows (by exact bel0)).c2)))) (fun hHeld => ?_); clear hK K; (try simp only [Act.put, List.setIfInBounds_toArray, List.set_cons_zero, List.set_cons_succ]); refine heldL_take (i := 8) (v := _) (by rfl) (by kernel_rfl) (by kernel_rfl) (by kernel_rfl) (fun _ _ _ h => h) (Or.inl ⟨by rfl, fun wS hSw => by ((try dsimp only at hSw); go_simp; (try with_reducible rfl))⟩) (by assumption) ?_; simp only [Act.put, List.setIfInBounds_toArray, List.set_cons_zero, List.set_cons_succ]; refine wpAnyH_done (by kernel_rfl) ?_ _; refine lastQ_go ?_)
            all_goals
              go_wp2_with fail
              go_round
              case rel =>
                have hne4 : ∀ g, (Value.slice A4 (crs C l ri ci (I * C + J) ++ [nth l (I * C + J)]).length c4).ownBlock = some g → g ≠ w.heap.size + 1 + 1 + 1 := by
                  intro g hg'
                  rcases hv4 with h | ⟨g', h, h'⟩
                  · exact hv g (by rw [← h]; exact hg')
                  · rw [h] at hg'; cases hg'; have hdr : wr.drew.heap.size = wr.heap.size := rfl; omega
                have ho5 := ho4.far (p := ⟨w.heap.size + 1 + 1 + 1, 2, none⟩) hne4 (.slice A4 (crs C l ri ci (I * C + J) ++ [nth l (I * C + J)]).length c4)
                have hs1 := HS1.out
                rw [← HC.out] at ho5 hne4
                exact ⟨J + 1, _, by go_num, by omega, by exact bel3 hb4 g3 hg, by simpa using mo.put2 _, by simpa [HC.out] using ho5, by simpa [HC.out] using hne4⟩
              case measure => simp [intOf]; omega
          · have HC := Lib.hid (crs_skip (l := l) hlt2 (show I = ri ∨ J = ci by omega))
            obtain ⟨b0, b1, b2⟩ := mb.cells
            by_cases h1 : I = ri
            · have e1 : ((I : Int) != (ri : Int)) = false := by rw [bne_eq_false_iff_eq]; omega
              clear h1 hc
              go_wp2_with fail
              go_round
              case rel => exact ⟨J + 1, v, by go_num, by omega, hg, mo, by rw [HC.out]; exact ho, hv⟩
              case measure => simp [intOf]; omega
            · have e1 : ((I : Int) != (ri : Int)) = true := by rw [bne_iff_ne]; omega
              have e2 : ((J : Int) != (ci : Int)) = false := by rw [bne_eq_false_iff_eq]; omega
              clear h1 hc
              go_wp2_with fail
              go_round
              case rel => exact ⟨J + 1, v, by go_num, by omega, hg, mo, by rw [HC.out]; exact ho, hv⟩
              case measure => simp [intOf]; omega
        · obtain rfl : J = C := by omega
          obtain ⟨b0, b1, b2⟩ := mb.cells
          go_wp2_with fail
          go_round
          case rel => exact ⟨I + 1, v, by go_num, by omega, hg, mo, by rw [Nat.add_mul, Nat.one_mul]; exact ho, hv⟩
          case measure => simp [intOf]; omega
    · obtain rfl : I = R := by omega
      have mb := mb1.grows hg
      have mr := mr1.grows hg
      obtain ⟨b0, b1, b2⟩ := mb.cells
      obtain ⟨c0, c1, c2⟩ := mo.cells
      obtain ⟨d0, d1, d2⟩ := mr.cells
      have df := mr.fz
      have dl := mr.lt
      obtain ⟨A4, c4, rfl, _, _⟩ := ho.val
      go_wp2_with fail
      refine bodyPost_ret (v := .agg #[.int .i64 ((I : Int) - 1), .int .i64 ((C : Int) - 1), .slice A4 (crs C l ri ci (I * C)).length c4]) ?_ rfl ?_
      · simp [results, Try.results127, go_sem, d0, d1, d2, df]
      · have hs1 := HS1.out
        exact ⟨_, rfl, by exact ownl ho, by exact bel2 hg hg01⟩

theorem sCross_c (R C : Nat) (A : Option Addr) (l : List Int) (n cap : Nat) (row col : Int) (ri ci : Nat) (w : World) (hn : l.length = n) (hrow : row = ri) (hcol : col = ci) (hlen : n = R * C) (hR : R ≤ 24) (hC : C ≤ 24) (ha : Rd w A l) :
    Calls Try.prog 135 #[.agg #[.int .i64 R, .int .i64 C, .slice A n cap], .int .i64 row, .int .i64 col] w fun e w' =>
      ∃ v, e = .returned (.agg #[.int .i64 ((R : Int) - 1), .int .i64 ((C : Int) - 1), v]) ∧ Own w' w.heap.size v (crs C l ri ci (R * C)) ∧ Grows w w' := by
  subst hrow
  subst hcol
  have HN := Lib.hid hn
  have HL := Lib.hid hlen
  have hRC : R * C ≤ 576 := Nat.mul_le_mul hR hC
  clear hn hlen
  obtain ⟨w1, hw1⟩ : ∃ w1, w1 = (w.alloc (.cells #[.int .i64 R, .int .i64 C, .slice A n cap] 26)).alloc (.cells #[.int .i64 0, .int .i64 0, .slice none 0 0] 26) := ⟨_, rfl⟩
  have mb1 : MBox w1 w.heap.size R C (.slice A n cap) := by rw [hw1]; exact (MBox.mk_ _ _ _ _ _).alloc _
  have mr1 : MBox w1 (w.heap.size + 1) 0 0 (.slice none 0 0) := by rw [hw1]; simpa using MBox.mk_ (w.alloc (.cells #[.int .i64 R, .int .i64 C, .slice A n cap] 26)) 0 0 (.slice none 0 0) 26
  have hs1 : w1.heap.size = w.heap.size + 2 := by rw [hw1]; simp
  have hg01 : Grows w w1 := by rw [hw1]; exact bel0
  have ha1 : Rd w1 A l := ha.grows hg01
  have HS1 := Lib.hid hs1
  have HW1 := Lib.hid hw1
  clear hs1 hw1
  go_enter Try.func135, Try.ntmps135
  go_wp2_with fail
  go_loopw [8] (fun i wr => ∃ (I : Nat) (v : Value), i = .int .i64 I ∧ I ≤ R ∧ Grows w1 wr ∧ MBox wr (w.heap.size + 1 + 1) ((R : Int) - 1) ((C : Int) - 1) v ∧ Own wr (w.heap.size + 2) v (crs C l ri ci (I * C)) ∧ (∀ g, v.ownBlock = some g → g ≠ w.heap.size + 1 + 1)) (fun i _ => R - (intOf i).toNat)
  case atStart => exact ⟨0, _, rfl, Nat.zero_le _, by rw [HW1.out]; exact bel0, MBox.new_ _ _ _ _ _ (by simp), by rw [Nat.zero_mul]; exact Own.nil _ _, by intro g hg; simp [Value.ownBlock] at hg⟩
  case round =>
    obtain ⟨I, v, rfl, hI, hg, mo, ho, hv⟩ := hrel
    by_cases hlt : I < R
    · have mb := mb1.grows hg
      obtain ⟨b0, b1, b2⟩ := mb.cells
      go_wp2_with fail
      clear b0 b1 b2 mb
      obtain ⟨wo, rfl⟩ : ∃ wo : World, wo = wr := ⟨_, rfl⟩
      go_loopw [9] (fun j w2 => ∃ (J : Nat) (v : Value), j = .int .i64 J ∧ J ≤ C ∧ Grows w1 w2 ∧ MBox w2 (w.heap.size + 1 + 1) ((R : Int) - 1) ((C : Int) - 1) v ∧ Own w2 (w.heap.size + 2) v (crs C l ri ci (I * C + J)) ∧ (∀ g, v.ownBlock = some g → g ≠ w.heap.size + 1 + 1)) (fun j _ => C - (intOf j).toNat)
      case atStart => exact ⟨0, v, rfl, Nat.zero_le _, hg, mo, ho, hv⟩
      case round =>
        clear hg mo ho hv v
        obtain ⟨J, v, rfl, hJ, hg, mo, ho, hv⟩ := hrel
        have mb := mb1.grows hg
        by_cases hlt2 : J < C
        · by_cases hc : I ≠ ri ∧ J ≠ ci
          · obtain ⟨h1, h2⟩ := hc
            have HC := Lib.hid (crs_take (l := l) hlt2 h1 h2)
            have e1 : ((I : Int) != (ri : Int)) = true := by rw [bne_iff_ne]; omega
            have e2 : ((J : Int) != (ci : Int)) = true := by rw [bne_iff_ne]; omega
            have hd := ha1.grows hg
            have k1 := castMul I C
            have k2 : (I : Int) * (C : Int) ≤ ((1048576 : Nat) : Int) := castMulLe (by have := Nat.mul_le_mul hI hC; omega)
            have k3 := castPos I C J
            have k4 : (I : Int) * (C : Int) + (J : Int) < (l.length : Int) := castLt (by rw [HN.out, HL.out]; exact idx_lt hlt hlt2)
            have hl5 : l.length ≤ 1048576 := by rw [HN.out, HL.out]; omega
            have hcl : (crs C l ri ci (I * C + J)).length + 1 ≤ 1099511627776 := by have := crs_length C l ri ci (I * C + J); have := idx_lt hlt hlt2; omega
            have hb3 : w.heap.size + 1 + 1 < wr.heap.size := mo.lt
            obtain ⟨b0, b1, b2⟩ := mb.cells
            obtain ⟨y0, y1, y2⟩ := mo.cells
            obtain ⟨b, off, rfl, hbs, hce⟩ := ha.at_ (I * C + J) (by rw [HN.out, HL.out]; exact idx_lt hlt hlt2)
            have hcell := ((ha.grows (Grows.trans hg01 hg)) (I * C + J) (by rw [HN.out, HL.out]; exact idx_lt hlt hlt2))
            obtain ⟨b', off', e', hbs', hc'⟩ := hcell
            simp only [Option.some.injEq, Addr.mk.injEq, and_true] at e'
            obtain ⟨rfl, rfl⟩ := e'
            have hlI : (l.length : Int) = (n : Int) := by rw [HN.out]
            rw [hlI] at k4
            clear hlI
            have q1 : ((I : Int) * (C : Int) + (J : Int)).toNat = I * C + J := castIdx I C J
            have q2 : IntKind.i64.wrap ((I : Int) * (C : Int)) = (I : Int) * (C : Int) := IntWalk.i64_in _ (by omega)
            have q3 : IntKind.i64.wrap ((I : Int) * (C : Int) + (J : Int)) = (I : Int) * (C : Int) + (J : Int) := IntWalk.i64_in _ (by omega)
            go_wp2_with fail
            clear h1 h2 hce
            (refine wp_region_held_last 15 (fun W => W.cell? ⟨w.heap.size, 1, none⟩ = some (.int .i64 C) ∧ W.cell? ⟨w.heap.size, 2, none⟩ = some (.slice (some ⟨b, off, none⟩) n cap) ∧ W.cell? ⟨b, off + (I * C + J), none⟩ = some (.int .i64 (nth l (I * C + J))) ∧ W.cell? ⟨w.heap.size + 1 + 1, 2, none⟩ = some v) (by rfl) (by kernel_rfl) (by kernel_rfl) (by ((try dsimp only); (refine crs_keep4 mb hc' (B := w.heap.size + 2) (by first | exact bel1 hb4 | exact bel0) (by omega) (by omega) (by first | exact mo.c2 | exact (mo.alloc _).c2 | exact (mo.grows (by exact bel0)).c2 | exact ((mo.grows (w' := wr.drew) (by exact bel0)).alloc _).c2)))) (fun hHeld => ?_); simp only [List.take_succ_cons, List.take_zero]; refine heldL_take (i := 0) (v := _) (by rfl) (by kernel_rfl) (by kernel_rfl) (by kernel_rfl) (fun _ _ _ h => h) (Or.inl ⟨by rfl, fun wS hSw => by ((try dsimp only at hSw); go_simp; (try with_reducible rfl))⟩) (by assumption) ?_; simp only [Act.put, List.setIfInBounds_toArray, List.set_cons_zero, List.set_cons_succ]; refine heldL_take (i := 1) (v := _) (by rfl) (by kernel_rfl) (by kernel_rfl) (by kernel_rfl) (fun _ _ _ h => h) (Or.inl ⟨by rfl, fun wS hSw => by ((try dsimp only at hSw); go_simp; (try with_reducible rfl))⟩) (by assumption) ?_; simp only [Act.put, List.setIfInBounds_toArray, List.set_cons_zero, List.set_cons_succ]; refine heldL_take (i := 2) (v := _) (by rfl) (by kernel_rfl) (by kernel_rfl) (by kernel_rfl) (fun _ _ _ h => h) (Or.inl ⟨by rfl, fun wS hSw => by ((try dsimp only at hSw); go_simp; (try with_reducible rfl))⟩) (by assumption) ?_; simp only [Act.put, List.setIfInBounds_toArray, List.set_cons_zero, List.set_cons_succ]; refine heldL_take (i := 3) (v := _) (by rfl) (by kernel_rfl) (by kernel_rfl) (by kernel_rfl) (fun _ _ _ h => h) (Or.inl ⟨by rfl, fun wS hSw => by ((try dsimp only at hSw); go_simp; (try with_reducible rfl))⟩) (by assumption) ?_; simp only [Act.put, List.setIfInBounds_toArray, List.set_cons_zero, List.set_cons_succ]; refine heldL_take (i := 4) (v := _) (by rfl) (by kernel_rfl) (by kernel_rfl) (by kernel_rfl) (fun _ _ _ h => h) (Or.inl ⟨by rfl, fun wS hSw => by ((try dsimp only at hSw); go_simp; (try with_reducible rfl))⟩) (by assumption) ?_; simp only [Act.put, List.setIfInBounds_toArray, List.set_cons_zero, List.set_cons_succ]; refine heldL_take (i := 5) (v := _) (by rfl) (by kernel_rfl) (by kernel_rfl) (by kernel_rfl) (fun _ _ _ h => h) (Or.inl ⟨by rfl, fun wS hSw => by ((try dsimp only at hSw); go_simp; (try with_reducible rfl))⟩) (by assumption) ?_; simp only [Act.put, List.setIfInBounds_toArray, List.set_cons_zero, List.set_cons_succ]; refine heldL_take (i := 6) (v := _) (by rfl) (by kernel_rfl) (by kernel_rfl) (by kernel_rfl) (fun _ _ _ h => h) (Or.inl ⟨by rfl, fun wS hSw => by ((try dsimp only at hSw); go_simp; (try with_reducible rfl))⟩) (by assumption) ?_; simp only [Act.put, List.setIfInBounds_toArray, List.set_cons_zero, List.set_cons_succ]; refine heldL_take (i := 7) (v := _) (by rfl) (by kernel_rfl) (by kernel_rfl) (by kernel_rfl) (fun _ _ _ h => h) (Or.inl ⟨by rfl, fun wS hSw => by ((try dsimp only at hSw); go_simp; (try with_reducible rfl))⟩) (by assumption) ?_; simp only [Act.put, List.setIfInBounds_toArray, List.set_cons_zero, List.set_cons_succ]; refine heldL_take (i := 8) (v := _) (by rfl) (by kernel_rfl) (by kernel_rfl) (by kernel_rfl) (fun _ _ _ h => h) (Or.inl ⟨by rfl, fun wS hSw => by ((try dsimp only at hSw); go_simp; (try with_reducible rfl))⟩) (by assumption) ?_; simp only [Act.put, List.setIfInBounds_toArray, List.set_cons_zero, List.set_cons_succ]; refine heldL_take (i := 9) (v := _) (by rfl) (by kernel_rfl) (by kernel_rfl) (by kernel_rfl) (fun _ _ _ h => h) (Or.inl ⟨by rfl, fun wS hSw => by ((try dsimp only at hSw); go_simp; (try with_reducible rfl))⟩) (by assumption) ?_; simp only [Act.put, List.setIfInBounds_toArray, List.set_cons_zero, List.set_cons_succ]; refine heldL_take (i := 10) (v := _) (by rfl) (by kernel_rfl) (by kernel_rfl) (by kernel_rfl) (fun _ _ _ h => h) (Or.inl ⟨by rfl, fun wS hSw => by ((try dsimp only at hSw); go_simp; (try with_reducible rfl))⟩) (by assumption) ?_; simp only [Act.put, List.setIfInBounds_toArray, List.set_cons_zero, List.set_cons_succ]; refine heldL_take (i := 11) (v := _) (by rfl) (by kernel_rfl) (by kernel_rfl) (by kernel_rfl) (fun _ _ _ h => h) (Or.inl ⟨by rfl, fun wS hSw => by ((try dsimp only at hSw); go_simp; (try with_reducible rfl))⟩) (by assumption) ?_; simp only [Act.put, List.setIfInBounds_toArray, List.set_cons_zero, List.set_cons_succ]; refine heldL_step (i := 12) (by kernel_rfl) (by rfl) (fun K hK => ?_); go_simp; refine hK.out _ _ (by ((try dsimp only); (refine crs_keep4 mb hc' (B := w.heap.size + 2) (by first | exact bel1 hb4 | exact bel0) (by omega) (by omega) (by first | exact mo.c2 | exact (mo.alloc _).c2 | exact (mo.grows (by exact bel0)).c2 | exact ((mo.grows (w' := wr.drew) (by exact bel0)).alloc _).c2)))) (fun hHeld => ?_); clear hK K; (try simp only [Act.put, List.setIfInBounds_toArray, List.set_cons_zero, List.set_cons_succ]); refine heldL_step (i := 13) (by kernel_rfl) (by rfl) (fun K hK => ?_); (refine step_app1 rfl (.tmp 38) (.tmp 49) rfl _ _ (w.heap.size + 2) v (crs C l ri ci (I * C + J)) (by rfl) (ho.drew) (by rfl) hcl (by first | omega | (simp; omega)) ?_; intro v' w4 ho4 hg4 hv4; have hb4 : Below (w.heap.size + 2) wr.drew w4 := below_app ho.drew (by simp; omega) hg4; obtain ⟨A4, c4, rfl, _, _⟩ := ho4.val; replace mo := MBox.own (w := wr.drew) (mo.grows (w' := wr.drew) (by exact bel0)) hg4 hv; clear y0 y1 y2; obtain ⟨y0, y1, y2⟩ := mo.cells; have yf := mo.fz) ; refine hK.out _ _ (by ((try dsimp only); (refine crs_keep4 mb hc' (B := w.heap.size + 2) (by first | exact bel1 hb4 | exact bel0) (by omega) (by omega) (by first | exact mo.c2 | exact (mo.alloc _).c2 | exact (mo.grows (by exact bel0)).c2 | exact ((mo.grows (w' := wr.drew) (by exact bel0)).alloc _).c2)))) (fun hHeld => ?_); clear hK K; (try simp only [Act.put, List.setIfInBounds_toArray, List.set_cons_zero, List.set_cons_succ]); refine heldL_take (i := 14) (v := _) (by rfl) (by kernel_rfl) (by kernel_rfl) (by kernel_rfl) (fun _ _ _ h => h) (Or.inl ⟨by rfl, fun wS hSw => by ((try dsimp only at hSw); go_simp; (try with_reducible rfl))⟩) (by assumption) ?_; simp only [Act.put, List.setIfInBounds_toArray, List.set_cons_zero, List.set_cons_succ]; refine wpAnyH_done (by kernel_rfl) ?_ _; refine lastQ_go ?_)
            all_goals
              go_wp2_with fail
              go_round
              case rel =>
                have hne4 : ∀ g, (Value.slice A4 (crs C l ri ci (I * C + J) ++ [nth l (I * C + J)]).length c4).ownBlock = some g → g ≠ w.heap.size + 1 + 1 := by
                  intro g hg'
                  rcases hv4 with h | ⟨g', h, h'⟩
                  · exact hv g (by rw [← h]; exact hg')
                  · rw [h] at hg'; cases hg'; have hdr : wr.drew.heap.size = wr.heap.size := rfl; omega
                have ho5 := ho4.far (p := ⟨w.heap.size + 1 + 1, 2, none⟩) hne4 (.slice A4 (crs C l ri ci (I * C + J) ++ [nth l (I * C + J)]).length c4)
                have hs1 := HS1.out
                rw [← HC.out] at ho5 hne4
                exact ⟨J + 1, _, by go_num, by omega, by exact bel2 hb4 hg, by simpa using mo.put2 _, by simpa [HC.out] using ho5, by simpa [HC.out] using hne4⟩
              case measure => simp [intOf]; omega
          · have HC := Lib.hid (crs_skip (l := l) hlt2 (show I = ri ∨ J = ci by omega))
            obtain ⟨b0, b1, b2⟩ := mb.cells
            by_cases h1 : I = ri
            · have e1 : ((I : Int) != (ri : Int)) = false := by rw [bne_eq_false_iff_eq]; omega
              clear h1 hc
              go_wp2_with fail
              go_round
              case rel => exact ⟨J + 1, v, by go_num, by omega, hg, mo, by rw [HC.out]; exact ho, hv⟩
              case measure => simp [intOf]; omega
            · have e1 : ((I : Int) != (ri : Int)) = true := by rw [bne_iff_ne]; omega
              have e2 : ((J : Int) != (ci : Int)) = false := by rw [bne_eq_false_iff_eq]; omega
              clear h1 hc
              go_wp2_with fail
              go_round
              case rel => exact ⟨J + 1, v, by go_num, by omega, hg, mo, by rw [HC.out]; exact ho, hv⟩
              case measure => simp [intOf]; omega
        · obtain rfl : J = C := by omega
          obtain ⟨b0, b1, b2⟩ := mb.cells
          go_wp2_with fail
          go_round
          case rel => exact ⟨I + 1, v, by go_num, by omega, hg, mo, by rw [Nat.add_mul, Nat.one_mul]; exact ho, hv⟩
          case measure => simp [intOf]; omega
    · obtain rfl : I = R := by omega
      have mb := mb1.grows hg
      have mr := mr1.grows hg
      obtain ⟨b0, b1, b2⟩ := mb.cells
      obtain ⟨c0, c1, c2⟩ := mo.cells
      obtain ⟨d0, d1, d2⟩ := mr.cells
      have df := mr.fz
      have dl := mr.lt
      obtain ⟨A4, c4, rfl, _, _⟩ := ho.val
      go_wp2_with fail
      refine bodyPost_ret (v := .agg #[.int .i64 ((I : Int) - 1), .int .i64 ((C : Int) - 1), .slice A4 (crs C l ri ci (I * C)).length c4]) ?_ rfl ?_
      · simp [results, Try.results135, go_sem, d0, d1, d2, df]
      · have hs1 := HS1.out
        exact ⟨_, rfl, by exact ownl ho, by exact bel2 hg hg01⟩
end
end Go.Proofs.Ythajmffhgbenpaa

/- Contracts: determinants by expansion. -/
namespace Go.Proofs.Ythajmffhgbenpaa
set_option linter.unusedSimpArgs false
set_option linter.unusedVariables false
open Go.RowKit

/-! ### plain -/
def numO (x : Int) : Option Int := if isNum x then some x else none
theorem numO_some {x y : Int} (h : numO x = some y) : x = y ∧ isNum y = true := by
  unfold numO at h
  split at h
  · cases h; exact ⟨rfl, by assumption⟩
  · cases h
def sgn (j : Nat) : Int := if j % 2 = 1 then -1 else 1
/-- the first j summands of an expansion along the first row -/
def dpart (D : List Int → Option Int) (C : Nat) (l : List Int) : Nat → Option Int
  | 0 => some 0
  | j + 1 => (dpart D C l j).bind fun s => if nth l j = 0 then some s else (D (crs C l 0 j (C * C))).map fun d => s + sgn j * nth l j * d
/-- the determinant of a square of n rows, where it and what it needs fit -/
def detO : Nat → List Int → Option Int
  | 0, _ => some 1
  | n + 1, l => (dpart (detO n) (n + 1) l (n + 1)).bind numO
theorem detO_num {n : Nat} {l : List Int} {d : Int} (h : detO n l = some d) : isNum d = true := by
  cases n with
  | zero => cases h; rfl
  | succ n =>
    rw [detO] at h
    obtain ⟨s, _, hs⟩ := Option.bind_eq_some_iff.1 h
    exact (numO_some hs).2
theorem dpart_none {D : List Int → Option Int} {C : Nat} {l : List Int} {j k : Nat} (h : dpart D C l j = none) (hk : j ≤ k) : dpart D C l k = none := by
  induction k with
  | zero => rw [show j = 0 by omega] at h; exact h
  | succ k ih =>
    by_cases e : j = k + 1
    · rw [← e]; exact h
    · rw [dpart, ih (by omega)]; rfl
theorem dpart_zero {D : List Int → Option Int} {C : Nat} {l : List Int} {j : Nat} {s : Int} (h : dpart D C l j = some s) (hz : nth l j = 0) : dpart D C l (j + 1) = some s := by
  rw [dpart, h]; simp [hz]
theorem dpart_fail {D : List Int → Option Int} {C : Nat} {l : List Int} {j : Nat} {s : Int} (h : dpart D C l j = some s) (hz : nth l j ≠ 0) (hd : D (crs C l 0 j (C * C)) = none) : dpart D C l (j + 1) = none := by
  rw [dpart, h]; simp [hz, hd]
theorem dpart_some {D : List Int → Option Int} {C : Nat} {l : List Int} {j : Nat} {s d : Int} (h : dpart D C l j = some s) (hz : nth l j ≠ 0) (hd : D (crs C l 0 j (C * C)) = some d) : dpart D C l (j + 1) = some (s + sgn j * nth l j * d) := by
  rw [dpart, h]; simp [hz, hd]
theorem sgn_odd {j : Nat} (h : j % 2 = 1) : sgn j = -1 := by unfold sgn; rw [if_pos h]
theorem sgn_even {j : Nat} (h : ¬ j % 2 = 1) : sgn j = 1 := by unfold sgn; rw [if_neg h]
theorem sgn_succ (j : Nat) : sgn (j + 1) = -sgn j := by
  unfold sgn; split <;> split <;> first | rfl | omega
theorem neg_num {x : Int} (h : isNum x = true) : isNum (-x) = true := by rw [isNum_iff] at *; omega
theorem sgn_mul (j : Nat) (x d : Int) (hx : isNum x = true) (hd : isNum d = true) : -160000000000000000 ≤ sgn j * x * d ∧ sgn j * x * d ≤ 160000000000000000 := by
  unfold sgn
  split
  · rw [Int.neg_one_mul]; exact mul_bd (neg_num hx) hd
  · rw [Int.one_mul]; exact mul_bd hx hd
theorem dpart_bd {D : List Int → Option Int} {C : Nat} {l : List Int} (hD : ∀ m d, D m = some d → isNum d = true) (hl : ∀ i, i < l.length → isNum (nth l i) = true) {j : Nat} (hj : j ≤ l.length) {s : Int} (h : dpart D C l j = some s) :
    -(160000000000000000 * (j : Int)) ≤ s ∧ s ≤ 160000000000000000 * (j : Int) := by
  induction j generalizing s with
  | zero => cases h; simp
  | succ j ih =>
    rw [dpart] at h
    obtain ⟨s', h1, h2⟩ := Option.bind_eq_some_iff.1 h
    have := ih (by omega) h1
    split at h2
    · cases h2; omega
    · obtain ⟨d, h3, rfl⟩ := Option.map_eq_some_iff.1 h2
      have := sgn_mul j (nth l j) d (hl j (by omega)) (hD _ _ h3)
      omega

theorem crs_len_row {C : Nat} {l : List Int} {ri ci I : Nat} (J : Nat) (hJ : J ≤ C) : (crs C l ri ci (I * C + J)).length = (crs C l ri ci (I * C)).length + (if I = ri then 0 else if ci < J then J - 1 else J) := by
  induction J with
  | zero => simp
  | succ J ih =>
    by_cases h : I ≠ ri ∧ J ≠ ci
    · rw [crs_take (by omega) h.1 h.2, List.length_append, ih (by omega), if_neg h.1, if_neg h.1]
      have := h.2
      simp only [List.length_singleton]
      split <;> split <;> omega
    · rw [crs_skip (by omega) (by omega), ih (by omega)]
      by_cases e : I = ri
      · rw [if_pos e, if_pos e]
      · rw [if_neg e, if_neg e]
        have : J = ci := by omega
        subst this
        simp
theorem crs_len {C : Nat} {l : List Int} {ri ci : Nat} (hci : ci < C) (I : Nat) : (crs C l ri ci (I * C)).length = (if ri < I then I - 1 else I) * (C - 1) := by
  induction I with
  | zero => simp [crs]
  | succ I ih =>
    have := crs_len_row (C := C) (l := l) (ri := ri) (ci := ci) (I := I) C (Nat.le_refl _)
    rw [show (I + 1) * C = I * C + C by rw [Nat.add_mul, Nat.one_mul], this, ih]
    by_cases e : I = ri
    · subst e
      rw [if_pos rfl, if_neg (by omega), if_pos (by omega)]
      simp
    · rw [if_neg e, if_pos hci]
      by_cases h : ri < I
      · rw [if_pos h, if_pos (by omega)]
        rw [show I + 1 - 1 = (I - 1) + 1 by omega, Nat.add_mul, Nat.one_mul]
      · rw [if_neg h, if_neg (by omega), Nat.add_mul, Nat.one_mul]
theorem crs_length_eq {R C : Nat} {l : List Int} {ri ci : Nat} (hri : ri < R) (hci : ci < C) : (crs C l ri ci (R * C)).length = (R - 1) * (C - 1) := by
  rw [crs_len hci, if_pos hri]
theorem crs_mem {C : Nat} {l : List Int} {ri ci k : Nat} {x : Int} (h : x ∈ crs C l ri ci k) : ∃ i, i < k ∧ x = nth l i := by
  induction k with
  | zero => simp [crs] at h
  | succ k ih =>
    rw [crs, List.mem_append] at h
    rcases h with h | h
    · obtain ⟨i, hi, e⟩ := ih h; exact ⟨i, by omega, e⟩
    · split at h
      · exact ⟨k, by omega, by simpa using h⟩
      · simp at h
theorem crs_num {C : Nat} {l : List Int} {ri ci k : Nat} (hk : k ≤ l.length) (hl : ∀ i, i < l.length → isNum (nth l i) = true) (i : Nat) (hi : i < (crs C l ri ci k).length) : isNum (nth (crs C l ri ci k) i) = true := by
  rw [nth_get _ _ hi]
  obtain ⟨j, hj, e⟩ := crs_mem (List.getElem_mem hi)
  rw [e]; exact hl j (by omega)

/-- the end of a function that finds a determinant -/
def DetPost (d : Option Int) (e : Ending) : Prop := ∃ x, e = .returned (.tuple #[.int .i64 x, .bool d.isSome]) ∧ ∀ y, d = some y → x = y
def oBad (d : Option Int) : Int := d.getD bad
theorem oBad_num {n : Nat} {l : List Int} : oBad (detO n l) = bad ∨ isNum (oBad (detO n l)) = true := by
  cases h : detO n l with
  | none => exact .inl rfl
  | some d => exact .inr (detO_num h)

section
set_option maxHeartbeats 1000000
theorem iDet_step (n N : Nat) (hN : N = n + 1) (hN2 : N ≤ 24)
    (ih : ∀ (l : List Int) (A : Option Addr) (m cap : Nat) (r : Int) (w : World), r = n → l.length = m → m = n * n → (∀ i, i < l.length → isNum (nth l i) = true) → Rd w A l →
      Calls Try.prog 126 #[.agg #[.int .i64 r, .int .i64 r, .slice A m cap]] w fun e w' => DetPost (detO n l) e ∧ Grows w w')
    (l : List Int) (A : Option Addr) (m cap : Nat) (w : World) (hm : l.length = m) (hmn : m = N * N) (hl : ∀ i, i < l.length → isNum (nth l i) = true) (ha : Rd w A l) :
    Calls Try.prog 126 #[.agg #[.int .i64 N, .int .i64 N, .slice A m cap]] w fun e w' => DetPost (detO N l) e ∧ Grows w w' := by
  have IH := Lib.hid ih
  have HN := Lib.hid hN
  have HM := Lib.hid hm
  have HMN := Lib.hid hmn
  have HL := Lib.hid hl
  have hNN : N * N ≤ 576 := Nat.mul_le_mul hN2 hN2
  have hNl : N ≤ l.length := by rw [hm, hmn]; exact Nat.le_mul_of_pos_left _ (by omega)
  have hl5 : l.length ≤ 576 := by rw [hm, hmn]; exact hNN
  have HB := Lib.hid fun (j : Nat) (s : Int) (hj : j ≤ l.length) (h : dpart (detO n) N l j = some s) => dpart_bd (fun m d h => detO_num h) hl hj h
  have HD := Lib.hid (show detO N l = (dpart (detO n) N l N).bind numO by rw [hN]; rfl)
  have e0 : ((N : Int) == 0) = false := by rw [beq_eq_false_iff_ne]; omega
  clear ih hN hm hmn hl
  obtain ⟨w1, hw1⟩ : ∃ w1, w1 = w.alloc (.cells #[.int .i64 N, .int .i64 N, .slice A m cap] 26) := ⟨_, rfl⟩
  have mb1 : MBox w1 w.heap.size N N (.slice A m cap) := by rw [hw1]; exact MBox.mk_ _ _ _ _ _
  have hg01 : Grows w w1 := by rw [hw1]; exact bel0
  have ha1 : Rd w1 A l := ha.grows hg01
  have HW1 := Lib.hid hw1
  clear hw1
  go_enter Try.func126, Try.ntmps126
  go_wp2_with fail
  go_loopw [4, 5] (fun s j wr => ∃ (J : Nat) (S : Int), j = .int .i64 J ∧ s = .int .i64 S ∧ J ≤ N ∧ dpart (detO n) N l J = some S ∧ Grows w1 wr) (fun _ j _ => N - (intOf j).toNat)
  case atStart => exact ⟨0, 0, rfl, rfl, Nat.zero_le _, rfl, by rw [HW1.out]; exact bel0⟩
  case round =>
    obtain ⟨J, S, rfl, rfl, hJ, hS, hg⟩ := hrel
    have HS := Lib.hid hS
    clear hS
    have mb := mb1.grows hg
    obtain ⟨b0, b1, b2⟩ := mb.cells
    by_cases hlt : J < N
    · have C0 := fun W (hrd : Rd W A l) => at_c N N A l m cap 0 J W HM.out hrd (by omega) (by omega) (by omega) (by omega) (by omega)
      rw [show (0 * (N : Int) + (J : Int)).toNat = J by simp] at C0
      have C0' := Lib.hid C0
      clear C0
      have hd := ha1.grows hg
      by_cases hz : nth l J = 0
      · have HZ := Lib.hid hz
        have hz' : (nth l J == 0) = true := by simpa using hz
        clear hz
        go_wp2_with fail
        refine (C0'.out _ (by exact (Rd.grows hd (by exact bel0)))).mono ?_; rintro e w2 ⟨rfl, g2⟩
        go_wp2_with fail
        go_round
        case rel => exact ⟨J + 1, S, by go_num, rfl, by omega, dpart_zero HS.out HZ.out, by exact bel2 g2 hg⟩
        case measure => simp [intOf]; omega
      · have HZ := Lib.hid hz
        have hz' : (nth l J == 0) = false := by simpa using hz
        have hx := (isNum_iff _).1 (HL.out J (by omega))
        clear hz
        have CC := Lib.hid fun W (hrd : Rd W A l) => iCross_c N N A l m cap 0 J 0 J W HM.out rfl rfl HMN.out hN2 hN2 hrd
        have cl : (crs N l 0 J (N * N)).length = n * n := by rw [crs_length_eq (by omega) hlt, HN.out]; rfl
        have cn := crs_num (C := N) (l := l) (ri := 0) (ci := J) (k := N * N) (by rw [HM.out, HMN.out]; exact Nat.le_refl _) HL.out
        have II := Lib.hid fun W A' c' (hrd : Rd W A' (crs N l 0 J (N * N))) => IH.out (crs N l 0 J (N * N)) A' _ c' ((N : Int) - 1) W (by have := HN.out; omega) rfl cl cn hrd
        clear cl cn
        have F0 := Lib.hid fun h => dpart_fail (D := detO n) (C := N) (l := l) HS.out HZ.out h
        have F1 := Lib.hid fun d h => dpart_some (D := detO n) (C := N) (l := l) (d := d) HS.out HZ.out h
        have NN := Lib.hid fun d h => detO_num (n := n) (l := crs N l 0 J (N * N)) (d := d) h
        generalize crs N l 0 J (N * N) = t at *
        generalize hdd : detO n t = D at *
        go_wp2_with fail
        refine (C0'.out _ (by exact (Rd.grows hd (by exact bel0)))).mono ?_; rintro e w2 ⟨rfl, g2⟩
        clear b0 b1 b2
        obtain ⟨b0, b1, b2⟩ := (mb.grows g2).cells
        go_wp2_with fail
        refine (CC.out _ (by exact (Rd.grows hd (by exact bel1 g2)))).mono ?_; rintro e w3 ⟨v3, rfl, ho3, g3⟩
        obtain ⟨A3, c3, rfl, hr3, _⟩ := ho3.val
        go_wp2_with fail
        refine (II.out _ _ _ (by exact (Rd.grows hr3 (by exact bel0)))).mono ?_; rintro e w4 ⟨⟨x, rfl, hx4⟩, g4⟩
        clear ho3 b0 b1 b2
        cases D with
        | none =>
          clear hx4
          have FD := Lib.hid (show detO N l = none by rw [HD.out, dpart_none (F0.out rfl) (show J + 1 ≤ N by omega)]; rfl)
          go_wp2_with fail
          go_ret2
          exact ⟨⟨0, by rw [FD.out]; rfl, fun y h => by rw [FD.out] at h; cases h⟩, by exact bel5 g4 g3 g2 hg hg01⟩
        | some d =>
          obtain rfl : x = d := hx4 d rfl
          have hd4 := (isNum_iff _).1 (NN.out x rfl)
          have hsb := HB.out J S (by omega) HS.out
          have hm1 := mul_bd (HL.out J (by omega)) (NN.out x rfl)
          have hm2 := mul_bd (neg_num (HL.out J (by omega))) (NN.out x rfl)
          have F := Lib.hid (F1.out x rfl)
          have HDD := Lib.hid hdd
          clear hx4 hdd
          by_cases hp : J % 2 = 1
          · have hp1 : ((J : Int) % 2 == 1) = true := by rw [beq_iff_eq]; omega
            have HP := Lib.hid (sgn_odd hp)
            clear hp
            go_wp2_with fail
            go_round
            case rel => exact ⟨J + 1, _, by go_num, rfl, by omega, by rw [F.out, HP.out, Int.neg_one_mul], by exact bel4 g4 g3 g2 hg⟩
            case measure => simp [intOf]; omega
          · have hp1 : ((J : Int) % 2 == 1) = false := by rw [beq_eq_false_iff_ne]; omega
            have HP := Lib.hid (sgn_even hp)
            clear hp
            go_wp2_with fail
            go_round
            case rel => exact ⟨J + 1, _, by go_num, rfl, by omega, by rw [F.out, HP.out, Int.one_mul], by exact bel4 g4 g3 g2 hg⟩
            case measure => simp [intOf]; omega
    · obtain rfl : J = N := by omega
      have NS := Lib.hid fun W => iIsNumber_c S W
      go_wp2_with (go_at_call 33; refine (NS.out _).mono ?_; rintro e w' ⟨rfl, rfl⟩)
      go_ret2
      refine ⟨⟨S, ?_, ?_⟩, by exact bel2 hg hg01⟩
      · rw [HD.out, HS.out]; show _ = Ending.returned (.tuple #[.int .i64 S, .bool (numO S).isSome]); unfold numO; cases isNum S <;> rfl
      · intro y h; rw [HD.out, HS.out] at h; exact (numO_some h).1
theorem iDet_c (n : Nat) (hn2 : n ≤ 24) : ∀ (l : List Int) (A : Option Addr) (m cap : Nat) (r : Int) (w : World), r = n → l.length = m → m = n * n → (∀ i, i < l.length → isNum (nth l i) = true) → Rd w A l →
      Calls Try.prog 126 #[.agg #[.int .i64 r, .int .i64 r, .slice A m cap]] w fun e w' => DetPost (detO n l) e ∧ Grows w w' := by
  induction n with
  | zero =>
    intro l A m cap r w hr hm hmn hl ha
    obtain rfl : r = 0 := by simpa using hr
    clear hr hm hmn hl
    go_enter Try.func126, Try.ntmps126
    go_wp2_with fail
    go_ret2
    exact ⟨⟨1, rfl, fun y h => by cases h; rfl⟩, by exact bel0⟩
  | succ n ih =>
    intro l A m cap r w hr hm hmn hl ha
    subst hr
    exact iDet_step n (n + 1) rfl hn2 (ih (by omega)) l A m cap w hm hmn hl ha

theorem sDet_step (n N : Nat) (hN : N = n + 1) (hN2 : N ≤ 24)
    (ih : ∀ (l : List Int) (A : Option Addr) (m cap : Nat) (r : Int) (w : World), r = n → l.length = m → m = n * n → (∀ i, i < l.length → isNum (nth l i) = true) → Rd w A l →
      Calls Try.prog 134 #[.agg #[.int .i64 r, .int .i64 r, .slice A m cap]] w fun e w' => e = .returned (.int .i64 (oBad (detO n l))) ∧ Grows w w')
    (l : List Int) (A : Option Addr) (m cap : Nat) (w : World) (hm : l.length = m) (hmn : m = N * N) (hl : ∀ i, i < l.length → isNum (nth l i) = true) (ha : Rd w A l) :
    Calls Try.prog 134 #[.agg #[.int .i64 N, .int .i64 N, .slice A m cap]] w fun e w' => e = .returned (.int .i64 (oBad (detO N l))) ∧ Grows w w' := by
  have IH := Lib.hid ih
  have HN := Lib.hid hN
  have HM := Lib.hid hm
  have HMN := Lib.hid hmn
  have HL := Lib.hid hl
  have hNN : N * N ≤ 576 := Nat.mul_le_mul hN2 hN2
  have hNl : N ≤ l.length := by rw [hm, hmn]; exact Nat.le_mul_of_pos_left _ (by omega)
  have hNm : N ≤ m := by omega
  have hl5 : l.length ≤ 576 := by rw [hm, hmn]; exact hNN
  have HB := Lib.hid fun (j : Nat) (s : Int) (hj : j ≤ l.length) (h : dpart (detO n) N l j = some s) => dpart_bd (fun m d h => detO_num h) hl hj h
  have HD := Lib.hid (show detO N l = (dpart (detO n) N l N).bind numO by rw [hN]; rfl)
  have e0 : ((N : Int) == 0) = false := by rw [beq_eq_false_iff_ne]; omega
  obtain ⟨b, off, rfl, hbs, _⟩ := ha.at_ 0 (by omega)
  clear ih hN hm hmn hl
  obtain ⟨w1, hw1⟩ : ∃ w1, w1 = w.alloc (.cells #[.int .i64 N, .int .i64 N, .slice (some ⟨b, off, none⟩) m cap] 26) := ⟨_, rfl⟩
  have mb1 : MBox w1 w.heap.size N N (.slice (some ⟨b, off, none⟩) m cap) := by rw [hw1]; exact MBox.mk_ _ _ _ _ _
  have hg01 : Grows w w1 := by rw [hw1]; exact bel0
  have ha1 : Rd w1 (some ⟨b, off, none⟩) l := ha.grows hg01
  have HW1 := Lib.hid hw1
  clear hw1
  go_enter Try.func134, Try.ntmps134
  go_wp2_with fail
  go_loopw [3, 4, 5] (fun s q j wr => ∃ (J : Nat) (S : Int), j = .int .i64 J ∧ s = .int .i64 S ∧ q = .int .i64 (sgn J) ∧ J ≤ N ∧ dpart (detO n) N l J = some S ∧ Grows w1 wr) (fun _ _ j _ => N - (intOf j).toNat)
  case atStart => exact ⟨0, 0, rfl, rfl, rfl, Nat.zero_le _, rfl, by rw [HW1.out]; exact bel0⟩
  case round =>
    obtain ⟨J, S, rfl, rfl, rfl, hJ, hS, hg⟩ := hrel
    have HS := Lib.hid hS
    clear hS
    have mb := mb1.grows hg
    obtain ⟨b0, b1, b2⟩ := mb.cells
    by_cases hlt : J < N
    · have hd := ha1.grows hg
      have hc := hd.cell J (by omega)
      have i1 : (J : Int) < (m : Int) := by omega
      have hsg : -1 ≤ sgn J ∧ sgn J ≤ 1 := by unfold sgn; split <;> decide
      have HSG := Lib.hid (sgn_succ J)
      by_cases hz : nth l J = 0
      · have HZ := Lib.hid hz
        have hz' : (nth l J != 0) = false := by simpa using hz
        clear hz
        go_wp2_with fail
        go_round
        case rel => exact ⟨J + 1, S, by go_num, rfl, by rw [HSG.out], by omega, dpart_zero HS.out HZ.out, hg⟩
        case measure => simp [intOf]; omega
      · have HZ := Lib.hid hz
        have hz' : (nth l J != 0) = true := by simpa using hz
        have hx := (isNum_iff _).1 (HL.out J (by omega))
        clear hz
        have CC := Lib.hid fun W (hrd : Rd W (some ⟨b, off, none⟩) l) => sCross_c N N (some ⟨b, off, none⟩) l m cap 0 J 0 J W HM.out rfl rfl HMN.out hN2 hN2 hrd
        have cl : (crs N l 0 J (N * N)).length = n * n := by rw [crs_length_eq (by omega) hlt, HN.out]; rfl
        have cn := crs_num (C := N) (l := l) (ri := 0) (ci := J) (k := N * N) (by rw [HM.out, HMN.out]; exact Nat.le_refl _) HL.out
        have II := Lib.hid fun W A' c' (hrd : Rd W A' (crs N l 0 J (N * N))) => IH.out (crs N l 0 J (N * N)) A' _ c' ((N : Int) - 1) W (by have := HN.out; omega) rfl cl cn hrd
        clear cl cn
        have F0 := Lib.hid fun h => dpart_fail (D := detO n) (C := N) (l := l) HS.out HZ.out h
        have F1 := Lib.hid fun d h => dpart_some (D := detO n) (C := N) (l := l) (d := d) HS.out HZ.out h
        have NN := Lib.hid fun d h => detO_num (n := n) (l := crs N l 0 J (N * N)) (d := d) h
        generalize crs N l 0 J (N * N) = t at *
        generalize hdd : detO n t = D at *
        cases D with
        | none =>
          have FD := Lib.hid (show detO N l = none by rw [HD.out, dpart_none (F0.out rfl) (show J + 1 ≤ N by omega)]; rfl)
          have II' := Lib.hid fun W A' c' h => II.out W A' c' h
          clear II
          rw [show oBad none = -4611686018427387904 from rfl] at II'
          go_wp2_with fail
          refine (CC.out _ (by exact (Rd.grows hd (by exact bel0)))).mono ?_; rintro e w3 ⟨v3, rfl, ho3, g3⟩
          obtain ⟨A3, c3, rfl, hr3, _⟩ := ho3.val
          go_wp2_with fail
          refine (II'.out _ _ _ (by exact (Rd.grows hr3 (by exact bel0)))).mono ?_; rintro e w4 ⟨rfl, g4⟩
          go_wp2_with fail
          go_ret
          exact ⟨by rw [FD.out]; rfl, by exact bel4 g4 g3 hg hg01⟩
        | some d =>
          have II' := Lib.hid fun W A' c' h => II.out W A' c' h
          clear II
          rw [show oBad (some d) = d from rfl] at II'
          have hd4 := (isNum_iff _).1 (NN.out d rfl)
          have hsb := HB.out J S (by omega) HS.out
          have hm1 : -400000000 ≤ sgn J * nth l J ∧ sgn J * nth l J ≤ 400000000 := by unfold sgn; split <;> omega
          have hm2 := sgn_mul J (nth l J) d (HL.out J (by omega)) (NN.out d rfl)
          have F := Lib.hid (F1.out d rfl)
          have hdb : (d == -4611686018427387904) = false := by rw [beq_eq_false_iff_ne]; omega
          clear hdd
          go_wp2_with fail
          refine (CC.out _ (by exact (Rd.grows hd (by exact bel0)))).mono ?_; rintro e w3 ⟨v3, rfl, ho3, g3⟩
          obtain ⟨A3, c3, rfl, hr3, _⟩ := ho3.val
          go_wp2_with fail
          refine (II'.out _ _ _ (by exact (Rd.grows hr3 (by exact bel0)))).mono ?_; rintro e w4 ⟨rfl, g4⟩
          clear b0 b1 b2 ho3
          have mb4 := mb.grows (w' := w4) (by exact bel2 g4 g3)
          obtain ⟨b0, b1, b2⟩ := mb4.cells
          have hc4 := (hd.grows (w' := w4) (by exact bel2 g4 g3)).cell J (by omega)
          go_wp2_with fail
          go_round
          case rel => exact ⟨J + 1, _, by go_num, rfl, by rw [HSG.out], by omega, by rw [F.out], by exact bel3 g4 g3 hg⟩
          case measure => simp [intOf]; omega
    · obtain rfl : J = N := by omega
      have NS := Lib.hid fun W => l1Fit_c S W
      go_wp2_with (go_at_call 96; refine (NS.out _).mono ?_; rintro e w' ⟨rfl, rfl⟩)
      go_ret
      refine ⟨?_, by exact bel2 hg hg01⟩
      rw [HD.out, HS.out]; show _ = Ending.returned (.int .i64 ((numO S).getD bad)); unfold numO fit; cases isNum S <;> rfl
theorem sDet_c (n : Nat) (hn2 : n ≤ 24) : ∀ (l : List Int) (A : Option Addr) (m cap : Nat) (r : Int) (w : World), r = n → l.length = m → m = n * n → (∀ i, i < l.length → isNum (nth l i) = true) → Rd w A l →
      Calls Try.prog 134 #[.agg #[.int .i64 r, .int .i64 r, .slice A m cap]] w fun e w' => e = .returned (.int .i64 (oBad (detO n l))) ∧ Grows w w' := by
  induction n with
  | zero =>
    intro l A m cap r w hr hm hmn hl ha
    obtain rfl : r = 0 := by simpa using hr
    clear hr hm hmn hl
    go_enter Try.func134, Try.ntmps134
    go_wp2_with fail
    go_ret
    exact ⟨rfl, by exact bel0⟩
  | succ n ih =>
    intro l A m cap r w hr hm hmn hl ha
    subst hr
    exact sDet_step n (n + 1) rfl hn2 (ih (by omega)) l A m cap w hm hmn hl ha
end
end Go.Proofs.Ythajmffhgbenpaa

/- Contracts: the leading minors. -/
namespace Go.Proofs.Ythajmffhgbenpaa
set_option linter.unusedSimpArgs false
set_option linter.unusedVariables false
open Go.RowKit

/-! ### plain -/
/-- the first k rows and columns -/
def subm (k C : Nat) (l : List Int) : List Int := tab k k fun i j => nth l (i * C + j)
theorem subm_length (k C : Nat) (l : List Int) : (subm k C l).length = k * k := tab_length _ _ _
theorem subm_num {k C : Nat} {l : List Int} (hk : k ≤ C) (hl : l.length = C * C) (h : ∀ i, i < l.length → isNum (nth l i) = true) (i : Nat) (hi : i < (subm k C l).length) : isNum (nth (subm k C l) i) = true := by
  rw [subm_length] at hi
  obtain ⟨h1, h2, h3⟩ := idx_split hi
  rw [h3]
  unfold subm
  rw [tab_nth _ h1 h2]
  exact h _ (by rw [hl]; exact idx_lt (by omega) (by omega))
/-- the minors of the first rows and columns, where they fit -/
def lmP (R : Nat) (l : List Int) : Nat → Option (List Int)
  | 0 => some []
  | k + 1 => (lmP R l k).bind fun s => (detO (k + 1) (subm (k + 1) R l)).map fun d => s ++ [d]
theorem lmP_none {R : Nat} {l : List Int} {j k : Nat} (h : lmP R l j = none) (hk : j ≤ k) : lmP R l k = none := by
  induction k with
  | zero => rw [show j = 0 by omega] at h; exact h
  | succ k ih =>
    by_cases e : j = k + 1
    · rw [← e]; exact h
    · rw [lmP, ih (by omega)]; rfl
theorem lmP_fail {R : Nat} {l s : List Int} {k : Nat} (h : lmP R l k = some s) (hd : detO (k + 1) (subm (k + 1) R l) = none) : lmP R l (k + 1) = none := by rw [lmP, h]; simp [hd]
theorem lmP_some {R : Nat} {l s : List Int} {k : Nat} {d : Int} (h : lmP R l k = some s) (hd : detO (k + 1) (subm (k + 1) R l) = some d) : lmP R l (k + 1) = some (s ++ [d]) := by rw [lmP, h]; simp [hd]
theorem lmP_length {R : Nat} {l s : List Int} {k : Nat} (h : lmP R l k = some s) : s.length = k := by
  induction k generalizing s with
  | zero => cases h; rfl
  | succ k ih =>
    rw [lmP] at h
    obtain ⟨s', h1, h2⟩ := Option.bind_eq_some_iff.1 h
    obtain ⟨d, _, rfl⟩ := Option.map_eq_some_iff.1 h2
    simp [ih h1]
def lmO (r c : Int) (l : List Int) : Option (List Int) := if isSq r c l then lmP r.toNat l r.toNat else none
theorem lmO_no {r c : Int} {l : List Int} (h : isSq r c l = false) : lmO r c l = none := by unfold lmO; simp [h]
theorem lmO_yes {R : Nat} {l : List Int} (h : isSq R R l = true) : lmO R R l = lmP R l R := by unfold lmO; simp [h]
theorem lmO_length {r c : Int} {l s : List Int} (h : lmO r c l = some s) : s.length ≤ 6 := by
  cases hq : isSq r c l
  · rw [lmO_no hq] at h; cases h
  · obtain ⟨_, R, rfl, rfl, hR, _⟩ := isSq_nat hq
    rw [lmO_yes hq] at h
    rw [lmP_length h]; exact hR

section
set_option maxHeartbeats 1000000
set_option maxRecDepth 10000 in
theorem iLMin_c (r c : Int) (A : Option Addr) (l : List Int) (n cap : Nat) (w : World) (hn : l.length = n) (hcap : n ≤ cap) (hcap2 : cap ≤ 9223372036854775807) (ha : Rd w A l) (hl : n ≤ 1099511627776) :
    Calls Try.prog 128 #[.agg #[.int .i64 r, .int .i64 c, .slice A n cap]] w fun e w' => ∃ v, e = .returned (.tuple #[v, .bool (lmO r c l).isSome]) ∧ Own w' w.heap.size v (oL (lmO r c l)) ∧ Grows w w' := by
  have HS := fun w h => iIsSquare_c r c A l n cap w hn h hl
  cases hq : isSq r c l
  · rw [lmO_no hq]
    rw [hq] at HS
    have HS' := Lib.hid HS
    clear HS hq hn
    go_enter Try.func128, Try.ntmps128
    go_wp2_with fail
    refine (HS'.out _ (by exact (Rd.grows ha (by exact bel0)))).mono ?_; rintro e w1 ⟨rfl, g1⟩
    go_wp2_with fail
    go_ret2
    exact ⟨_, rfl, Own.new_ _ rfl (by have := Below.size g1; simp at this; omega), by exact bel1 g1⟩
  · obtain ⟨_, R, rfl, rfl, hR, hlen, hnum⟩ := isSq_nat hq
    rw [lmO_yes hq]
    rw [hq] at HS
    have HS' := Lib.hid HS
    have HN := Lib.hid hn
    have HLN := Lib.hid hlen
    have HNU := Lib.hid hnum
    have hRR : R * R ≤ 36 := Nat.mul_le_mul hR hR
    have hn36 : n ≤ 36 := by omega
    have hln : l.length = n := hn
    obtain ⟨w1, hw1⟩ : ∃ w1, w1 = w.alloc (.cells #[.int .i64 R, .int .i64 R, .slice A n cap] 26) := ⟨_, rfl⟩
    have mb1 : MBox w1 w.heap.size R R (.slice A n cap) := by rw [hw1]; exact MBox.mk_ _ _ _ _ _
    have hg01 : Grows w w1 := by rw [hw1]; exact bel0
    have ha1 : Rd w1 A l := ha.grows hg01
    have hs1 : w1.heap.size = w.heap.size + 1 := by rw [hw1]; simp
    have HW1 := Lib.hid hw1
    have HS1 := Lib.hid hs1
    clear hw1 HS hq hn hlen hnum hln hs1
    go_enter Try.func128, Try.ntmps128
    go_wp2_with fail
    refine (HS'.out _ (by exact (Rd.grows ha (by exact bel0)))).mono ?_; rintro e w2 ⟨rfl, g2⟩
    rw [← HW1.out] at g2
    go_wp2_with fail
    go_loopw [4, 5] (fun o k wr => ∃ (K : Nat) (A4 : Option Addr) (L : List Int) (c4 : Nat), k = .int .i64 ((K : Int) + 1) ∧ o = .slice A4 L.length c4 ∧ K ≤ R ∧ lmP R l K = some L ∧ Own wr w1.heap.size (.slice A4 L.length c4) L ∧ Grows w1 wr) (fun _ k _ => R + 1 - (intOf k).toNat)
    case atStart => exact ⟨0, _, [], _, rfl, rfl, Nat.zero_le _, rfl, Own.new_ _ rfl (Below.size g2), by exact bel1 g2⟩
    case round =>
      clear g2
      obtain ⟨K, A4, L, c4, rfl, rfl, hK, hL, ho, hg⟩ := hrel
      have HL := Lib.hid hL
      have HLL := Lib.hid (lmP_length hL)
      clear hL
      have mb := mb1.grows hg
      obtain ⟨b0, b1, b2⟩ := mb.cells
      by_cases hlt : K < R
      · have hKK : (K + 1) * (K + 1) ≤ 36 := Nat.le_trans (Nat.mul_le_mul (show K + 1 ≤ R by omega) (show K + 1 ≤ R by omega)) hRR
        obtain ⟨N, hN⟩ : ∃ N, N = K + 1 := ⟨_, rfl⟩
        have hNi : (K : Int) + 1 = (N : Int) := by omega
        rw [hNi]
        have hNR : N ≤ R := by omega
        have hNN : N * N ≤ 36 := by rw [hN]; exact hKK
        have CN := Lib.hid fun W => newMatrix_c N N W (by omega)
        have HNN := Lib.hid hN
        clear hN
        go_wp2_with fail
        refine (CN.out _).mono ?_; rintro e w3 ⟨g, rfl, ho3, g3⟩
        have hwr := hg.size
        have hw3 := Below.size g3
        have hgl := ho3.lt
        go_wp2_with fail
        obtain ⟨wo, rfl⟩ : ∃ wo : World, wo = wr := ⟨_, rfl⟩
        go_loopw [7] (fun i wx => ∃ (I : Nat) (m : List Int), i = .int .i64 I ∧ I ≤ N ∧ m.length = N * N ∧ Upto N (fun i j => nth l (i * R + j)) I 0 m ∧ Own wx wo.heap.size (.slice (some ⟨g, 0, none⟩) (N * N) (N * N)) m ∧ Grows wo wx ∧ MBox wx w3.heap.size N N (.slice (some ⟨g, 0, none⟩) (N * N) (N * N))) (fun i _ => N - (intOf i).toNat)
        case atStart => exact ⟨0, _, rfl, Nat.zero_le _, by simp, Upto.zero _ _ _, ho3.alloc _, by exact bel1 g3, MBox.new_ _ _ _ _ _ rfl⟩
        case round =>
          clear ho3 g3 b0 b1 b2
          obtain ⟨I, m, rfl, hI, hm, hU, ho3, g3, m3⟩ := hrel
          have HM := Lib.hid hm
          have HU := Lib.hid hU
          clear hm hU
          by_cases hlt2 : I < N
          · obtain ⟨x0, x1, x2⟩ := (mb.grows g3).ext
            obtain ⟨y0, y1, y2⟩ := m3.ext
            have hra := (ha1.grows hg).grows g3
            have hIN : (I + 1) * N ≤ N * N := Nat.mul_le_mul_right N hlt2
            have hIR : (I + 1) * R ≤ R * R := Nat.mul_le_mul_right R (by omega)
            have hIN2 : I * N + N = (I + 1) * N := by rw [Nat.add_mul, Nat.one_mul]
            have hIR2 : I * R + R = (I + 1) * R := by rw [Nat.add_mul, Nat.one_mul]
            have CR := Lib.hid fun W => row_c N N (some ⟨g, 0, none⟩) m (N * N) (N * N) I I W rfl HM.out (Nat.le_refl _) (by omega) hIN (by omega) (by omega)
            have CS := Lib.hid fun W => row_c R R A l n cap I I W rfl HN.out hcap hcap2 (by have := HLN.out; have := HN.out; omega) (by omega) (by omega)
            have hcl : I * R + R ≤ cap := by have := HLN.out; have := HN.out; omega
            have z1 : (N : Int) ≤ ((cap - I * R : Nat) : Int) := by omega
            have rS := rowA_rd (cap := cap) (C := R) (I := I) hra (by rw [HLN.out]; exact hIR) (by rw [HN.out]; exact hcap)
            have rl : (rowL R l I).length = R := rowL_length (by rw [HLN.out]; exact hIR)
            have rS2 := rS.take_ N
            have dA : 0 < ((rowL R l I).take N).length → rowA (N * N) N (some ⟨g, 0, none⟩) I = some ⟨g, 0 + I * N, none⟩ := fun _ => rowA_at (by omega) (by omega)
            have tl : ((rowL R l I).take N).length = N := by rw [List.length_take, rl]; omega
            have DA := Lib.hid dA
            have TL := Lib.hid tl
            have hgs := ho3.lt
            have HX := Lib.hid (show ∀ j, j < N → nth ((rowL R l I).take N) j = nth l (I * R + j) from fun j hj => by rw [← rowL_nth (C := R) (by omega)]; unfold nth; simp only [List.getD_eq_getElem?_getD, List.getElem?_take, if_pos hj])
            have HIN := Lib.hid hIN2
            clear dA tl rl hIN2 hIR2
            generalize hRN : rowA (N * N) N (some ⟨g, 0, none⟩) I = dN at *
            generalize hRS : rowA cap R A I = dS at *
            have R1 := Lib.hid hRN
            have R2 := Lib.hid hRS
            clear hRN hRS
            go_wp2_with fail
            ((refine wp_region_tail 8 (by kernel_rfl) (by kernel_rfl) ?_; simp only [List.take_succ_cons, List.take_zero, List.drop_succ_cons, List.drop_zero]); (repeat (go_big_quiet_step ((first | (go_at_call 28; with_reducible exact extC (CR.out _)) | (go_at_call 28; with_reducible exact extC (CS.out _)))))); refine wpQuiet_nil ?_; rintro w4 ⟨w40, hw40⟩; have g4 := grows_of_ext hw40; clear hw40 w40)
            have ho4 := ho3.grows g4
            have r4 := rS2.grows g4
            refine wpList_copyI rfl (.tmp 31) (.tmp 36) rfl _ wo.heap.size g (N * N) (N * N) (0 + I * N) N (N * N - I * N) m ho4 HM.out dN (by rfl) dS ((rowL R l I).take N) N (cap - I * R) (by rfl) r4 TL.out.symm (by rw [TL.out]; exact Nat.le_refl _) (by rw [TL.out]; have := HIN.out; omega) DA.out ?_; intro w5 ho5 hg5
            have hLY := Lib.hid (show Upto N (fun i j => nth l (i * R + j)) (I + 1) 0 (lay m (0 + I * N) ((rowL R l I).take N)) from fun i j hij => by
              have hin := HIN.out
              have hiN : i * N + N = (i + 1) * N := by rw [Nat.add_mul, Nat.one_mul]
              by_cases e : i = I
              · subst e
                rw [show i * N + j = (0 + i * N) + j by omega, lay_nth_in (by rw [TL.out, HM.out]; omega) (by rw [TL.out]; omega)]
                exact HX.out j (by omega)
              · have hlt3 : (i + 1) * N ≤ I * N := Nat.mul_le_mul_right N (by omega)
                rw [lay_nth_out (by rw [TL.out, HM.out]; omega) (by left; omega)]
                exact HU.out i j (by omega))
            have hLL := Lib.hid (lay_length (l := m) (m := (rowL R l I).take N) (off := 0 + I * N) (by rw [TL.out, HM.out]; have := HIN.out; omega))
            go_wp2_with fail
            go_round
            case rel => exact ⟨I + 1, _, by go_num, by omega, by rw [hLL.out, HM.out], hLY.out, ho5, below_only (Grows.trans g3 g4) hg5 (by omega) (by have := g3.size; have := g4.size; omega), (m3.grows g4).only hg5 (by omega)⟩
            case measure => simp [intOf]; omega
          · obtain rfl : I = N := by omega
            have hfin : m = subm I R l := Upto.all HU.out HM.out
            subst hfin
            obtain ⟨y0, y1, y2⟩ := m3.cells
            have hsl := subm_length I R l
            have hsn := subm_num hNR HLN.out HNU.out
            have CD := Lib.hid fun W h => iDet_c I (by omega) (subm I R l) (some ⟨g, 0, none⟩) (I * I) (I * I) I W rfl HM.out rfl hsn h
            have F0 := Lib.hid fun h => lmP_fail (R := R) (l := l) HL.out (by rw [← HNN.out]; exact h)
            have F1 := Lib.hid fun d h => lmP_some (R := R) (l := l) (d := d) HL.out (by rw [← HNN.out]; exact h)
            have ND := Lib.hid fun d h => detO_num (n := I) (l := subm I R l) (d := d) h
            have hr3 := ho3.rd_
            clear hsl hsn
            generalize detO I (subm I R l) = D at *
            go_wp2_with fail
            refine (CD.out _ (by exact (Rd.grows hr3 (by exact bel0)))).mono ?_; rintro e w6 ⟨⟨x, rfl, hx⟩, g6⟩
            cases D with
            | none =>
              have FD := Lib.hid (lmP_none (k := R) (F0.out rfl) (by omega))
              clear hx
              go_wp2_with fail
              go_ret2
              exact ⟨_, by rw [FD.out]; rfl, by rw [FD.out]; exact Own.new_ _ rfl (by have := hg01.size; have := g3.size; have := g6.size; omega), by exact bel4 g6 g3 hg hg01⟩
            | some d =>
              obtain rfl : x = d := hx d rfl
              have FD := Lib.hid (F1.out x rfl)
              clear hx
              have ho6 := (ho.grows g3).grows g6
              go_wp2_with (at_builtin; refine wpList_app1 rfl (.tmp 46) (.tmp 48) rfl _ x w1.heap.size _ L (by rfl) ho6 (by rfl) (by have := HLL.out; omega) (by have := g3.size; have := g6.size; omega) ?_; intro v7 w7 ho7 hg7 _)
              obtain ⟨A7, c7, rfl, _, _⟩ := ho7.val
              have hb7 : Below w1.heap.size w6 w7 := below_app ho6 (by have := g3.size; have := g6.size; omega) hg7
              have hNi2 : (I : Int) + 1 = ((K + 1 : Nat) : Int) + 1 := by have := HNN.out; omega
              go_round
              case rel => exact ⟨K + 1, _, _, _, by rw [← hNi2], rfl, by omega, FD.out, ho7, by exact bel4 hb7 g6 g3 hg⟩
              case measure => simp [intOf]; omega
      · obtain rfl : K = R := by omega
        go_wp2_with fail
        go_ret2
        have hs1 := HS1.out
        exact ⟨_, by rw [HL.out]; rfl, by rw [HL.out]; exact ho.less (by omega), by exact bel2 hg hg01⟩
end
end Go.Proofs.Ythajmffhgbenpaa

/- Contracts: the reference's part of a matrix, and its leading minors. -/
namespace Go.Proofs.Ythajmffhgbenpaa
set_option linter.unusedSimpArgs false
set_option linter.unusedVariables false
open Go.RowKit

/-! ### plain -/
/-- the cells in some rows and columns: the first k of them -/
def prt (C : Nat) (l rs cs : List Int) : Nat → List Int
  | 0 => []
  | k + 1 => prt C l rs cs k ++ [nth l ((nth rs (k / cs.length)).toNat * C + (nth cs (k % cs.length)).toNat)]
theorem prt_length (C : Nat) (l rs cs : List Int) (k : Nat) : (prt C l rs cs k).length = k := by
  induction k with
  | zero => rfl
  | succ k ih => simp [prt, ih]
theorem prt_nth {C : Nat} {l rs cs : List Int} {k t : Nat} (h : t < k) : nth (prt C l rs cs k) t = nth l ((nth rs (t / cs.length)).toNat * C + (nth cs (t % cs.length)).toNat) := by
  induction k with
  | zero => omega
  | succ k ih =>
    rw [prt]
    by_cases e : t = k
    · subst e; rw [nth_append_right _ _ _ (by rw [prt_length]; exact Nat.le_refl _), prt_length, Nat.sub_self]; rfl
    · rw [nth_append_left _ _ _ (by rw [prt_length]; omega)]; exact ih (by omega)
theorem prt_step {C : Nat} {l rs cs : List Int} {I J : Nat} (hJ : J < cs.length) : prt C l rs cs (I * cs.length + (J + 1)) = prt C l rs cs (I * cs.length + J) ++ [nth l ((nth rs I).toNat * C + (nth cs J).toNat)] := by
  rw [← Nat.add_assoc, prt, idx_div hJ, idx_mod hJ]
theorem prt_tab (C : Nat) (l rs cs : List Int) : prt C l rs cs (rs.length * cs.length) = tab rs.length cs.length fun i j => nth l ((nth rs i).toNat * C + (nth cs j).toNat) :=
  tab_ext (prt_length _ _ _ _ _) fun i j hi hj => by rw [prt_nth (idx_lt hi hj), idx_div hj, idx_mod hj]
/-- 0, 1, .., k-1 -/
def iota (k : Nat) : List Int := (List.range k).map fun (i : Nat) => (i : Int)
theorem iota_length (k : Nat) : (iota k).length = k := by simp [iota]
theorem iota_nth {k i : Nat} (h : i < k) : nth (iota k) i = i := by
  rw [nth_get _ _ (by rw [iota_length]; exact h)]; simp [iota]
theorem iota_succ (k : Nat) : iota (k + 1) = iota k ++ [(k : Int)] := by simp [iota, List.range_succ]
theorem prt_iota {k C : Nat} {l : List Int} : prt C l (iota k) (iota k) (k * k) = subm k C l := by
  have := prt_tab C l (iota k) (iota k)
  rw [iota_length] at this
  rw [this]
  exact tab_congr fun i j hi hj => by rw [iota_nth hi, iota_nth hj]; simp

theorem part_keep {w w' : World} {B b b2 o2 b3 o3 : Nat} {r c : Int} {v x y u : Value} {a : Addr} (mb : MBox w b r c v) (hx : w.cell? ⟨b2, o2, none⟩ = some x) (hy : w.cell? ⟨b3, o3, none⟩ = some y) (k : Below B w w') (h1 : b < B) (h2 : b2 < B) (h3 : b3 < B) (h4 : w'.cell? a = some u) :
    w'.cell? ⟨b, 0, none⟩ = some (.int .i64 r) ∧ w'.cell? ⟨b, 1, none⟩ = some (.int .i64 c) ∧ w'.cell? ⟨b, 2, none⟩ = some v ∧ w'.cell? ⟨b2, o2, none⟩ = some x ∧ w'.cell? ⟨b3, o3, none⟩ = some y ∧ w'.cell? a = some u :=
  ⟨(k.cell (p := ⟨b, 0, none⟩) h1).trans mb.c0, (k.cell (p := ⟨b, 1, none⟩) h1).trans mb.c1, (k.cell (p := ⟨b, 2, none⟩) h1).trans mb.c2, (k.cell (p := ⟨b2, o2, none⟩) h2).trans hx, (k.cell (p := ⟨b3, o3, none⟩) h3).trans hy, h4⟩

section
set_option maxHeartbeats 1000000
theorem sPart_c (R C : Nat) (A X Y : Option Addr) (l rs cs : List Int) (n p q cap cx cy : Nat) (w : World) (hn : l.length = n) (hp : rs.length = p) (hq : cs.length = q) (hlen : n = R * C) (hR : R ≤ 24) (hC : C ≤ 24) (hp2 : p ≤ 24) (hq2 : q ≤ 24) (ha : Rd w A l) (hx : Rd w X rs) (hy : Rd w Y cs)
    (hrs : ∀ i, i < p → 0 ≤ nth rs i ∧ nth rs i < R) (hcs : ∀ i, i < q → 0 ≤ nth cs i ∧ nth cs i < C) :
    Calls Try.prog 150 #[.agg #[.int .i64 R, .int .i64 C, .slice A n cap], .slice X p cx, .slice Y q cy] w fun e w' =>
      ∃ v, e = .returned (.agg #[.int .i64 p, .int .i64 q, v]) ∧ Own w' w.heap.size v (prt C l rs cs (p * q)) ∧ Grows w w' := by
  have HN := Lib.hid hn
  have HP := Lib.hid hp
  have HQ := Lib.hid hq
  have HL := Lib.hid hlen
  have HRS := Lib.hid hrs
  have HCS := Lib.hid hcs
  have hRC : R * C ≤ 576 := Nat.mul_le_mul hR hC
  have hpq : p * q ≤ 576 := Nat.mul_le_mul hp2 hq2
  clear hn hlen hp hq hrs hcs
  obtain ⟨w1, hw1⟩ : ∃ w1, w1 = (w.alloc (.cells #[.int .i64 R, .int .i64 C, .slice A n cap] 26)).alloc (.cells #[.int .i64 0, .int .i64 0, .slice none 0 0] 26) := ⟨_, rfl⟩
  have mb1 : MBox w1 w.heap.size R C (.slice A n cap) := by rw [hw1]; exact (MBox.mk_ _ _ _ _ _).alloc _
  have mr1 : MBox w1 (w.heap.size + 1) 0 0 (.slice none 0 0) := by rw [hw1]; exact MBox.new_ _ _ _ _ _ (by simp)
  have hs1 : w1.heap.size = w.heap.size + 2 := by rw [hw1]; simp
  have hg01 : Grows w w1 := by rw [hw1]; exact bel0
  have ha1 : Rd w1 A l := ha.grows hg01
  have HS1 := Lib.hid hs1
  have HW1 := Lib.hid hw1
  clear hs1 hw1
  go_enter Try.func150, Try.ntmps150
  go_wp2_with fail
  go_loopw [8] (fun i wr => ∃ (I : Nat) (v : Value), i = .int .i64 I ∧ I ≤ p ∧ Grows w1 wr ∧ MBox wr (w.heap.size + 1 + 1) p q v ∧ Own wr (w.heap.size + 2) v (prt C l rs cs (I * q)) ∧ (∀ g, v.ownBlock = some g → g ≠ w.heap.size + 1 + 1)) (fun i _ => p - (intOf i).toNat)
  case atStart => exact ⟨0, _, rfl, Nat.zero_le _, by rw [HW1.out]; exact bel0, MBox.new_ _ _ _ _ _ (by simp), by rw [Nat.zero_mul]; exact Own.nil _ _, by intro g hg; simp [Value.ownBlock] at hg⟩
  case round =>
    obtain ⟨I, v, rfl, hI, hg, mo, ho, hv⟩ := hrel
    by_cases hlt : I < p
    · go_wp2_with fail
      obtain ⟨wo, rfl⟩ : ∃ wo : World, wo = wr := ⟨_, rfl⟩
      go_loopw [9] (fun j w2 => ∃ (J : Nat) (v : Value), j = .int .i64 J ∧ J ≤ q ∧ Grows w1 w2 ∧ MBox w2 (w.heap.size + 1 + 1) p q v ∧ Own w2 (w.heap.size + 2) v (prt C l rs cs (I * q + J)) ∧ (∀ g, v.ownBlock = some g → g ≠ w.heap.size + 1 + 1)) (fun j _ => q - (intOf j).toNat)
      case atStart => exact ⟨0, v, rfl, Nat.zero_le _, hg, mo, ho, hv⟩
      case round =>
        clear hg mo ho hv v
        obtain ⟨J, v, rfl, hJ, hg, mo, ho, hv⟩ := hrel
        have mb := mb1.grows hg
        by_cases hlt2 : J < q
        · have HC := Lib.hid (by have := prt_step (C := C) (l := l) (rs := rs) (cs := cs) (I := I) (J := J) (by rw [HQ.out]; exact hlt2); rw [HQ.out] at this; exact this)
          have hd := ha1.grows hg
          obtain ⟨i1, i2⟩ := HRS.out I hlt
          obtain ⟨j1, j2⟩ := HCS.out J hlt2
          obtain ⟨bx, ox, rfl, hbx, _⟩ := hx.at_ I (by rw [HP.out]; exact hlt)
          obtain ⟨by', oy, rfl, hby, _⟩ := hy.at_ J (by rw [HQ.out]; exact hlt2)
          have cx' := ((hx.grows (Grows.trans hg01 hg))).cell I (by rw [HP.out]; exact hlt)
          have cy' := ((hy.grows (Grows.trans hg01 hg))).cell J (by rw [HQ.out]; exact hlt2)
          have k0 : nth rs I * (C : Int) + nth cs J = (((nth rs I).toNat * C + (nth cs J).toNat : Nat) : Int) := by rw [Int.natCast_add, Int.natCast_mul, Int.toNat_of_nonneg i1, Int.toNat_of_nonneg j1]
          have k1 : nth rs I * (C : Int) = (((nth rs I).toNat * C : Nat) : Int) := by rw [Int.natCast_mul, Int.toNat_of_nonneg i1]
          have k2 : (nth rs I).toNat * C + (nth cs J).toNat < R * C := idx_lt (by omega) (by omega)
          have C1 := fun W (hrd : Rd W A l) => l12Cell_c R C A l n cap (nth rs I) (nth cs J) W HN.out hrd (by omega) (by omega) (by omega) (by rw [HN.out, HL.out]; omega) (by rw [HN.out, HL.out]; omega)
          rw [k0, Int.toNat_natCast] at C1
          have C1' := Lib.hid C1
          have hcl : (prt C l rs cs (I * q + J)).length + 1 ≤ 1099511627776 := by have := prt_length C l rs cs (I * q + J); have := idx_lt hlt hlt2; omega
          have mol := mo.lt
          obtain ⟨y0, y1, y2⟩ := mo.cells
          have z1 : (I : Int) < (p : Int) := by omega
          have z2 : (J : Int) < (q : Int) := by omega
          clear k0 k1 k2 C1 i1 i2 j1 j2
          generalize nth l ((nth rs I).toNat * C + (nth cs J).toNat) = z at *
          go_wp2_with fail
          (refine wp_region_held_last 15 (fun W => W.cell? ⟨w.heap.size, 0, none⟩ = some (.int .i64 R) ∧ W.cell? ⟨w.heap.size, 1, none⟩ = some (.int .i64 C) ∧ W.cell? ⟨w.heap.size, 2, none⟩ = some (.slice A n cap) ∧ W.cell? ⟨bx, ox + I, none⟩ = some (.int .i64 (nth rs I)) ∧ W.cell? ⟨by', oy + J, none⟩ = some (.int .i64 (nth cs J)) ∧ W.cell? ⟨w.heap.size + 1 + 1, 2, none⟩ = some v) (by rfl) (by kernel_rfl) (by kernel_rfl) (by ((try dsimp only); (refine part_keep mb cx' cy' (B := w.heap.size + 2) (by first | exact bel2 hb4 g3 | exact bel1 g3 | exact bel0) (by omega) (by omega) (by omega) (by first | exact mo.c2 | exact (mo.alloc _).c2 | exact (mo.grows (by exact bel0)).c2)))) (fun hHeld => ?_); simp only [List.take_succ_cons, List.take_zero]; refine heldL_take (i := 0) (v := _) (by rfl) (by kernel_rfl) (by kernel_rfl) (by kernel_rfl) (fun _ _ _ h => h) (Or.inl ⟨by rfl, fun wS hSw => by ((try dsimp only at hSw); go_simp; (try with_reducible rfl))⟩) (by assumption) ?_; simp only [Act.put, List.setIfInBounds_toArray, List.set_cons_zero, List.set_cons_succ]; refine heldL_take (i := 1) (v := _) (by rfl) (by kernel_rfl) (by kernel_rfl) (by kernel_rfl) (fun _ _ _ h => h) (Or.inl ⟨by rfl, fun wS hSw => by ((try dsimp only at hSw); go_simp; (try with_reducible rfl))⟩) (by assumption) ?_; simp only [Act.put, List.setIfInBounds_toArray, List.set_cons_zero, List.set_cons_succ]; refine heldL_take (i := 2) (v := _) (by rfl) (by kernel_rfl) (by kernel_rfl) (by kernel_rfl) (fun _ _ _ h => h) (Or.inl ⟨by rfl, fun wS hSw => by ((try dsimp only at hSw); go_simp; (try with_reducible rfl))⟩) (by assumption) ?_; simp only [Act.put, List.setIfInBounds_toArray, List.set_cons_zero, List.set_cons_succ]; refine heldL_take (i := 3) (v := _) (by rfl) (by kernel_rfl) (by kernel_rfl) (by kernel_rfl) (fun _ _ _ h => h) (Or.inl ⟨by rfl, fun wS hSw => by ((try dsimp only at hSw); go_simp; (try with_reducible rfl))⟩) (by assumption) ?_; simp only [Act.put, List.setIfInBounds_toArray, List.set_cons_zero, List.set_cons_succ]; refine heldL_take (i := 4) (v := _) (by rfl) (by kernel_rfl) (by kernel_rfl) (by kernel_rfl) (fun _ _ _ h => h) (Or.inl ⟨by rfl, fun wS hSw => by ((try dsimp only at hSw); go_simp; (try with_reducible rfl))⟩) (by assumption) ?_; simp only [Act.put, List.setIfInBounds_toArray, List.set_cons_zero, List.set_cons_succ]; refine heldL_take (i := 5) (v := _) (by rfl) (by kernel_rfl) (by kernel_rfl) (by kernel_rfl) (fun _ _ _ h => h) (Or.inl ⟨by rfl, fun wS hSw => by ((try dsimp only at hSw); go_simp; (try with_reducible rfl))⟩) (by assumption) ?_; simp only [Act.put, List.setIfInBounds_toArray, List.set_cons_zero, List.set_cons_succ]; refine heldL_take (i := 6) (v := _) (by rfl) (by kernel_rfl) (by kernel_rfl) (by kernel_rfl) (fun _ _ _ h => h) (Or.inl ⟨by rfl, fun wS hSw => by ((try dsimp only at hSw); go_simp; (try with_reducible rfl))⟩) (by assumption) ?_; simp only [Act.put, List.setIfInBounds_toArray, List.set_cons_zero, List.set_cons_succ]; refine heldL_take (i := 7) (v := _) (by rfl) (by kernel_rfl) (by kernel_rfl) (by kernel_rfl) (fun _ _ _ h => h) (Or.inl ⟨by rfl, fun wS hSw => by ((try dsimp only at hSw); go_simp; (try with_reducible rfl))⟩) (by assumption) ?_; simp only [Act.put, List.setIfInBounds_toArray, List.set_cons_zero, List.set_cons_succ]; refine heldL_take (i := 8) (v := _) (by rfl) (by kernel_rfl) (by kernel_rfl) (by kernel_rfl) (fun _ _ _ h => h) (Or.inl ⟨by rfl, fun wS hSw => by ((try dsimp only at hSw); go_simp; (try with_reducible rfl))⟩) (by assumption) ?_; simp only [Act.put, List.setIfInBounds_toArray, List.set_cons_zero, List.set_cons_succ]; refine heldL_take (i := 9) (v := _) (by rfl) (by kernel_rfl) (by kernel_rfl) (by kernel_rfl) (fun _ _ _ h => h) (Or.inl ⟨by rfl, fun wS hSw => by ((try dsimp only at hSw); go_simp; (try with_reducible rfl))⟩) (by assumption) ?_; simp only [Act.put, List.setIfInBounds_toArray, List.set_cons_zero, List.set_cons_succ]; refine heldL_take (i := 10) (v := _) (by rfl) (by kernel_rfl) (by kernel_rfl) (by kernel_rfl) (fun _ _ _ h => h) (Or.inl ⟨by rfl, fun wS hSw => by ((try dsimp only at hSw); go_simp; (try with_reducible rfl))⟩) (by assumption) ?_; simp only [Act.put, List.setIfInBounds_toArray, List.set_cons_zero, List.set_cons_succ]; refine heldL_step (i := 11) (by kernel_rfl) (by rfl) (fun K hK => ?_); go_simp; (go_at_call 103; refine (C1'.out _ (by exact (Rd.grows hd (by exact bel0)))).mono ?_; rintro e w3 ⟨rfl, g3⟩; have ho3 := ho.grows (w' := w3) (by exact bel1 g3); replace mo := mo.grows (w' := w3) (by exact bel1 g3); clear y0 y1 y2; obtain ⟨y0, y1, y2⟩ := mo.cells; have hz3 : w.heap.size + 1 + 1 < w3.heap.size := mo.lt) ; (try (go_wp2_with fail)); refine hK.out _ _ (by ((try dsimp only); (refine part_keep mb cx' cy' (B := w.heap.size + 2) (by first | exact bel2 hb4 g3 | exact bel1 g3 | exact bel0) (by omega) (by omega) (by omega) (by first | exact mo.c2 | exact (mo.alloc _).c2 | exact (mo.grows (by exact bel0)).c2)))) (fun hHeld => ?_); clear hK K; (try simp only [Act.put, List.setIfInBounds_toArray, List.set_cons_zero, List.set_cons_succ]); refine heldL_step (i := 12) (by kernel_rfl) (by rfl) (fun K hK => ?_); go_simp; refine hK.out _ _ (by ((try dsimp only); (refine part_keep mb cx' cy' (B := w.heap.size + 2) (by first | exact bel2 hb4 g3 | exact bel1 g3 | exact bel0) (by omega) (by omega) (by omega) (by first | exact mo.c2 | exact (mo.alloc _).c2 | exact (mo.grows (by exact bel0)).c2)))) (fun hHeld => ?_); clear hK K; (try simp only [Act.put, List.setIfInBounds_toArray, List.set_cons_zero, List.set_cons_succ]); refine heldL_step (i := 13) (by kernel_rfl) (by rfl) (fun K hK => ?_); (refine step_app1 rfl (.tmp 28) (.tmp 39) rfl w3 _ (w.heap.size + 2) v (prt C l rs cs (I * q + J)) (by rfl) ho3 (by rfl) hcl (by omega) ?_; intro v' w4 ho4 hg4 hv4; have hb4 : Below (w.heap.size + 2) w3 w4 := below_app ho3 (by omega) hg4; obtain ⟨A4, c4, rfl, _, _⟩ := ho4.val; replace mo := mo.own hg4 hv; clear y0 y1 y2; obtain ⟨y0, y1, y2⟩ := mo.cells; have yf := mo.fz) ; refine hK.out _ _ (by ((try dsimp only); (refine part_keep mb cx' cy' (B := w.heap.size + 2) (by first | exact bel2 hb4 g3 | exact bel1 g3 | exact bel0) (by omega) (by omega) (by omega) (by first | exact mo.c2 | exact (mo.alloc _).c2 | exact (mo.grows (by exact bel0)).c2)))) (fun hHeld => ?_); clear hK K; (try simp only [Act.put, List.setIfInBounds_toArray, List.set_cons_zero, List.set_cons_succ]); refine heldL_take (i := 14) (v := _) (by rfl) (by kernel_rfl) (by kernel_rfl) (by kernel_rfl) (fun _ _ _ h => h) (Or.inl ⟨by rfl, fun wS hSw => by ((try dsimp only at hSw); go_simp; (try with_reducible rfl))⟩) (by assumption) ?_; simp only [Act.put, List.setIfInBounds_toArray, List.set_cons_zero, List.set_cons_succ]; refine wpAnyH_done (by kernel_rfl) ?_ _; refine lastQ_go ?_)
          all_goals
            go_wp2_with fail
            go_round
            case rel =>
              have hne4 : ∀ g, (Value.slice A4 (prt C l rs cs (I * q + J) ++ [z]).length c4).ownBlock = some g → g ≠ w.heap.size + 1 + 1 := by
                intro g hg'
                rcases hv4 with h | ⟨g', h, h'⟩
                · exact hv g (by rw [← h]; exact hg')
                · rw [h] at hg'; cases hg'; omega
              have ho5 := ho4.far (p := ⟨w.heap.size + 1 + 1, 2, none⟩) hne4 (.slice A4 (prt C l rs cs (I * q + J) ++ [z]).length c4)
              have hs1 := HS1.out
              rw [← HC.out] at ho5 hne4
              exact ⟨J + 1, _, by go_num, by omega, by exact bel3 hb4 g3 hg, by simpa using mo.put2 _, by simpa [HC.out] using ho5, by simpa [HC.out] using hne4⟩
            case measure => simp [intOf]; omega
        · obtain rfl : J = q := by omega
          go_wp2_with fail
          go_round
          case rel => exact ⟨I + 1, v, by go_num, by omega, hg, mo, by rw [Nat.add_mul, Nat.one_mul]; exact ho, hv⟩
          case measure => simp [intOf]; omega
    · obtain rfl : I = p := by omega
      have mr := mr1.grows hg
      obtain ⟨c0, c1, c2⟩ := mo.cells
      obtain ⟨d0, d1, d2⟩ := mr.cells
      have df := mr.fz
      have dl := mr.lt
      obtain ⟨A4, c4, rfl, _, _⟩ := ho.val
      go_wp2_with fail
      refine bodyPost_ret (v := .agg #[.int .i64 I, .int .i64 q, .slice A4 (prt C l rs cs (I * q)).length c4]) ?_ rfl ?_
      · simp [results, Try.results150, go_sem, d0, d1, d2, df]
      · have hs1 := HS1.out
        exact ⟨_, rfl, by exact ownl ho, by exact bel2 hg hg01⟩
end
end Go.Proofs.Ythajmffhgbenpaa

/- Contracts: the reference's leading minors; definite forms. -/
namespace Go.Proofs.Ythajmffhgbenpaa
set_option linter.unusedSimpArgs false
set_option linter.unusedVariables false
open Go.RowKit

section
set_option maxHeartbeats 1000000
theorem sFirst_c (R k : Nat) (A : Option Addr) (l : List Int) (n cap : Nat) (w : World) (hn : l.length = n) (hlen : n = R * R) (hR : R ≤ 6) (hk : k ≤ R) (ha : Rd w A l) :
    Calls Try.prog 147 #[.agg #[.int .i64 R, .int .i64 R, .slice A n cap], .int .i64 k] w fun e w' =>
      ∃ v, e = .returned (.agg #[.int .i64 k, .int .i64 k, v]) ∧ Own w' w.heap.size v (subm k R l) ∧ Grows w w' := by
  have HN := Lib.hid hn
  have HL := Lib.hid hlen
  clear hn hlen
  obtain ⟨w1, hw1⟩ : ∃ w1, w1 = (w.alloc (.cells #[.int .i64 R, .int .i64 R, .slice A n cap] 26)).alloc (.cells #[.int .i64 0, .int .i64 0, .slice none 0 0] 26) := ⟨_, rfl⟩
  have mb1 : MBox w1 w.heap.size R R (.slice A n cap) := by rw [hw1]; exact (MBox.mk_ _ _ _ _ _).alloc _
  have mr1 : MBox w1 (w.heap.size + 1) 0 0 (.slice none 0 0) := by rw [hw1]; exact MBox.new_ _ _ _ _ _ (by simp)
  have hs1 : w1.heap.size = w.heap.size + 2 := by rw [hw1]; simp
  have hg01 : Grows w w1 := by rw [hw1]; exact bel0
  have ha1 : Rd w1 A l := ha.grows hg01
  have HS1 := Lib.hid hs1
  have HW1 := Lib.hid hw1
  clear hs1 hw1
  go_enter Try.func147, Try.ntmps147
  go_wp2_with fail
  go_loopw [5, 6] (fun o i wr => ∃ (I : Nat) (A4 : Option Addr) (c4 : Nat), i = .int .i64 I ∧ I ≤ k ∧ o = .slice A4 I c4 ∧ Own wr (w.heap.size + 2) (.slice A4 I c4) (iota I) ∧ Grows w1 wr) (fun _ i _ => k - (intOf i).toNat)
  case atStart => exact ⟨0, _, _, rfl, Nat.zero_le _, rfl, Own.new_ _ (by simp) (by omega), by rw [HW1.out]; exact bel0⟩
  case round =>
    obtain ⟨I, A4, c4, rfl, hI, rfl, ho, hg⟩ := hrel
    have hsz := hg.size
    rw [HS1.out] at hsz
    by_cases hlt : I < k
    · go_wp2_with (at_builtin; refine wpList_app1 rfl (.tmp 13) (.tmp 15) rfl _ (I : Int) (w.heap.size + 2) _ (iota I) (by rfl) ho (by rfl) (by rw [iota_length]; omega) (by omega) ?_; intro v7 w7 ho7 hg7 _)
      rw [← iota_succ] at ho7
      obtain ⟨A7, c7, hv7, _, _⟩ := ho7.val
      rw [iota_length] at hv7
      subst hv7
      have hb7 : Below (w.heap.size + 2) wr w7 := below_app ho (by omega) hg7
      rw [← HS1.out] at hb7
      go_round
      case rel => exact ⟨I + 1, _, _, by go_num, by omega, rfl, ho7, by exact bel2 hb7 hg⟩
      case measure => simp [intOf]; omega
    · obtain rfl : I = k := by omega
      have mb := mb1.grows hg
      obtain ⟨b0, b1, b2⟩ := mb.cells
      have mr := mr1.grows hg
      have hio : ∀ i, i < I → 0 ≤ nth (iota I) i ∧ nth (iota I) i < (R : Int) := fun i hi => by rw [iota_nth hi]; omega
      have C1 := fun W X h1 h2 h3 => sPart_c R R A X X l (iota I) (iota I) n I I cap c4 c4 W HN.out (iota_length I) (iota_length I) HL.out (by omega) (by omega) (by omega) (by omega) h1 h2 h3 hio hio
      rw [prt_iota] at C1
      have C1' := Lib.hid C1
      have hrd := ha1.grows hg
      have hro := ho.rd_
      clear C1 hio
      go_wp2_with fail
      refine (C1'.out _ _ (by exact (Rd.grows hrd (by exact bel0))) (by exact (Rd.grows hro (by exact bel0))) (by exact (Rd.grows hro (by exact bel0)))).mono ?_; rintro e w3 ⟨v3, rfl, ho3, g3⟩
      obtain ⟨A3, c3, rfl, _, _⟩ := ho3.val
      obtain ⟨d0, d1, d2⟩ := (mr.grows g3).cells
      have df := (mr.grows g3).fz
      have dl := (mr.grows g3).lt
      go_wp2_with fail
      refine bodyPost_ret (v := .agg #[.int .i64 I, .int .i64 I, .slice A3 (subm I R l).length c3]) ?_ rfl ?_
      · simp [results, Try.results147, go_sem, d0, d1, d2, df]
      · have hs1 := HS1.out
        exact ⟨_, rfl, by exact ownl ho3, by exact bel3 g3 hg hg01⟩

theorem sLMin_c (r c : Int) (A : Option Addr) (l : List Int) (n cap : Nat) (w : World) (hn : l.length = n) (ha : Rd w A l) (hl : n ≤ 1099511627776) :
    Calls Try.prog 136 #[.agg #[.int .i64 r, .int .i64 c, .slice A n cap]] w fun e w' => ∃ v, e = .returned (.tuple #[v, .bool (lmO r c l).isSome]) ∧ Own w' w.heap.size v (oL (lmO r c l)) ∧ Grows w w' := by
  have HS := fun w h => sIsSquare_c r c A l n cap w hn h hl
  cases hq : isSq r c l
  · rw [lmO_no hq]
    rw [hq] at HS
    have HS' := Lib.hid HS
    clear HS hq hn
    have ho0 := Own.new_ (w.alloc (.cells #[.int .i64 r, .int .i64 c, .slice A n cap] 26)) (B := w.heap.size) (b := w.heap.size + 1) (by simp) (by omega)
    by_cases hr : 1 ≤ r
    all_goals
      go_enter Try.func136, Try.ntmps136
      go_wp2_with fail
      refine wp_loop_rounds 1 ?_; rw [rounds_succ]
      go_wp2_with fail
    · refine (HS'.out _ (by exact (Rd.grows ha (by exact bel0)))).mono ?_; rintro e w1 ⟨rfl, g1⟩
      have mb := (MBox.mk_ w r c (.slice A n cap) 26).grows (w' := w1) (by exact bel1 g1)
      obtain ⟨b0, b1, b2⟩ := mb.cells
      go_wp2_with fail
      refine (HS'.out _ (by exact (Rd.grows ha (by exact bel1 g1)))).mono ?_; rintro e w2 ⟨rfl, g2⟩
      go_wp2_with fail
      go_ret2
      exact ⟨_, rfl, (Own.grows ho0 (by exact bel2 g2 g1)), by exact bel2 g2 g1⟩
    · refine (HS'.out _ (by exact (Rd.grows ha (by exact bel0)))).mono ?_; rintro e w1 ⟨rfl, g1⟩
      go_wp2_with fail
      go_ret2
      exact ⟨_, rfl, (Own.grows ho0 (by exact bel1 g1)), by exact bel1 g1⟩
  · obtain ⟨_, R, rfl, rfl, hR, hlen, hnum⟩ := isSq_nat hq
    rw [lmO_yes hq]
    rw [hq] at HS
    have HS' := Lib.hid HS
    have HN := Lib.hid hn
    have HLN := Lib.hid hlen
    have HNU := Lib.hid hnum
    have hn2 : n = R * R := by omega
    have CF := Lib.hid fun (k : Nat) (hk : k ≤ R) W h => sFirst_c R k A l n cap W hn hn2 hR hk h
    obtain ⟨w1, hw1⟩ : ∃ w1, w1 = w.alloc (.cells #[.int .i64 R, .int .i64 R, .slice A n cap] 26) := ⟨_, rfl⟩
    have mb1 : MBox w1 w.heap.size R R (.slice A n cap) := by rw [hw1]; exact MBox.mk_ _ _ _ _ _
    have hg01 : Grows w w1 := by rw [hw1]; exact bel0
    have ha1 : Rd w1 A l := ha.grows hg01
    have hs1 : w1.heap.size = w.heap.size + 1 := by rw [hw1]; simp
    have HW1 := Lib.hid hw1
    have HS1 := Lib.hid hs1
    clear hw1 HS hq hn hlen hnum hs1 hn2
    go_enter Try.func136, Try.ntmps136
    go_wp2_with fail
    go_loopw [4, 5] (fun o k wr => ∃ (K : Nat) (A4 : Option Addr) (L : List Int) (c4 : Nat), k = .int .i64 ((K : Int) + 1) ∧ o = .slice A4 L.length c4 ∧ K ≤ R ∧ lmP R l K = some L ∧ Own wr w1.heap.size (.slice A4 L.length c4) L ∧ Grows w1 wr) (fun _ k _ => R + 1 - (intOf k).toNat)
    case atStart => exact ⟨0, _, [], _, rfl, rfl, Nat.zero_le _, rfl, Own.new_ _ (by simp) (by rw [HS1.out]; omega), by rw [HW1.out]; exact bel0⟩
    case round =>
      obtain ⟨K, A4, L, c4, rfl, rfl, hK, hL, ho, hg⟩ := hrel
      have HL := Lib.hid hL
      have HLL := Lib.hid (lmP_length hL)
      clear hL
      have mb := mb1.grows hg
      obtain ⟨b0, b1, b2⟩ := mb.cells
      have hrd := ha1.grows hg
      by_cases hlt : K < R
      · obtain ⟨N, hN⟩ : ∃ N, N = K + 1 := ⟨_, rfl⟩
        have hNi : (K : Int) + 1 = (N : Int) := by omega
        rw [hNi]
        have hNR : N ≤ R := by omega
        have HNN := Lib.hid hN
        have hsl := subm_length N R l
        have hsn := subm_num hNR HLN.out HNU.out
        have CD := fun W B cap h => sDet_c N (by omega) (subm N R l) B _ cap N W rfl rfl hsl hsn h
        have F0 := Lib.hid fun h => lmP_fail (R := R) (l := l) HL.out (by rw [← HNN.out]; exact h)
        have F1 := Lib.hid fun d h => lmP_some (R := R) (l := l) (d := d) HL.out (by rw [← HNN.out]; exact h)
        have ND := Lib.hid fun d h => detO_num (n := N) (l := subm N R l) (d := d) h
        have hsz := hg.size
        have hle : (N : Int) ≤ (R : Int) := by omega
        clear hN hsl hsn
        generalize detO N (subm N R l) = D at *
        cases D with
        | none =>
          have FD := Lib.hid (lmP_none (k := R) (F0.out rfl) (by omega))
          rw [show oBad none = -4611686018427387904 from rfl] at CD
          have CD' := Lib.hid CD
          clear CD
          go_wp2_with fail
          refine (HS'.out _ hrd).mono ?_; rintro e w2 ⟨rfl, g2⟩
          clear b0 b1 b2
          obtain ⟨b0, b1, b2⟩ := (mb.grows g2).cells
          go_wp2_with fail
          refine (CF.out N hNR _ (by exact (Rd.grows hrd (by exact bel1 g2)))).mono ?_; rintro e w3 ⟨v3, rfl, ho3, g3⟩
          obtain ⟨A3, c3, rfl, hr3, _⟩ := ho3.val
          go_wp2_with fail
          refine (CD'.out _ _ _ (by exact (Rd.grows hr3 (by exact bel0)))).mono ?_; rintro e w6 ⟨rfl, g6⟩
          go_wp2_with fail
          go_ret2
          exact ⟨_, by rw [FD.out]; rfl, by rw [FD.out]; exact Own.new_ _ rfl (by have := hg01.size; have := g2.size; have := g3.size; have := g6.size; omega), by exact bel5 g6 g3 g2 hg hg01⟩
        | some d =>
          have FD := Lib.hid (F1.out d rfl)
          rw [show oBad (some d) = d from rfl] at CD
          have CD' := Lib.hid CD
          have hd4 := (isNum_iff _).1 (ND.out d rfl)
          have hdb : (d == -4611686018427387904) = false := by rw [beq_eq_false_iff_ne]; omega
          clear CD
          go_wp2_with fail
          refine (HS'.out _ hrd).mono ?_; rintro e w2 ⟨rfl, g2⟩
          clear b0 b1 b2
          obtain ⟨b0, b1, b2⟩ := (mb.grows g2).cells
          go_wp2_with fail
          refine (CF.out N hNR _ (by exact (Rd.grows hrd (by exact bel1 g2)))).mono ?_; rintro e w3 ⟨v3, rfl, ho3, g3⟩
          obtain ⟨A3, c3, rfl, hr3, _⟩ := ho3.val
          go_wp2_with fail
          refine (CD'.out _ _ _ (by exact (Rd.grows hr3 (by exact bel0)))).mono ?_; rintro e w6 ⟨rfl, g6⟩
          have hs6 : w1.heap.size ≤ w6.heap.size := by have := g2.size; have := g3.size; have := g6.size; omega
          have ho6 := ((ho.grows g2).grows g3).grows g6
          go_wp2_with (at_builtin; refine wpList_app1 rfl (.tmp 25) (.tmp 27) rfl _ d w1.heap.size _ L (by rfl) ho6 (by rfl) (by have := HLL.out; omega) (by omega) ?_; intro v7 w7 ho7 hg7 _)
          obtain ⟨A7, c7, rfl, _, _⟩ := ho7.val
          have hb7 : Below w1.heap.size w6 w7 := below_app ho6 (by omega) hg7
          have hNi2 : (N : Int) + 1 = ((K + 1 : Nat) : Int) + 1 := by have := HNN.out; omega
          go_round
          case rel => exact ⟨K + 1, _, _, _, by rw [← hNi2], rfl, by omega, FD.out, ho7, by exact bel5 hb7 g6 g3 g2 hg⟩
          case measure => simp [intOf]; omega
      · obtain rfl : K = R := by omega
        have hlt' : ¬ ((K : Int) + 1 ≤ (K : Int)) := by omega
        go_wp2_with fail
        refine (HS'.out _ hrd).mono ?_; rintro e w2 ⟨rfl, g2⟩
        go_wp2_with fail
        go_ret2
        have hs1 := HS1.out
        exact ⟨_, by rw [HL.out]; rfl, by rw [HL.out]; exact (ho.grows g2).less (by omega), by exact bel3 g2 hg hg01⟩
end
end Go.Proofs.Ythajmffhgbenpaa

/- Determinants of small squares, in plain numbers: linear in each row, 0 with two equal rows; condensation; a symmetric form with positive leading minors is positive. -/
namespace Go.Proofs.Ythajmffhgbenpaa
set_option linter.unusedSimpArgs false
set_option linter.unusedVariables false

/-! ### determinants -/
def skip (j b : Nat) : Nat := if b < j then b else b + 1
def dets : Nat → (Nat → Nat → Int) → Int
  | 0, _ => 1
  | n + 1, f => sumN (n + 1) fun j => sgn j * f 0 j * dets n fun a b => f (a + 1) (skip j b)
theorem skip_lt {j b n : Nat} (h : b < n) (_ : j ≤ n) : skip j b < n + 1 := by unfold skip; split <;> omega
theorem dets_congr {n : Nat} {f g : Nat → Nat → Int} (h : ∀ i j, i < n → j < n → f i j = g i j) : dets n f = dets n g := by
  induction n generalizing f g with
  | zero => rfl
  | succ n ih =>
    simp only [dets]
    refine sumN_congr fun j hj => ?_
    rw [h 0 j (by omega) hj, ih fun a b ha hb => h (a + 1) (skip j b) (by omega) (skip_lt hb (by omega))]
def setR (f : Nat → Nat → Int) (i : Nat) (r : Nat → Int) : Nat → Nat → Int := fun a b => if a = i then r b else f a b
theorem setR_up (f : Nat → Nat → Int) (i j : Nat) (r : Nat → Int) : (fun a b => setR f (i + 1) r (a + 1) (skip j b)) = setR (fun a b => f (a + 1) (skip j b)) i (fun b => r (skip j b)) := by
  funext a b
  unfold setR
  by_cases h : a = i <;> simp [h]
theorem setR_self (f : Nat → Nat → Int) (i : Nat) : setR f i (f i) = f := by
  funext a b; unfold setR; split
  · rename_i h; rw [h]
  · rfl
theorem dets_lin (n : Nat) (f : Nat → Nat → Int) (i : Nat) (hi : i < n) (r s : Nat → Int) (c d : Int) :
    dets n (setR f i fun b => c * r b + d * s b) = c * dets n (setR f i r) + d * dets n (setR f i s) := by
  induction n generalizing f i r s with
  | zero => omega
  | succ n ih =>
    cases i with
    | zero =>
      simp only [dets]
      rw [← sumN_mul, ← sumN_mul, ← sumN_add]
      refine sumN_congr fun j _ => ?_
      simp only [setR, if_true, Nat.add_one_ne_zero, if_false]
      generalize dets n _ = D
      rw [Int.mul_add, Int.add_mul]
      congr 1 <;> ac_rfl
    | succ i =>
      simp only [dets]
      rw [← sumN_mul, ← sumN_mul, ← sumN_add]
      refine sumN_congr fun j _ => ?_
      rw [setR_up, setR_up, setR_up, ih _ _ (by omega)]
      have e : ∀ q : Nat → Int, setR f (i + 1) q 0 j = f 0 j := fun q => by simp [setR]
      rw [e, e, e, Int.mul_add]
      congr 1 <;> ac_rfl
theorem skip_skip {j k : Nat} (h : k < j) (b : Nat) : skip j (skip k b) = skip k (skip (j - 1) b) := by
  unfold skip
  by_cases h1 : b < k
  · simp only [h1, if_true]
    rw [if_pos (by omega), if_pos (show b < j - 1 by omega), if_pos h1]
  · simp only [h1, if_false]
    by_cases h2 : b < j - 1
    · rw [if_pos (by omega), if_pos h2, if_neg h1]
    · rw [if_neg (by omega), if_neg h2, if_neg (by omega)]
theorem sgn_sq (j : Nat) : sgn j * sgn j = 1 := by unfold sgn; split <;> rfl
theorem sgn_add (i j : Nat) : sgn (i + j) = sgn i * sgn j := by
  induction j with
  | zero => simp [sgn]
  | succ j ih => rw [← Nat.add_assoc, sgn_succ, sgn_succ, ih, Int.mul_neg]
theorem dets_two (m : Nat) (f : Nat → Nat → Int) (h : ∀ b, f 0 b = f 1 b) : dets (m + 2) f = 0 := by
  obtain ⟨T, hT⟩ : ∃ T : Nat → Nat → Int, T = fun j k => sgn j * f 0 j * (sgn k * f 1 (skip j k) * dets m fun a b => f (a + 2) (skip j (skip k b))) := ⟨_, rfl⟩
  have e0 : dets (m + 2) f = sumN (m + 2) fun j => sumN (m + 1) fun k => T j k := by
    subst hT
    simp only [dets]
    refine sumN_congr fun j _ => ?_
    rw [← sumN_mul]
  have anti : ∀ j k, j ≤ k → T j k = - T (k + 1) j := by
    intro j k hjk
    subst hT
    simp only
    have e1 : (fun a b => f (a + 2) (skip (k + 1) (skip j b))) = fun a b => f (a + 2) (skip j (skip k b)) := by
      funext a b; rw [skip_skip (by omega)]; rfl
    rw [e1, sgn_succ, show skip j k = k + 1 by unfold skip; rw [if_neg (by omega)], show skip (k + 1) j = j by unfold skip; rw [if_pos (by omega)], h j, h (k + 1)]
    generalize dets m _ = D
    simp only [Int.neg_mul, Int.neg_neg]
    ac_rfl
  have split : ∀ j k, T j k = (if k < j then T j k else 0) + (if k < j then 0 else T j k) := by
    intro j k; split <;> omega
  have eL : sumN (m + 2) (fun j => sumN (m + 1) fun k => if k < j then T j k else 0) = sumN (m + 1) fun j => sumN (m + 1) fun k => if k ≤ j then T (j + 1) k else 0 := by
    rw [sumN_first, sumN_zero (n := m + 1) (fun k _ => if_neg (by omega)), Int.zero_add]
    refine sumN_congr fun j _ => sumN_congr fun k _ => ?_
    by_cases hk : k ≤ j
    · rw [if_pos (by omega), if_pos hk]
    · rw [if_neg (by omega), if_neg hk]
  have eU : sumN (m + 2) (fun j => sumN (m + 1) fun k => if k < j then 0 else T j k) = sumN (m + 1) fun k => sumN (m + 1) fun j => if j ≤ k then - T (k + 1) j else 0 := by
    rw [sumN_swap]
    refine sumN_congr fun k hk => ?_
    rw [sumN, if_pos (by omega), Int.add_zero]
    refine sumN_congr fun j _ => ?_
    by_cases hj : j ≤ k
    · rw [if_neg (by omega), if_pos hj, anti j k hj]
    · rw [if_pos (by omega), if_neg hj]
  rw [e0, sumN_congr fun j _ => sumN_congr fun k _ => split j k, sumN_congr fun j _ => sumN_add _ _ _, sumN_add, eL, eU, ← sumN_add]
  refine sumN_zero fun j _ => ?_
  rw [← sumN_add]
  refine sumN_zero fun k _ => ?_
  split <;> omega
/-- two neighbouring rows are alike -/
theorem dets_adj (n : Nat) (f : Nat → Nat → Int) (i : Nat) (hi : i + 1 < n) (h : ∀ b, f i b = f (i + 1) b) : dets n f = 0 := by
  induction n generalizing f i with
  | zero => omega
  | succ n ih =>
    cases i with
    | zero =>
      obtain ⟨m, rfl⟩ : ∃ m, n = m + 1 := ⟨n - 1, by omega⟩
      exact dets_two m f h
    | succ i =>
      simp only [dets]
      refine sumN_zero fun j _ => ?_
      rw [ih _ i (by omega) fun b => h (skip j b), Int.mul_zero]
theorem dets_row_zero (n : Nat) (f : Nat → Nat → Int) (i : Nat) (hi : i < n) (h : ∀ b, f i b = 0) : dets n f = 0 := by
  have := dets_lin n f i hi (fun _ => 0) (fun _ => 0) 0 0
  simp only [Int.zero_mul, Int.add_zero] at this
  rw [← this]
  congr 1
  funext a b; unfold setR
  by_cases e : a = i
  · rw [if_pos e, e, h]
  · rw [if_neg e]
theorem dets_add (n : Nat) (f : Nat → Nat → Int) (i : Nat) (hi : i < n) (r s : Nat → Int) : dets n (setR f i fun b => r b + s b) = dets n (setR f i r) + dets n (setR f i s) := by
  have := dets_lin n f i hi r s 1 1
  simpa using this
/-- neighbouring rows change places -/
theorem dets_swap (n : Nat) (f : Nat → Nat → Int) (i : Nat) (hi : i + 1 < n) (r s : Nat → Int) : dets n (setR (setR f i r) (i + 1) s) = - dets n (setR (setR f i s) (i + 1) r) := by
  have z : ∀ q : Nat → Int, dets n (setR (setR f i q) (i + 1) q) = 0 := fun q => dets_adj n _ i hi fun b => by
    show setR (setR f i q) (i + 1) q i b = setR (setR f i q) (i + 1) q (i + 1) b
    simp [setR]
  have comm : ∀ p q : Nat → Int, setR (setR f i p) (i + 1) q = setR (setR f (i + 1) q) i p := fun p q => by
    funext a b; unfold setR
    by_cases h1 : a = i + 1
    · rw [if_pos h1, if_neg (by omega), if_pos h1]
    · rw [if_neg h1]; split <;> first | rfl | simp [h1]
  have h := z fun b => r b + s b
  rw [dets_add n _ (i + 1) hi, comm, comm, dets_add n _ i (by omega), dets_add n _ i (by omega), ← comm, ← comm, ← comm, ← comm, z, z] at h
  omega
/-- rows i and k are alike -/
theorem dets_alike (n : Nat) (d : Nat) : ∀ (f : Nat → Nat → Int) (i : Nat), i + d + 1 < n → (∀ b, f i b = f (i + d + 1) b) → dets n f = 0 := by
  induction d with
  | zero => intro f i hi h; exact dets_adj n f i hi h
  | succ d ih =>
    intro f i hi h
    have e : f = setR (setR f (i + d + 1) (f (i + d + 1))) (i + d + 1 + 1) (f (i + d + 1 + 1)) := by rw [setR_self, setR_self]
    rw [e, dets_swap n f (i + d + 1) (by omega)]
    rw [ih (setR (setR f (i + d + 1) (f (i + d + 1 + 1))) (i + d + 1 + 1) (f (i + d + 1))) i (by omega) (fun b => ?_)]
    · rfl
    · show setR (setR f (i + d + 1) (f (i + d + 1 + 1))) (i + d + 1 + 1) (f (i + d + 1)) i b = setR (setR f (i + d + 1) (f (i + d + 1 + 1))) (i + d + 1 + 1) (f (i + d + 1)) (i + d + 1) b
      simp only [setR]
      rw [if_neg (by omega), if_neg (by omega), if_neg (by omega), h b]
      simp [Nat.add_assoc]
theorem dets_equal (n : Nat) (f : Nat → Nat → Int) (i k : Nat) (hi : i < n) (hk : k < n) (hne : i ≠ k) (h : ∀ b, f i b = f k b) : dets n f = 0 := by
  rcases Nat.lt_or_gt_of_ne hne with hlt | hlt
  · obtain ⟨d, rfl⟩ : ∃ d, k = i + d + 1 := ⟨k - i - 1, by omega⟩
    exact dets_alike n d f i hk h
  · obtain ⟨d, rfl⟩ : ∃ d, i = k + d + 1 := ⟨i - k - 1, by omega⟩
    exact dets_alike n d f k hi fun b => (h b).symm
/-- row i times c, plus d times row k -/
theorem dets_row (n : Nat) (f : Nat → Nat → Int) (i k : Nat) (hi : i < n) (hk : k < n) (hne : i ≠ k) (c d : Int) : dets n (setR f i fun b => c * f i b + d * f k b) = c * dets n f := by
  rw [dets_lin n f i hi, setR_self, dets_equal n (setR f i (f k)) i k hi hk hne (fun b => by simp [setR, Ne.symm hne]), Int.mul_zero, Int.add_zero]
theorem dets_col_zero (n : Nat) (f : Nat → Nat → Int) (h : ∀ a, f a 0 = 0) : dets (n + 1) f = 0 := by
  induction n generalizing f with
  | zero => simp [dets, sumN, h]
  | succ n ih =>
    rw [dets]
    refine sumN_zero fun j _ => ?_
    by_cases hj : j = 0
    · rw [hj, h, Int.mul_zero, Int.zero_mul]
    · rw [ih _ fun a => by rw [show skip j 0 = 0 by unfold skip; rw [if_pos (by omega)], h], Int.mul_zero]
theorem dets_corner (n : Nat) (f : Nat → Nat → Int) (h : ∀ a, f (a + 1) 0 = 0) : dets (n + 1) f = f 0 0 * dets n fun a b => f (a + 1) (b + 1) := by
  rw [dets, sumN_first]
  have e : sgn 0 * f 0 0 * dets n (fun a b => f (a + 1) (skip 0 b)) = f 0 0 * dets n fun a b => f (a + 1) (b + 1) := by
    rw [show sgn 0 = 1 from rfl, Int.one_mul]
    rfl
  rw [e]
  suffices hs : sumN n (fun j => sgn (j + 1) * f 0 (j + 1) * dets n fun a b => f (a + 1) (skip (j + 1) b)) = 0 by rw [hs, Int.add_zero]
  refine sumN_zero fun j hj => ?_
  obtain ⟨m, rfl⟩ : ∃ m, n = m + 1 := ⟨n - 1, by omega⟩
  rw [dets_col_zero m _ fun a => by rw [show skip (j + 1) 0 = 0 by unfold skip; rw [if_pos (by omega)], h], Int.mul_zero]

/-- condensation: the rows 1 to k cleared -/
def clr (f : Nat → Nat → Int) (k : Nat) : Nat → Nat → Int := fun a b => if 1 ≤ a ∧ a ≤ k then f 0 0 * f a b - f a 0 * f 0 b else f a b
theorem clr_zero (f : Nat → Nat → Int) : clr f 0 = f := by funext a b; unfold clr; rw [if_neg (by omega)]
theorem clr_dets (n : Nat) (f : Nat → Nat → Int) (k : Nat) (hk : k < n) : dets n (clr f k) = f 0 0 ^ k * dets n f := by
  induction k with
  | zero => rw [clr_zero, Int.pow_zero, Int.one_mul]
  | succ k ih =>
    have e : clr f (k + 1) = setR (clr f k) (k + 1) fun b => f 0 0 * clr f k (k + 1) b + (- f (k + 1) 0) * clr f k 0 b := by
      funext a b
      unfold setR clr
      by_cases h : a = k + 1
      · subst h; simp only [if_true]
        rw [if_pos (by omega), if_neg (by omega), if_neg (by omega), Int.neg_mul]; omega
      · rw [if_neg h]
        by_cases h2 : 1 ≤ a ∧ a ≤ k
        · rw [if_pos h2, if_pos (by omega)]
        · rw [if_neg h2, if_neg (by omega)]
    rw [e, dets_row n (clr f k) (k + 1) 0 hk (by omega) (by omega), ih (by omega), Int.pow_succ]
    ac_rfl
/-- the condensed square -/
def cond (f : Nat → Nat → Int) : Nat → Nat → Int := fun a b => f 0 0 * f (a + 1) (b + 1) - f (a + 1) 0 * f 0 (b + 1)
theorem cond_dets (n : Nat) (f : Nat → Nat → Int) : f 0 0 * dets n (cond f) = f 0 0 ^ n * dets (n + 1) f := by
  have e1 : dets (n + 1) (clr f n) = dets (n + 1) (fun a b => if 1 ≤ a then f 0 0 * f a b - f a 0 * f 0 b else f a b) := dets_congr fun i j hi _ => by
    unfold clr
    by_cases h : 1 ≤ i
    · rw [if_pos (by omega), if_pos h]
    · rw [if_neg (by omega), if_neg h]
  rw [← clr_dets (n + 1) f n (by omega), e1, dets_corner n _ (fun a => by rw [if_pos (by omega), Int.mul_comm]; omega)]
  rw [if_neg (by omega)]
  congr 1

/-! ### symmetric forms -/
def qf (n : Nat) (f : Nat → Nat → Int) (v : Nat → Int) : Int := sumN n fun i => sumN n fun j => v i * f i j * v j
theorem qf_cond (n : Nat) (f : Nat → Nat → Int) (v : Nat → Int) (hs : ∀ i, i < n → f (i + 1) 0 = f 0 (i + 1)) :
    f 0 0 * qf (n + 1) f v = (f 0 0 * v 0 + sumN n fun j => f 0 (j + 1) * v (j + 1)) * (f 0 0 * v 0 + sumN n fun j => f 0 (j + 1) * v (j + 1)) + qf n (cond f) fun i => v (i + 1) := by
  obtain ⟨L, hL⟩ : ∃ L, L = sumN n fun j => f 0 (j + 1) * v (j + 1) := ⟨_, rfl⟩
  obtain ⟨S, hS⟩ : ∃ S, S = sumN n fun i => sumN n fun j => v (i + 1) * f (i + 1) (j + 1) * v (j + 1) := ⟨_, rfl⟩
  have e1 : qf (n + 1) f v = v 0 * f 0 0 * v 0 + v 0 * L + (L * v 0 + S) := by
    unfold qf
    rw [sumN_first, sumN_first]
    have a1 : sumN n (fun j => v 0 * f 0 (j + 1) * v (j + 1)) = v 0 * L := by
      rw [hL, ← sumN_mul]; exact sumN_congr fun j _ => by ac_rfl
    have a2 : sumN n (fun i => sumN (n + 1) fun j => v (i + 1) * f (i + 1) j * v j) = L * v 0 + S := by
      rw [show (fun i => sumN (n + 1) fun j => v (i + 1) * f (i + 1) j * v j) = fun i => v (i + 1) * f (i + 1) 0 * v 0 + sumN n fun j => v (i + 1) * f (i + 1) (j + 1) * v (j + 1) from funext fun i => sumN_first _ _, sumN_add, hS, hL, Int.mul_comm _ (v 0), ← sumN_mul]
      congr 1
      exact sumN_congr fun i hi => by rw [hs i hi]; ac_rfl
    rw [a1, a2]
  have e2 : qf n (cond f) (fun i => v (i + 1)) = f 0 0 * S - L * L := by
    have a3 : qf n (cond f) (fun i => v (i + 1)) = sumN n (fun i => f 0 0 * (sumN n fun j => v (i + 1) * f (i + 1) (j + 1) * v (j + 1)) + (- (f 0 (i + 1) * v (i + 1))) * L) := by
      unfold qf
      refine sumN_congr fun i hi => ?_
      rw [hL, ← sumN_mul, ← sumN_mul, ← sumN_add]
      refine sumN_congr fun j _ => ?_
      show v (i + 1) * (f 0 0 * f (i + 1) (j + 1) - f (i + 1) 0 * f 0 (j + 1)) * v (j + 1) = _
      rw [hs i hi, Int.mul_sub, Int.sub_mul, Int.neg_mul, ← Int.sub_eq_add_neg]
      congr 1 <;> ac_rfl
    rw [a3, sumN_add, sumN_mul, ← hS]
    rw [show (fun i => -(f 0 (i + 1) * v (i + 1)) * L) = fun i => (- L) * (f 0 (i + 1) * v (i + 1)) from funext fun i => by rw [Int.neg_mul, Int.neg_mul, Int.mul_comm], sumN_mul, ← hL, Int.neg_mul, ← Int.sub_eq_add_neg]
  rw [e1, e2, ← hL]
  grind
theorem powPos {x : Int} (h : 0 < x) (k : Nat) : 0 < x ^ k := by
  induction k with
  | zero => rw [Int.pow_zero]; decide
  | succ k ih => rw [Int.pow_succ]; exact Int.mul_pos ih h
theorem pos_def (n : Nat) : ∀ (f : Nat → Nat → Int), (∀ i j, i < n → j < n → f i j = f j i) → (∀ k, 1 ≤ k → k ≤ n → 0 < dets k f) → ∀ v : Nat → Int, (∃ i, i < n ∧ v i ≠ 0) → 0 < qf n f v := by
  induction n with
  | zero => intro f _ _ v ⟨i, hi, _⟩; omega
  | succ n ih =>
    intro f hs hd v hv
    have h00 : 0 < f 0 0 := by
      have := hd 1 (by omega) (by omega)
      simpa [dets, sumN, sgn] using this
    have hq := qf_cond n f v fun i hi => hs (i + 1) 0 (by omega) (by omega)
    have hsq : ∀ x : Int, 0 ≤ x * x := fun x => by rcases Int.le_total 0 x with h | h; exact Int.mul_nonneg h h; exact Int.mul_nonneg_of_nonpos_of_nonpos h h
    have key : 0 < f 0 0 * qf (n + 1) f v := by
      rw [hq]
      by_cases hz : ∃ i, i < n ∧ v (i + 1) ≠ 0
      · have := ih (cond f) (fun i j hi hj => by
          unfold cond
          rw [hs (i + 1) (j + 1) (by omega) (by omega), hs (i + 1) 0 (by omega) (by omega), hs 0 (j + 1) (by omega) (by omega)]
          congr 1; exact Int.mul_comm _ _) (fun k h1 h2 => by
          have e := cond_dets k f
          have p1 := Int.mul_pos (powPos h00 k) (hd (k + 1) (by omega) (by omega))
          rw [← e] at p1
          rcases Int.lt_or_le 0 (dets k (cond f)) with h | h
          · exact h
          · have := Int.mul_nonpos_of_nonneg_of_nonpos (Int.le_of_lt h00) h
            omega) (fun i => v (i + 1)) hz
        have := hsq (f 0 0 * v 0 + sumN n fun j => f 0 (j + 1) * v (j + 1))
        omega
      · have hz' : ∀ i, i < n → v (i + 1) = 0 := fun i hi => Classical.byContradiction fun h => hz ⟨i, hi, h⟩
        have h0 : v 0 ≠ 0 := by
          obtain ⟨i, hi, hne⟩ := hv
          cases i with
          | zero => exact hne
          | succ i => exact absurd (hz' i (by omega)) hne
        rw [sumN_zero (fun j hj => by rw [hz' j hj, Int.mul_zero]), Int.add_zero]
        have e2 : qf n (cond f) (fun i => v (i + 1)) = 0 := by
          unfold qf
          exact sumN_zero fun i hi => sumN_zero fun j _ => by show v (i + 1) * cond f i j * v (j + 1) = 0; rw [hz' i hi, Int.zero_mul, Int.zero_mul]
        rw [e2, Int.add_zero]
        have hne : f 0 0 * v 0 ≠ 0 := Int.mul_ne_zero (by omega) h0
        have := hsq (f 0 0 * v 0)
        have := Int.mul_ne_zero hne hne
        omega
    rcases Int.lt_or_le 0 (qf (n + 1) f v) with h | h
    · exact h
    · have := Int.mul_nonpos_of_nonneg_of_nonpos (Int.le_of_lt h00) h
      omega

/-! ### the expansions as the program makes them -/
theorem crs_mono {C : Nat} {l : List Int} {ri ci k m i : Nat} (hk : k ≤ m) (hi : i < (crs C l ri ci k).length) : nth (crs C l ri ci m) i = nth (crs C l ri ci k) i ∧ i < (crs C l ri ci m).length := by
  induction m with
  | zero => obtain rfl : k = 0 := by omega
            exact ⟨rfl, hi⟩
  | succ m ih =>
    by_cases e : k = m + 1
    · subst e; exact ⟨rfl, hi⟩
    · obtain ⟨h1, h2⟩ := ih (by omega)
      rw [crs]
      exact ⟨by rw [nth_append_left _ _ _ h2, h1], by rw [List.length_append]; omega⟩
theorem crs_nth {R C : Nat} {l : List Int} {ri ci a b : Nat} (hri : ri < R) (hci : ci < C) (ha : a < R - 1) (hb : b < C - 1) : nth (crs C l ri ci (R * C)) (a * (C - 1) + b) = nth l (skip ri a * C + skip ci b) := by
  have hI : skip ri a < R := by unfold skip; split <;> omega
  have hJ : skip ci b < C := by unfold skip; split <;> omega
  have hI2 : skip ri a ≠ ri := by unfold skip; split <;> omega
  have hJ2 : skip ci b ≠ ci := by unfold skip; split <;> omega
  have hlen : (crs C l ri ci (skip ri a * C + skip ci b)).length = a * (C - 1) + b := by
    rw [crs_len_row _ (by omega), crs_len hci, if_neg hI2]
    congr 1
    · congr 1
      unfold skip
      by_cases h : a < ri
      · rw [if_pos h, if_neg (by omega)]
      · rw [if_neg h, if_pos (by omega)]; omega
    · unfold skip
      by_cases h : b < ci
      · rw [if_pos h, if_neg (by omega)]
      · rw [if_neg h, if_pos (by omega)]; omega
  have hk : skip ri a * C + (skip ci b + 1) ≤ R * C := by have := idx_lt hI hJ; omega
  have hlen2 : a * (C - 1) + b < (crs C l ri ci (skip ri a * C + (skip ci b + 1))).length := by rw [crs_take hJ hI2 hJ2, List.length_append, hlen]; simp
  rw [(crs_mono hk hlen2).1, crs_take hJ hI2 hJ2, nth_append_right _ _ _ (by omega), hlen, Nat.sub_self]
  rfl
def fnOf (C : Nat) (l : List Int) : Nat → Nat → Int := fun i j => nth l (i * C + j)
theorem dpart_sum {D : List Int → Option Int} {C : Nat} {l : List Int} {j : Nat} {s : Int} (h : dpart D C l j = some s) (E : Nat → Int) (hE : ∀ i d, i < j → D (crs C l 0 i (C * C)) = some d → d = E i) : s = sumN j fun i => sgn i * nth l i * E i := by
  induction j generalizing s with
  | zero => cases h; rfl
  | succ j ih =>
    rw [dpart] at h
    obtain ⟨s', h1, h2⟩ := Option.bind_eq_some_iff.1 h
    have := ih h1 fun i d hi => hE i d (by omega)
    rw [sumN, ← this]
    split at h2
    · rename_i hz; cases h2; rw [hz]; simp
    · obtain ⟨d, h3, rfl⟩ := Option.map_eq_some_iff.1 h2
      rw [hE j d (by omega) h3]
theorem detO_dets (n : Nat) : ∀ (l : List Int) (d : Int), detO n l = some d → dets n (fnOf n l) = d := by
  induction n with
  | zero => intro l d h; cases h; rfl
  | succ n ih =>
    intro l d h
    rw [detO] at h
    obtain ⟨s, h1, h2⟩ := Option.bind_eq_some_iff.1 h
    obtain ⟨rfl, _⟩ := numO_some h2
    rw [dpart_sum h1 (fun j => dets n fun a b => fnOf (n + 1) l (a + 1) (skip j b)) fun i d hi hd => ?_]
    · rw [dets]
      exact sumN_congr fun j hj => by simp [fnOf]
    · rw [← ih _ _ hd]
      exact dets_congr fun a b ha hb => by
        have := crs_nth (R := n + 1) (C := n + 1) (l := l) (ri := 0) (ci := i) (a := a) (b := b) (by omega) (by omega) (by omega) (by omega)
        simp only [Nat.add_sub_cancel] at this
        unfold fnOf
        rw [this]
        rfl
theorem lmP_get {R : Nat} {l s : List Int} {m : Nat} (h : lmP R l m = some s) {k : Nat} (hk : k < m) : detO (k + 1) (subm (k + 1) R l) = some (nth s k) := by
  induction m generalizing s with
  | zero => omega
  | succ m ih =>
    rw [lmP] at h
    obtain ⟨s', h1, h2⟩ := Option.bind_eq_some_iff.1 h
    obtain ⟨d, h3, rfl⟩ := Option.map_eq_some_iff.1 h2
    have hl := lmP_length h1
    by_cases e : k = m
    · subst e; rw [h3, nth_append_right _ _ _ (by omega), hl, Nat.sub_self]; rfl
    · rw [nth_append_left _ _ _ (by omega)]; exact ih h1 (by omega)
theorem lmP_dets {R : Nat} {l s : List Int} (h : lmP R l R = some s) {k : Nat} (h1 : 1 ≤ k) (hk : k ≤ R) : dets k (fnOf R l) = nth s (k - 1) := by
  obtain ⟨j, rfl⟩ : ∃ j, k = j + 1 := ⟨k - 1, by omega⟩
  have := detO_dets _ _ _ (lmP_get h (k := j) (by omega))
  rw [Nat.add_sub_cancel, ← this]
  exact dets_congr fun a b ha hb => by unfold fnOf subm; rw [tab_nth _ ha hb]
/-- all leading minors are positive: so is every value -/
theorem sylvester {R : Nat} {l s : List Int} (hl : l.length = R * R) (hs : symB R l = true) (h : lmP R l R = some s) (hp : ∀ k, k < R → 0 < nth s k) (v : Nat → Int) (hv : ∃ i, i < R ∧ v i ≠ 0) : 0 < qf R (fnOf R l) v :=
  pos_def R (fnOf R l) (fun i j hi hj => by
    rcases Nat.lt_trichotomy i j with e | e | e
    · exact ((symB_iff hl).1 hs j i hj e).symm
    · rw [e]
    · exact (symB_iff hl).1 hs i j hi e) (fun k h1 hk => by rw [lmP_dets h h1 hk]; exact hp _ (by omega)) v hv
end Go.Proofs.Ythajmffhgbenpaa

/- Contracts: definite forms. -/
namespace Go.Proofs.Ythajmffhgbenpaa
set_option linter.unusedSimpArgs false
set_option linter.unusedVariables false
open Go.RowKit

/-! ### plain -/
def allPos (s : List Int) : Bool := s.all fun x => decide (0 < x)
theorem allPos_iff (s : List Int) : allPos s = true ↔ ∀ i, i < s.length → 0 < nth s i := by
  unfold allPos
  rw [List.all_eq_true]
  constructor
  · intro h i hi
    rw [nth_get s i hi]
    simpa using h _ (List.getElem_mem hi)
  · intro h x hx
    obtain ⟨i, hi, rfl⟩ := List.getElem_of_mem hx
    have := h i hi
    rw [nth_get s i hi] at this
    simpa using this
/-- is a form definite? -/
def isDef (r c : Int) (l : List Int) : Bool := (lmO r c l).isSome && allPos (oL (lmO r c l)) && isGram r c l

def posUpto (s : List Int) (k : Nat) : Bool := allPos (s.take k)
theorem posUpto_zero (s : List Int) : posUpto s 0 = true := rfl
theorem posUpto_succ {s : List Int} {k : Nat} (h : k < s.length) : posUpto s (k + 1) = (posUpto s k && decide (0 < nth s k)) := by
  unfold posUpto allPos
  rw [List.take_succ_eq_append_getElem h, List.all_append, nth_get s k h]; simp
theorem posUpto_all (s : List Int) : posUpto s s.length = allPos s := by unfold posUpto; rw [List.take_length]

section
set_option maxHeartbeats 1000000
theorem iIsDef_c (r c : Int) (A : Option Addr) (l : List Int) (n cap : Nat) (w : World) (hn : l.length = n) (hcap : n ≤ cap) (hcap2 : cap ≤ 9223372036854775807) (ha : Rd w A l) (hl : n ≤ 1099511627776) :
    Calls Try.prog 78 #[.agg #[.int .i64 r, .int .i64 c, .slice A n cap]] w fun e w' => e = .returned (.bool (isDef r c l)) ∧ Grows w w' := by
  have HL := Lib.hid fun W h => iLMin_c r c A l n cap W hn hcap hcap2 h hl
  have HG := Lib.hid fun W h => iIsGram_c r c A l n cap W hn h hl
  have hsl : (oL (lmO r c l)).length ≤ 6 := by
    cases hx : lmO r c l with
    | none => simp [oL]
    | some s => exact lmO_length hx
  unfold isDef
  clear hn
  generalize oL (lmO r c l) = S at *
  generalize (lmO r c l).isSome = ok at *
  generalize isGram r c l = gb at *
  obtain ⟨w1, hw1⟩ : ∃ w1, w1 = w.alloc (.cells #[.int .i64 r, .int .i64 c, .slice A n cap] 26) := ⟨_, rfl⟩
  have mb1 : MBox w1 w.heap.size r c (.slice A n cap) := by rw [hw1]; exact MBox.mk_ _ _ _ _ _
  have g01 : Grows w w1 := by rw [hw1]; exact bel0
  have HW1 := Lib.hid hw1
  clear hw1
  go_enter Try.func78, Try.ntmps78
  go_wp2_with fail
  refine (HL.out _ (by exact (Rd.grows ha (by exact bel0)))).mono ?_; rintro e w2 ⟨v2, rfl, ho2, g2⟩
  rw [← HW1.out] at g2 ho2
  obtain ⟨A2, c2, rfl, hr2, _⟩ := ho2.val
  go_wp2_with fail
  go_loop [4, 14] (fun o i => ∃ I : Nat, i = .int .i64 I ∧ I ≤ S.length ∧ o = .bool (ok && posUpto S I)) (fun _ i => S.length - (intOf i).toNat)
  case atStart => exact ⟨0, rfl, Nat.zero_le _, by rw [posUpto_zero, Bool.and_true]⟩
  case round =>
    obtain ⟨I, rfl, hI, rfl⟩ := hrel
    by_cases hlt : I < S.length
    · obtain ⟨b, off, rfl, hbs, hcell⟩ := hr2.at_ I hlt
      have HP := Lib.hid (posUpto_succ hlt)
      have i1 : (I : Int) < (S.length : Int) := by omega
      generalize hpo : (ok && posUpto S I) = po at *
      have HPO := Lib.hid hpo
      clear hpo
      cases po
      · go_wp2_with fail
        go_round
        case rel => exact ⟨I + 1, by go_num, by omega, by rw [HP.out, ← Bool.and_assoc, HPO.out]; rfl⟩
        case measure => simp [intOf]; omega
      · go_wp2_with fail
        go_round
        case rel => exact ⟨I + 1, by go_num, by omega, by rw [HP.out, ← Bool.and_assoc, HPO.out]; rfl⟩
        case measure => simp [intOf]; omega
    · obtain rfl : I = S.length := by omega
      rw [posUpto_all] at *
      obtain ⟨b0, b1, b2⟩ := (mb1.grows g2).cells
      generalize hpo : (ok && allPos S) = po at *
      have HPO := Lib.hid hpo
      clear hpo
      cases po
      · go_wp2_with fail
        go_ret
        exact ⟨ret_bool (by rw [HPO.out]; rfl), by exact bel2 g2 g01⟩
      · go_wp2_with fail
        refine (HG.out _ (by exact (Rd.grows ha (by exact bel2 g2 g01)))).mono ?_; rintro e w3 ⟨rfl, g3⟩
        go_wp2_with fail
        go_ret
        exact ⟨ret_bool (by rw [HPO.out]; rfl), by exact bel3 g3 g2 g01⟩
theorem sIsDef_c (r c : Int) (A : Option Addr) (l : List Int) (n cap : Nat) (w : World) (hn : l.length = n) (ha : Rd w A l) (hl : n ≤ 1099511627776) :
    Calls Try.prog 89 #[.agg #[.int .i64 r, .int .i64 c, .slice A n cap]] w fun e w' => e = .returned (.bool (isDef r c l)) ∧ Grows w w' := by
  have HL := Lib.hid fun W h => sLMin_c r c A l n cap W hn h hl
  have HG := Lib.hid fun W h => sIsGram_c r c A l n cap W hn h hl
  have hsl : (oL (lmO r c l)).length ≤ 6 := by
    cases hx : lmO r c l with
    | none => simp [oL]
    | some s => exact lmO_length hx
  have hnone : (lmO r c l).isSome = false → oL (lmO r c l) = [] := by cases lmO r c l <;> simp [oL]
  unfold isDef
  clear hn
  generalize oL (lmO r c l) = S at *
  generalize (lmO r c l).isSome = ok at *
  generalize isGram r c l = gb at *
  have HNO := Lib.hid hnone
  clear hnone
  obtain ⟨w1, hw1⟩ : ∃ w1, w1 = w.alloc (.cells #[.int .i64 r, .int .i64 c, .slice A n cap] 26) := ⟨_, rfl⟩
  have mb1 : MBox w1 w.heap.size r c (.slice A n cap) := by rw [hw1]; exact MBox.mk_ _ _ _ _ _
  have g01 : Grows w w1 := by rw [hw1]; exact bel0
  have HW1 := Lib.hid hw1
  clear hw1
  go_enter Try.func89, Try.ntmps89
  go_wp2_with fail
  refine (HL.out _ (by exact (Rd.grows ha (by exact bel0)))).mono ?_; rintro e w2 ⟨v2, rfl, ho2, g2⟩
  rw [← HW1.out] at g2 ho2
  obtain ⟨A2, c2, rfl, hr2, _⟩ := ho2.val
  go_wp2_with fail
  go_loop [5] (fun i => ∃ I : Nat, i = .int .i64 I ∧ I ≤ S.length ∧ posUpto S I = true) (fun i => S.length - (intOf i).toNat)
  case atStart => exact ⟨0, rfl, Nat.zero_le _, posUpto_zero S⟩
  case round =>
    obtain ⟨I, rfl, hI, hpo⟩ := hrel
    have HPO := Lib.hid hpo
    clear hpo
    by_cases hlt : I < S.length
    · obtain ⟨b, off, rfl, hbs, hcell⟩ := hr2.at_ I hlt
      have HP := Lib.hid (posUpto_succ hlt)
      have i1 : (I : Int) < (S.length : Int) := by omega
      by_cases hx : 0 < nth S I
      · have hx' : ¬ nth S I ≤ 0 := by omega
        have HX := Lib.hid hx
        clear hx
        go_wp2_with fail
        go_round
        case rel => exact ⟨I + 1, by go_num, by omega, by rw [HP.out, HPO.out]; simpa using HX.out⟩
        case measure => simp [intOf]; omega
      · have hx' : nth S I ≤ 0 := by omega
        have HX := Lib.hid (show allPos S = false by
          cases e : allPos S
          · rfl
          · exact absurd ((allPos_iff S).1 e I hlt) hx)
        clear hx
        go_wp2_with fail
        go_ret
        exact ⟨by rw [HX.out]; simp, by exact bel2 g2 g01⟩
    · obtain rfl : I = S.length := by omega
      rw [posUpto_all] at HPO
      obtain ⟨b0, b1, b2⟩ := (mb1.grows g2).cells
      cases ok
      · go_wp2_with fail
        go_ret
        exact ⟨by simp, by exact bel2 g2 g01⟩
      · go_wp2_with fail
        refine (HG.out _ (by exact (Rd.grows ha (by exact bel2 g2 g01)))).mono ?_; rintro e w3 ⟨rfl, g3⟩
        go_wp2_with fail
        go_ret
        exact ⟨by rw [HPO.out]; simp, by exact bel3 g3 g2 g01⟩
end
end Go.Proofs.Ythajmffhgbenpaa

/- Contracts: adjugates, determinants of matrices, roots. -/
namespace Go.Proofs.Ythajmffhgbenpaa
set_option linter.unusedSimpArgs false
set_option linter.unusedVariables false
open Go.RowKit

/-! ### plain -/
/-- a cofactor, without its sign -/
def adjc (n : Nat) (l : List Int) (i j : Nat) : Option Int := detO (n - 1) (crs n l i j (n * n))
def sB (k : Nat) (d : Int) : Int := if k % 2 = 1 then mulB d (-1) else d
def adjF (n : Nat) (l : List Int) : Nat → Nat → Int := fun a b => sB (b + a) (oBad (adjc n l b a))
def adjB (n : Nat) (l : List Int) : List Int := tab n n (adjF n l)
theorem adjB_length (n : Nat) (l : List Int) : (adjB n l).length = n * n := tab_length _ _ _
theorem mulB_neg' {x : Int} (h : isNum x = true) : mulB x (-1) = -x := by
  rw [mulB_num h (by decide), show x * -1 = -x by omega]
  exact fit_yes (neg_num h)
theorem adjF_some {n : Nat} {l : List Int} {i j : Nat} {d : Int} (h : adjc n l i j = some d) : adjF n l j i = (if (i + j) % 2 = 1 then -d else d) := by
  unfold adjF sB
  rw [h]
  show (if (i + j) % 2 = 1 then mulB d (-1) else d) = _
  split
  · exact mulB_neg' (detO_num h)
  · rfl
theorem adjF_none {n : Nat} {l : List Int} {i j : Nat} (h : adjc n l i j = none) : adjF n l j i = bad := by
  unfold adjF sB
  rw [h]
  show (if (i + j) % 2 = 1 then mulB bad (-1) else bad) = _
  split
  · exact mulB_bad_left _
  · rfl
theorem adjB_none {n : Nat} {l : List Int} {i j : Nat} (hi : i < n) (hj : j < n) (h : adjc n l i j = none) : allNum (adjB n l) = false := by
  refine allNum_no (i := j * n + i) (by rw [adjB_length]; exact idx_lt hj hi) ?_
  unfold adjB
  rw [tab_nth _ hj hi, adjF_none h]
  exact bad_not
theorem adjB_all {n : Nat} {l : List Int} (h : ∀ i j, i < n → j < n → (adjc n l i j).isSome = true) : allNum (adjB n l) = true := (allNum_iff _).2 fun k hk => by
  rw [adjB_length] at hk
  obtain ⟨h1, h2, h3⟩ := idx_split hk
  rw [h3]
  unfold adjB
  rw [tab_nth _ h1 h2]
  obtain ⟨d, hd⟩ := Option.isSome_iff_exists.1 (h (k % n) (k / n) h2 h1)
  rw [adjF_some hd]
  have := detO_num hd
  split
  · exact neg_num this
  · exact this
def adjO (m : MX) : Option MX := if isSq m.r m.c m.l && allNum (adjB m.r.toNat m.l) then some ⟨m.r, m.r, adjB m.r.toNat m.l⟩ else none
theorem adjO_no {m : MX} (h : isSq m.r m.c m.l = false) : adjO m = none := by unfold adjO; rw [h]; rfl
theorem adjO_yes {R : Nat} {l : List Int} (h : isSq R R l = true) : adjO ⟨R, R, l⟩ = if allNum (adjB R l) then some ⟨R, R, adjB R l⟩ else none := by
  unfold adjO; simp only [h, Bool.true_and, Int.toNat_natCast]
theorem adjO_ok {m a : MX} (h : adjO m = some a) : a.ok = true := by
  unfold adjO at h
  split at h
  · rename_i hh
    rw [Bool.and_eq_true] at hh
    cases h
    obtain ⟨_, R, e1, e2, hR, _⟩ := isSq_nat hh.1
    unfold MX.ok
    simp only [e1, Int.toNat_natCast] at hh ⊢
    rw [isMat_made (by omega) (by omega) (adjB_length _ _)]
    exact hh.2
  · cases h
/-- the determinant of a matrix, where it is known -/
def dtO (m : MX) : Option Int := if isSq m.r m.c m.l then detO m.r.toNat m.l else none
theorem dtO_no {m : MX} (h : isSq m.r m.c m.l = false) : dtO m = none := by unfold dtO; rw [h]; rfl
theorem dtO_yes {R : Nat} {l : List Int} (h : isSq R R l = true) : dtO ⟨R, R, l⟩ = detO R l := by unfold dtO; simp only [h, Int.toNat_natCast]; rfl
theorem dtO_num {m : MX} {d : Int} (h : dtO m = some d) : isNum d = true := by
  unfold dtO at h
  split at h
  · exact detO_num h
  · cases h
theorem subm_self {R : Nat} {l : List Int} (h : l.length = R * R) : subm R R l = l := (tab_ext h fun _ _ _ _ => rfl).symm
theorem isDef_sq {r c : Int} {l : List Int} (h : isDef r c l = true) : isSq r c l = true := by
  unfold isDef at h
  simp only [Bool.and_eq_true] at h
  exact isGram_sq h.2
theorem isDef_minors {R : Nat} {l : List Int} (h : isDef R R l = true) : ∃ s, lmP R l R = some s ∧ ∀ k, k < R → 0 < nth s k := by
  have hq := isDef_sq h
  unfold isDef at h
  rw [lmO_yes hq] at h
  simp only [Bool.and_eq_true] at h
  obtain ⟨s, hs⟩ := Option.isSome_iff_exists.1 h.1.1
  refine ⟨s, hs, fun k hk => ?_⟩
  have h2 := h.1.2
  rw [hs] at h2
  exact (allPos_iff s).1 h2 k (by rw [lmP_length hs]; exact hk)
/-- a definite form has a positive determinant -/
theorem isDef_det {r c : Int} {l : List Int} (h : isDef r c l = true) : ∃ d, dtO ⟨r, c, l⟩ = some d ∧ 0 < d := by
  obtain ⟨_, R, rfl, rfl, hR, hlen, _⟩ := isSq_nat (isDef_sq h)
  rw [dtO_yes (isDef_sq h)]
  obtain ⟨s, hs, hp⟩ := isDef_minors h
  rcases Nat.eq_zero_or_pos R with e | e
  · subst e; exact ⟨1, rfl, by decide⟩
  · have := lmP_get hs (k := R - 1) (by omega)
    rw [show R - 1 + 1 = R by omega, subm_self hlen] at this
    exact ⟨_, this, hp _ (by omega)⟩

/-- the root of a number, rounded down -/
def rootN : Nat → Nat
  | 0 => 0
  | n + 1 => if (rootN n + 1) * (rootN n + 1) ≤ n + 1 then rootN n + 1 else rootN n
theorem rootN_spec (n : Nat) : rootN n * rootN n ≤ n ∧ n < (rootN n + 1) * (rootN n + 1) := by
  induction n with
  | zero => simp [rootN]
  | succ n ih =>
    rw [rootN]
    split
    · rename_i h
      refine ⟨h, ?_⟩
      have e : (rootN n + 1 + 1) * (rootN n + 1 + 1) = (rootN n + 1) * (rootN n + 1) + 2 * (rootN n + 1) + 1 := by grind
      omega
    · omega
theorem rootN_uniq {n k : Nat} (h1 : k * k ≤ n) (h2 : n < (k + 1) * (k + 1)) : k = rootN n := by
  obtain ⟨h3, h4⟩ := rootN_spec n
  rcases Nat.lt_trichotomy k (rootN n) with h | h | h
  · have := Nat.mul_le_mul (show k + 1 ≤ rootN n by omega) (show k + 1 ≤ rootN n by omega); omega
  · exact h
  · have := Nat.mul_le_mul (show rootN n + 1 ≤ k by omega) (show rootN n + 1 ≤ k by omega); omega
def rootI (n : Int) : Int := (rootN n.toNat : Int)
theorem sq_bd {k : Nat} (h : k * k ≤ 400000000) : k ≤ 20000 := by
  rcases Nat.lt_or_ge 20000 k with h1 | h1
  · have := Nat.mul_le_mul (show 20001 ≤ k by omega) (show 20001 ≤ k by omega); omega
  · exact h1

section
set_option maxHeartbeats 1000000
theorem rootOf_c (n : Int) (w : World) (h1 : n ≤ 400000000) (h2 : -9223372036854775808 ≤ n) :
    Calls Try.prog 85 #[.int .i64 n] w fun e w' => e = .returned (.int .i64 (rootI n)) ∧ w = w' := by
  go_enter Try.func85, Try.ntmps85
  go_wp2_with fail
  go_loop [3] (fun r => ∃ K : Nat, r = .int .i64 K ∧ K * K ≤ n.toNat) (fun r => 20001 - (intOf r).toNat)
  case atStart => exact ⟨0, rfl, by omega⟩
  case round =>
    obtain ⟨K, rfl, hK⟩ := hrel
    have hb := sq_bd (k := K) (by omega)
    have e1 : ((K : Int) + 1) * ((K : Int) + 1) = (((K + 1) * (K + 1) : Nat) : Int) := by rw [Int.natCast_mul, Int.natCast_add]; rfl
    have e2 := Nat.mul_le_mul (show K + 1 ≤ 20001 by omega) (show K + 1 ≤ 20001 by omega)
    have e3 : 0 ≤ ((K : Int) + 1) * ((K : Int) + 1) := by omega
    have e4 : ((K : Int) + 1) * ((K : Int) + 1) ≤ 400040001 := by omega
    have HK := Lib.hid hK
    have E1 := Lib.hid e1
    clear hK e1
    by_cases hlt : ((K : Int) + 1) * ((K : Int) + 1) ≤ n
    · have HLT := Lib.hid hlt
      go_wp2_with fail
      go_round
      case rel => exact ⟨K + 1, by go_num, by have := E1.out; have := HLT.out; omega⟩
      case measure => simp [intOf]; omega
    · have HLT := Lib.hid hlt
      go_wp2_with fail
      go_ret
      refine ⟨ret_int ?_, rfl⟩
      unfold rootI
      have := rootN_uniq HK.out (show n.toNat < (K + 1) * (K + 1) by have := E1.out; have := HLT.out; have := Nat.mul_pos (show 0 < K + 1 by omega) (show 0 < K + 1 by omega); omega)
      rw [← this]
theorem l20Root_c (n : Int) (w : World) (h1 : n ≤ 400000000) (h2 : -9223372036854775808 ≤ n) :
    Calls Try.prog 104 #[.int .i64 n] w fun e w' => e = .returned (.int .i64 (rootI n)) ∧ w = w' := by
  go_enter Try.func104, Try.ntmps104
  go_wp2_with fail
  go_loop [3] (fun r => ∃ K : Nat, r = .int .i64 K ∧ K * K ≤ n.toNat) (fun r => 20001 - (intOf r).toNat)
  case atStart => exact ⟨0, rfl, by omega⟩
  case round =>
    obtain ⟨K, rfl, hK⟩ := hrel
    have hb := sq_bd (k := K) (by omega)
    have e1 : ((K : Int) + 1) * ((K : Int) + 1) = (((K + 1) * (K + 1) : Nat) : Int) := by rw [Int.natCast_mul, Int.natCast_add]; rfl
    have e2 := Nat.mul_le_mul (show K + 1 ≤ 20001 by omega) (show K + 1 ≤ 20001 by omega)
    have e3 : 0 ≤ ((K : Int) + 1) * ((K : Int) + 1) := by omega
    have e4 : ((K : Int) + 1) * ((K : Int) + 1) ≤ 400040001 := by omega
    have HK := Lib.hid hK
    have E1 := Lib.hid e1
    clear hK e1
    by_cases hlt : ((K : Int) + 1) * ((K : Int) + 1) ≤ n
    · have HLT := Lib.hid hlt
      go_wp2_with fail
      go_round
      case rel => exact ⟨K + 1, by go_num, by have := E1.out; have := HLT.out; omega⟩
      case measure => simp [intOf]; omega
    · have HLT := Lib.hid hlt
      go_wp2_with fail
      go_ret
      refine ⟨ret_int ?_, rfl⟩
      unfold rootI
      have := rootN_uniq HK.out (show n.toNat < (K + 1) * (K + 1) by have := E1.out; have := HLT.out; have := Nat.mul_pos (show 0 < K + 1 by omega) (show 0 < K + 1 by omega); omega)
      rw [← this]

theorem iDt_c (r c : Int) (A : Option Addr) (l : List Int) (n cap : Nat) (w : World) (hn : l.length = n) (ha : Rd w A l) (hl : n ≤ 1099511627776) :
    Calls Try.prog 80 #[.agg #[.int .i64 r, .int .i64 c, .slice A n cap]] w fun e w' => e = .returned (.tuple #[.int .i64 ((dtO ⟨r, c, l⟩).getD 0), .bool (dtO ⟨r, c, l⟩).isSome]) ∧ Grows w w' := by
  have HS := fun w h => iIsSquare_c r c A l n cap w hn h hl
  cases hq : isSq r c l
  · rw [dtO_no hq]
    rw [hq] at HS
    have HS' := Lib.hid HS
    clear HS hq hn
    go_enter Try.func80, Try.ntmps80
    go_wp2_with fail
    refine (HS'.out _ (by exact (Rd.grows ha (by exact bel0)))).mono ?_; rintro e w1 ⟨rfl, g1⟩
    go_wp2_with fail
    go_ret2
    exact ⟨rfl, by exact bel1 g1⟩
  · obtain ⟨_, R, rfl, rfl, hR, hlen, hnum⟩ := isSq_nat hq
    rw [dtO_yes hq]
    rw [hq] at HS
    have HS' := Lib.hid HS
    have CD := Lib.hid fun W h => iDet_c R (by omega) l A n cap R W rfl hn (by omega) hnum h
    clear HS hq hn hlen hnum
    generalize detO R l = D at *
    go_enter Try.func80, Try.ntmps80
    go_wp2_with fail
    refine (HS'.out _ (by exact (Rd.grows ha (by exact bel0)))).mono ?_; rintro e w1 ⟨rfl, g1⟩
    have mb := (MBox.mk_ w R R (.slice A n cap) 26).grows (w' := w1) (by exact bel1 g1)
    obtain ⟨b0, b1, b2⟩ := mb.cells
    go_wp2_with fail
    refine (CD.out _ (by exact (Rd.grows ha (by exact bel1 g1)))).mono ?_; rintro e w2 ⟨⟨x, rfl, hx⟩, g2⟩
    cases D with
    | none =>
      clear hx
      go_wp2_with fail
      go_ret2
      exact ⟨rfl, by exact bel2 g2 g1⟩
    | some d =>
      obtain rfl : x = d := hx d rfl
      clear hx
      go_wp2_with fail
      go_ret2
      exact ⟨rfl, by exact bel2 g2 g1⟩
theorem sDt_c (r c : Int) (A : Option Addr) (l : List Int) (n cap : Nat) (w : World) (hn : l.length = n) (ha : Rd w A l) (hl : n ≤ 1099511627776) :
    Calls Try.prog 90 #[.agg #[.int .i64 r, .int .i64 c, .slice A n cap]] w fun e w' => e = .returned (.tuple #[.int .i64 ((dtO ⟨r, c, l⟩).getD 0), .bool (dtO ⟨r, c, l⟩).isSome]) ∧ Grows w w' := by
  have HS := fun w h => sIsSquare_c r c A l n cap w hn h hl
  cases hq : isSq r c l
  · rw [dtO_no hq]
    rw [hq] at HS
    have HS' := Lib.hid HS
    clear HS hq hn
    go_enter Try.func90, Try.ntmps90
    go_wp2_with fail
    refine (HS'.out _ (by exact (Rd.grows ha (by exact bel0)))).mono ?_; rintro e w1 ⟨rfl, g1⟩
    go_wp2_with fail
    go_ret2
    exact ⟨rfl, by exact bel1 g1⟩
  · obtain ⟨_, R, rfl, rfl, hR, hlen, hnum⟩ := isSq_nat hq
    rw [dtO_yes hq]
    rw [hq] at HS
    have HS' := Lib.hid HS
    have CD := fun W h => sDet_c R (by omega) l A n cap R W rfl hn (by omega) hnum h
    have ND := Lib.hid fun d h => detO_num (n := R) (l := l) (d := d) h
    clear HS hq hn hlen hnum
    generalize detO R l = D at *
    cases D with
    | none =>
      rw [show oBad none = -4611686018427387904 from rfl] at CD
      have CD' := Lib.hid CD
      clear CD
      go_enter Try.func90, Try.ntmps90
      go_wp2_with fail
      refine (HS'.out _ (by exact (Rd.grows ha (by exact bel0)))).mono ?_; rintro e w1 ⟨rfl, g1⟩
      have mb := (MBox.mk_ w R R (.slice A n cap) 26).grows (w' := w1) (by exact bel1 g1)
      obtain ⟨b0, b1, b2⟩ := mb.cells
      go_wp2_with fail
      refine (CD'.out _ (by exact (Rd.grows ha (by exact bel1 g1)))).mono ?_; rintro e w2 ⟨rfl, g2⟩
      go_wp2_with fail
      go_ret2
      exact ⟨rfl, by exact bel2 g2 g1⟩
    | some d =>
      rw [show oBad (some d) = d from rfl] at CD
      have CD' := Lib.hid CD
      have hd4 := (isNum_iff _).1 (ND.out d rfl)
      have hdb : (d == -4611686018427387904) = false := by rw [beq_eq_false_iff_ne]; omega
      clear CD
      go_enter Try.func90, Try.ntmps90
      go_wp2_with fail
      refine (HS'.out _ (by exact (Rd.grows ha (by exact bel0)))).mono ?_; rintro e w1 ⟨rfl, g1⟩
      have mb := (MBox.mk_ w R R (.slice A n cap) 26).grows (w' := w1) (by exact bel1 g1)
      obtain ⟨b0, b1, b2⟩ := mb.cells
      go_wp2_with fail
      refine (CD'.out _ (by exact (Rd.grows ha (by exact bel1 g1)))).mono ?_; rintro e w2 ⟨rfl, g2⟩
      go_wp2_with fail
      go_ret2
      exact ⟨rfl, by exact bel2 g2 g1⟩

theorem iAdj_c (r c : Int) (A : Option Addr) (l : List Int) (n cap : Nat) (w : World) (hn : l.length = n) (ha : Rd w A l) (hl : n ≤ 1099511627776) :
    Calls Try.prog 77 #[.agg #[.int .i64 r, .int .i64 c, .slice A n cap]] w (MatRet (adjO ⟨r, c, l⟩) w) := by
  have HS := fun w h => iIsSquare_c r c A l n cap w hn h hl
  obtain ⟨w1, hw1, mg, mr, hs1, g01⟩ := one_mat w r c (.slice A n cap)
  have HW1 := Lib.hid hw1
  have HS1 := Lib.hid hs1
  clear hw1 hs1
  cases hq : isSq r c l
  · rw [adjO_no hq]
    rw [hq] at HS
    have HS' := Lib.hid HS
    clear HS hq hn
    go_enter Try.func77, Try.ntmps77
    go_wp2_with fail
    refine (HS'.out _ (by exact (Rd.grows ha (by exact bel0)))).mono ?_; rintro e w2 ⟨rfl, g2⟩
    rw [← HW1.out] at g2
    (have zr := MBox.grows mr (w' := w2) (by exact bel1 g2); obtain ⟨zr0, zr1, zr2⟩ := zr.cells; have zrf := zr.fz; have zrl := zr.lt; go_wp2_with fail; refine bodyPost_ret (v := .tuple #[.agg #[.int .i64 0, .int .i64 0, .slice none 0 0], .bool false]) ?_ rfl ?_; (simp [results, Try.results77, go_sem, zr0, zr1, zr2, zrf, zrl]); exact ⟨_, rfl, Own.nil _ _, by exact bel2 g2 g01⟩)
  · obtain ⟨_, R, rfl, rfl, hR, hlen, hnum⟩ := isSq_nat hq
    obtain ⟨RES, hRES⟩ : ∃ x, x = adjO ⟨R, R, l⟩ := ⟨_, rfl⟩
    rw [← hRES]
    rw [adjO_yes hq] at hRES
    rw [hq] at HS
    have HS' := Lib.hid HS
    have HN := Lib.hid hn
    have HLN := Lib.hid hlen
    have HNU := Lib.hid hnum
    have HR := Lib.hid hRES
    have hRR : R * R ≤ 36 := Nat.mul_le_mul hR hR
    have CN := Lib.hid fun W => newMatrix_c R R W (by omega)
    have ha1 : Rd w1 A l := ha.grows g01
    clear HS hq hn hlen hnum hRES
    go_enter Try.func77, Try.ntmps77
    go_wp2_with fail
    refine (HS'.out _ (by exact (Rd.grows ha (by exact bel0)))).mono ?_; rintro e w2 ⟨rfl, g2⟩
    rw [← HW1.out] at g2
    obtain ⟨b0, b1, b2⟩ := (mg.grows g2).cells
    go_wp2_with fail
    refine (CN.out _).mono ?_; rintro e w3 ⟨g, rfl, ho3, g3⟩
    have hs2 := Below.size g2
    have hs3 := Below.size g3
    have hgl := ho3.lt
    clear b0 b1 b2
    go_wp2_with fail
    go_loopw [5] (fun i wr => ∃ (I : Nat) (m : List Int), i = .int .i64 I ∧ I ≤ R ∧ m.length = R * R ∧ UptoC R R (adjF R l) I 0 m ∧ (∀ i j, i < I → j < R → (adjc R l i j).isSome = true) ∧ Own wr w1.heap.size (.slice (some ⟨g, 0, none⟩) (R * R) (R * R)) m ∧ Grows w1 wr ∧ MBox wr w3.heap.size R R (.slice (some ⟨g, 0, none⟩) (R * R) (R * R))) (fun i _ => R - (intOf i).toNat)
    case atStart => exact ⟨0, _, rfl, Nat.zero_le _, by simp, UptoC.zero _ _ _ _, fun i j hi => by omega, (ho3.less (by omega)).alloc _, by exact bel2 g3 g2, MBox.new_ _ _ _ _ _ rfl⟩
    case round =>
      clear ho3
      obtain ⟨I, m, rfl, hI, hm, hU, hsome, ho, hg, mm⟩ := hrel
      have HM := Lib.hid hm
      have HU := Lib.hid hU
      have HSO := Lib.hid hsome
      clear hm hU hsome
      obtain ⟨b0, b1, b2⟩ := (mg.grows hg).cells
      by_cases hlt : I < R
      · go_wp2_with fail
        clear b0 b1 b2
        obtain ⟨wo, rfl⟩ : ∃ wo : World, wo = wr := ⟨_, rfl⟩
        go_loopw [6] (fun j wr => ∃ (J : Nat) (m : List Int), j = .int .i64 J ∧ J ≤ R ∧ m.length = R * R ∧ UptoC R R (adjF R l) I J m ∧ (∀ j, j < J → (adjc R l I j).isSome = true) ∧ Own wr w1.heap.size (.slice (some ⟨g, 0, none⟩) (R * R) (R * R)) m ∧ Grows w1 wr ∧ MBox wr w3.heap.size R R (.slice (some ⟨g, 0, none⟩) (R * R) (R * R))) (fun j _ => R - (intOf j).toNat)
        case atStart => exact ⟨0, m, rfl, Nat.zero_le _, HM.out, HU.out, fun j hj => by omega, ho, hg, mm⟩
        case round =>
          clear HU HM ho hg mm m
          obtain ⟨J, m, rfl, hJ, hm, hU, hsome, ho, hg, mm⟩ := hrel
          have HM := Lib.hid hm
          have HU := Lib.hid hU
          have HSI := Lib.hid hsome
          clear hm hU hsome
          obtain ⟨b0, b1, b2⟩ := (mg.grows hg).cells
          by_cases hlt2 : J < R
          · have hd := ha1.grows hg
            have CC := Lib.hid fun W (hrd : Rd W A l) => iCross_c R R A l n cap I J I J W HN.out rfl rfl (by have := HLN.out; have := HN.out; omega) (by omega) (by omega) hrd
            have cl : (crs R l I J (R * R)).length = (R - 1) * (R - 1) := crs_length_eq hlt hlt2
            have cn := crs_num (C := R) (l := l) (ri := I) (ci := J) (k := R * R) (by rw [HLN.out]; exact Nat.le_refl _) HNU.out
            have II := Lib.hid fun W A' c' (hrd : Rd W A' (crs R l I J (R * R))) => iDet_c (R - 1) (by omega) (crs R l I J (R * R)) A' _ c' ((R : Int) - 1) W (by omega) rfl cl cn hrd
            have F0 := Lib.hid fun (h : adjc R l I J = none) => adjB_none hlt hlt2 h
            have F1 := Lib.hid fun d (h : adjc R l I J = some d) => adjF_some h
            have F2 := Lib.hid fun d (h : adjc R l I J = some d) => detO_num h
            have F3 := Lib.hid (UptoC.set (f := adjF R l) (R := R) (C := R) HU.out HM.out hlt2 hlt)
            generalize hD : adjc R l I J = D at *
            rw [show detO (R - 1) (crs R l I J (R * R)) = D from hD] at II
            have HD := Lib.hid hD
            clear cl cn hD
            generalize crs R l I J (R * R) = t at *
            go_wp2_with fail
            refine (CC.out _ (by exact (Rd.grows hd (by exact bel0)))).mono ?_; rintro e w5 ⟨v5, rfl, ho5, g5⟩
            obtain ⟨A5, c5, rfl, hr5, _⟩ := ho5.val
            go_wp2_with fail
            refine (II.out _ _ _ (by exact (Rd.grows hr5 (by exact bel0)))).mono ?_; rintro e w6 ⟨⟨x, rfl, hx⟩, g6⟩
            clear b0 b1 b2 ho5
            cases D with
            | none =>
              obtain rfl : RES = none := by have := HR.out; rw [F0.out rfl] at this; exact this
              clear hx
              have g16 : Grows w1 w6 := by exact bel3 g6 g5 hg
              (have zr := MBox.grows mr (w' := w6) (by exact bel1 g16); obtain ⟨zr0, zr1, zr2⟩ := zr.cells; have zrf := zr.fz; have zrl := zr.lt; go_wp2_with fail; refine bodyPost_ret (v := .tuple #[.agg #[.int .i64 0, .int .i64 0, .slice none 0 0], .bool false]) ?_ rfl ?_; (simp [results, Try.results77, go_sem, zr0, zr1, zr2, zrf, zrl]); exact ⟨_, rfl, Own.nil _ _, by exact bel2 g16 g01⟩)
            | some d =>
              obtain rfl : x = d := hx d rfl
              have hxd := (isNum_iff _).1 (F2.out x rfl)
              have ho6 := (ho.grows g5).grows g6
              have mm6 := (mm.grows g5).grows g6
              have g16 : Grows w1 w6 := by exact bel3 g6 g5 hg
              have hs6 := Below.size g16
              obtain ⟨y0, y1, y2⟩ := mm6.cells
              have yl := mm6.lt
              have hJR : J * R ≤ 36 := by have := Nat.mul_le_mul (Nat.le_of_lt hlt2) (Nat.le_refl R); omega
              have hix := idx_lt (R := R) (C := R) hlt2 hlt
              have E := F1.out x rfl
              have HSX := Lib.hid (show ∀ j, j < J + 1 → (adjc R l I j).isSome = true from fun j hj => by
                by_cases e : j = J
                · rw [e, HD.out]; rfl
                · exact HSI.out j (by omega))
              clear hx
              by_cases hp : (I + J) % 2 = 1
              · have hp1 : (((I : Int) + (J : Int)) % 2 == 1) = true := by rw [beq_iff_eq]; omega
                rw [if_pos hp] at E
                have HE := Lib.hid E
                clear E hp
                go_wp2_with fail
                refine (set_c _ R g (R * R) (R * R) w1.heap.size m J I _ _ HM.out ho6 (by omega) (by omega) (by omega)).mono ?_; rintro e w7 ⟨rfl, ho7, hg7⟩
                go_wp2_with fail
                go_round
                case rel => exact ⟨J + 1, _, by go_num, by omega, by rw [List.length_set]; exact HM.out, by have := F3.out; rw [HE.out] at this; exact this, HSX.out, ho7, below_only g16 hg7 (by omega) (by omega), mm6.only hg7 (by omega)⟩
                case measure => simp [intOf]; omega
              · have hp1 : (((I : Int) + (J : Int)) % 2 == 1) = false := by rw [beq_eq_false_iff_ne]; omega
                rw [if_neg hp] at E
                have HE := Lib.hid E
                clear E hp
                go_wp2_with fail
                refine (set_c _ R g (R * R) (R * R) w1.heap.size m J I _ _ HM.out ho6 (by omega) (by omega) (by omega)).mono ?_; rintro e w7 ⟨rfl, ho7, hg7⟩
                go_wp2_with fail
                go_round
                case rel => exact ⟨J + 1, _, by go_num, by omega, by rw [List.length_set]; exact HM.out, by have := F3.out; rw [HE.out] at this; exact this, HSX.out, ho7, below_only g16 hg7 (by omega) (by omega), mm6.only hg7 (by omega)⟩
                case measure => simp [intOf]; omega
          · obtain rfl : J = R := by omega
            go_wp2_with fail
            go_round
            case rel => exact ⟨I + 1, m, by go_num, by omega, HM.out, UptoC.col HU.out, fun i j hi hj => by (by_cases e : i = I); (· subst e; exact HSI.out j hj); (· exact HSO.out i j (by omega) hj), ho, hg, mm⟩
            case measure => simp [intOf]; omega
      · obtain rfl : I = R := by omega
        have hfin : m = adjB I l := UptoC.all HU.out HM.out
        obtain rfl : RES = some ⟨I, I, m⟩ := by have := HR.out; rw [adjB_all (fun i j hi hj => HSO.out i j hi hj)] at this; rw [this, hfin]; rfl
        obtain ⟨y0, y1, y2⟩ := mm.cells
        have hs1 := HS1.out
        have ho' : Own wr w1.heap.size (.slice (some ⟨g, 0, none⟩) (I * I) (I * I)) (oM (some ⟨(I : Int), (I : Int), m⟩)).l := ho
        (have zr := MBox.grows mr (w' := wr) (by exact bel1 hg); obtain ⟨zr0, zr1, zr2⟩ := zr.cells; have zrf := zr.fz; have zrl := zr.lt; go_wp2_with fail; refine bodyPost_ret (v := .tuple #[.agg #[.int .i64 I, .int .i64 I, .slice (some ⟨g, 0, none⟩) (I * I) (I * I)], .bool true]) ?_ rfl ?_; (simp [results, Try.results77, go_sem, zr0, zr1, zr2, zrf, zrl]); exact ⟨_, rfl, by exact ownl ho', by exact bel2 hg g01⟩)

theorem sAdj_c (r c : Int) (A : Option Addr) (l : List Int) (n cap : Nat) (w : World) (hn : l.length = n) (ha : Rd w A l) (hl : n ≤ 1099511627776) :
    Calls Try.prog 88 #[.agg #[.int .i64 r, .int .i64 c, .slice A n cap]] w (MatRet (adjO ⟨r, c, l⟩) w) := by
  have HS := fun w h => sIsSquare_c r c A l n cap w hn h hl
  obtain ⟨w1, hw1, mg, mr, hs1, g01⟩ := one_mat w r c (.slice A n cap)
  have HW1 := Lib.hid hw1
  have HS1 := Lib.hid hs1
  clear hw1 hs1
  cases hq : isSq r c l
  · rw [adjO_no hq]
    rw [hq] at HS
    have HS' := Lib.hid HS
    clear HS hq hn
    go_enter Try.func88, Try.ntmps88
    go_wp2_with fail
    refine (HS'.out _ (by exact (Rd.grows ha (by exact bel0)))).mono ?_; rintro e w2 ⟨rfl, g2⟩
    rw [← HW1.out] at g2
    (have zr := MBox.grows mr (w' := w2) (by exact bel1 g2); obtain ⟨zr0, zr1, zr2⟩ := zr.cells; have zrf := zr.fz; have zrl := zr.lt; go_wp2_with fail; refine bodyPost_ret (v := .tuple #[.agg #[.int .i64 0, .int .i64 0, .slice none 0 0], .bool false]) ?_ rfl ?_; (simp [results, Try.results88, go_sem, zr0, zr1, zr2, zrf, zrl]); exact ⟨_, rfl, Own.nil _ _, by exact bel2 g2 g01⟩)
  · obtain ⟨_, R, rfl, rfl, hR, hlen, hnum⟩ := isSq_nat hq
    obtain ⟨RES, hRES⟩ : ∃ x, x = adjO ⟨R, R, l⟩ := ⟨_, rfl⟩
    rw [← hRES]
    rw [adjO_yes hq] at hRES
    rw [hq] at HS
    have HS' := Lib.hid HS
    have HN := Lib.hid hn
    have HLN := Lib.hid hlen
    have HNU := Lib.hid hnum
    have HR := Lib.hid hRES
    have hRR : R * R ≤ 36 := Nat.mul_le_mul hR hR
    have CN := Lib.hid fun W => l3New_c R R W (by omega)
    have ha1 : Rd w1 A l := ha.grows g01
    clear HS hq hn hlen hnum hRES
    go_enter Try.func88, Try.ntmps88
    go_wp2_with fail
    refine (HS'.out _ (by exact (Rd.grows ha (by exact bel0)))).mono ?_; rintro e w2 ⟨rfl, g2⟩
    rw [← HW1.out] at g2
    obtain ⟨b0, b1, b2⟩ := (mg.grows g2).cells
    go_wp2_with fail
    refine (CN.out _).mono ?_; rintro e w3 ⟨g, rfl, ho3, g3⟩
    have hs2 := Below.size g2
    have hs3 := Below.size g3
    have hgl := ho3.lt
    clear b0 b1 b2
    go_wp2_with fail
    go_loopw [5] (fun i wr => ∃ (I : Nat) (m : List Int), i = .int .i64 I ∧ I ≤ R ∧ m.length = R * R ∧ UptoC R R (adjF R l) I 0 m ∧ Own wr w1.heap.size (.slice (some ⟨g, 0, none⟩) (R * R) (R * R)) m ∧ Grows w1 wr ∧ MBox wr w3.heap.size R R (.slice (some ⟨g, 0, none⟩) (R * R) (R * R))) (fun i _ => R - (intOf i).toNat)
    case atStart => exact ⟨0, _, rfl, Nat.zero_le _, by simp, UptoC.zero _ _ _ _, (ho3.less (by omega)).alloc _, by exact bel2 g3 g2, MBox.new_ _ _ _ _ _ rfl⟩
    case round =>
      clear ho3
      obtain ⟨I, m, rfl, hI, hm, hU, ho, hg, mm⟩ := hrel
      have HM := Lib.hid hm
      have HU := Lib.hid hU
      clear hm hU
      obtain ⟨b0, b1, b2⟩ := (mg.grows hg).cells
      by_cases hlt : I < R
      · go_wp2_with fail
        clear b0 b1 b2
        obtain ⟨wo, rfl⟩ : ∃ wo : World, wo = wr := ⟨_, rfl⟩
        go_loopw [6] (fun j wr => ∃ (J : Nat) (m : List Int), j = .int .i64 J ∧ J ≤ R ∧ m.length = R * R ∧ UptoC R R (adjF R l) I J m ∧ Own wr w1.heap.size (.slice (some ⟨g, 0, none⟩) (R * R) (R * R)) m ∧ Grows w1 wr ∧ MBox wr w3.heap.size R R (.slice (some ⟨g, 0, none⟩) (R * R) (R * R))) (fun j _ => R - (intOf j).toNat)
        case atStart => exact ⟨0, m, rfl, Nat.zero_le _, HM.out, HU.out, ho, hg, mm⟩
        case round =>
          clear HU HM ho hg mm m
          obtain ⟨J, m, rfl, hJ, hm, hU, ho, hg, mm⟩ := hrel
          have HM := Lib.hid hm
          have HU := Lib.hid hU
          clear hm hU
          obtain ⟨b0, b1, b2⟩ := (mg.grows hg).cells
          by_cases hlt2 : J < R
          · have hd := ha1.grows hg
            have CC := Lib.hid fun W (hrd : Rd W A l) => sCross_c R R A l n cap I J I J W HN.out rfl rfl (by have := HLN.out; have := HN.out; omega) (by omega) (by omega) hrd
            have cl : (crs R l I J (R * R)).length = (R - 1) * (R - 1) := crs_length_eq hlt hlt2
            have cn := crs_num (C := R) (l := l) (ri := I) (ci := J) (k := R * R) (by rw [HLN.out]; exact Nat.le_refl _) HNU.out
            have II := Lib.hid fun W A' c' (hrd : Rd W A' (crs R l I J (R * R))) => sDet_c (R - 1) (by omega) (crs R l I J (R * R)) A' _ c' ((R : Int) - 1) W (by omega) rfl cl cn hrd
            have F3 := Lib.hid (UptoC.set (f := adjF R l) (R := R) (C := R) HU.out HM.out hlt2 hlt)
            have hob : oBad (adjc R l I J) = bad ∨ isNum (oBad (adjc R l I J)) = true := oBad_num
            have HF := Lib.hid (show adjF R l J I = if (I + J) % 2 = 1 then mulB (oBad (adjc R l I J)) (-1) else oBad (adjc R l I J) from rfl)
            rw [show detO (R - 1) (crs R l I J (R * R)) = adjc R l I J from rfl] at II
            have HOB := Lib.hid hob
            clear cl cn hob
            generalize crs R l I J (R * R) = t at *
            generalize oBad (adjc R l I J) = d at *
            have mix := Nat.mul_le_mul (Nat.le_of_lt hlt2) (Nat.le_refl R)
            have i5 := castMul J R
            have i6 : (J : Int) * (R : Int) ≤ ((36 : Nat) : Int) := castMulLe (by omega)
            have i7 := castPos J R I
            have i8 : (J : Int) * (R : Int) + (I : Int) < ((R * R : Nat) : Int) := castLt (idx_lt hlt2 hlt)
            have i8' : (J : Int) * (R : Int) + (I : Int) < (R : Int) * (R : Int) := by rw [← Int.natCast_mul R R]; exact i8
            have hi2 : J * R + I < R * R := idx_lt hlt2 hlt
            go_wp2_with fail
            refine (CC.out _ (by exact (Rd.grows hd (by exact bel0)))).mono ?_; rintro e w5 ⟨v5, rfl, ho5, g5⟩
            obtain ⟨A5, c5, rfl, hr5, _⟩ := ho5.val
            go_wp2_with fail
            refine (II.out _ _ _ (by exact (Rd.grows hr5 (by exact bel0)))).mono ?_; rintro e w6 ⟨rfl, g6⟩
            clear b0 b1 b2 ho5
            have ho6 := (ho.grows g5).grows g6
            have mm6 := (mm.grows g5).grows g6
            have g16 : Grows w1 w6 := by exact bel3 g6 g5 hg
            have hs6 := Below.size g16
            obtain ⟨y0, y1, y2⟩ := mm6.cells
            obtain ⟨b0, b1, b2⟩ := (mg.grows g16).cells
            have yl := mm6.lt
            have k1 := ho6.cell (J * R + I) (by rw [HM.out]; exact hi2)
            have k2 := ho6.free (J * R + I)
            have gbx : ∀ x : Int, w6.grownBy (w6.setCell ⟨g, J * R + I, none⟩ (.int .i64 x)) (some g) := fun x => only_setCell (p := ⟨g, J * R + I, none⟩) (World.grownBy.refl w6 _) rfl _
            have osx : ∀ x : Int, Own (w6.setCell ⟨g, J * R + I, none⟩ (.int .i64 x)) w1.heap.size (.slice (some ⟨g, 0, none⟩) (R * R) (R * R)) (m.set (J * R + I) x) := fun x => by
              have := ho6
              rw [← HM.out] at this ⊢
              exact this.set _ _
            have GB := Lib.hid gbx
            have OS := Lib.hid osx
            clear gbx osx
            by_cases hp : (I + J) % 2 = 1
            · have hp1 : (((I : Int) + (J : Int)) % 2 == 1) = true := by rw [beq_iff_eq]; omega
              have HE := Lib.hid (show adjF R l J I = mulB d (-1) by rw [HF.out, if_pos hp])
              clear hp
              go_wp2_with (go_at_call 98; refine (l1Mul_c _ _ _ HOB.out (.inr (by decide))).mono ?_; rintro e w' ⟨rfl, rfl⟩)
              go_round
              case rel => exact ⟨J + 1, _, by go_num, by omega, by rw [List.length_set]; exact HM.out, by have := F3.out; rw [HE.out] at this; exact this, OS.out _, below_only g16 (GB.out _) (by omega) (by omega), mm6.only (GB.out _) (by omega)⟩
              case measure => simp [intOf]; omega
            · have hp1 : (((I : Int) + (J : Int)) % 2 == 1) = false := by rw [beq_eq_false_iff_ne]; omega
              have HE := Lib.hid (show adjF R l J I = d by rw [HF.out, if_neg hp])
              clear hp
              go_wp2_with fail
              go_round
              case rel => exact ⟨J + 1, _, by go_num, by omega, by rw [List.length_set]; exact HM.out, by have := F3.out; rw [HE.out] at this; exact this, OS.out _, below_only g16 (GB.out _) (by omega) (by omega), mm6.only (GB.out _) (by omega)⟩
              case measure => simp [intOf]; omega
          · obtain rfl : J = R := by omega
            go_wp2_with fail
            go_round
            case rel => exact ⟨I + 1, m, by go_num, by omega, HM.out, UptoC.col HU.out, ho, hg, mm⟩
            case measure => simp [intOf]; omega
      · obtain rfl : I = R := by omega
        have hfin : m = adjB I l := UptoC.all HU.out HM.out
        obtain ⟨y0, y1, y2⟩ := mm.cells
        have hok : isMat I I m = allNum m := isMat_made (by omega) (by omega) HM.out
        have hE : RES = if allNum m then some ⟨I, I, m⟩ else none := by rw [HR.out, hfin]
        generalize allNum m = ok at *
        have HD := Lib.hid fun W h => l3Done_c ok I I (some ⟨g, 0, none⟩) m (I * I) (I * I) W HM.out h (by omega) hok
        have HE := Lib.hid hE
        have hro := ho.rd_
        have HOL := Lib.hid HM.out
        clear hfin hok hE
        go_wp2_with fail
        refine (HD.out _ (by exact (Rd.grows hro (by exact bel0)))).mono ?_; rintro e w7 ⟨A7, c7, rfl, o7, g7⟩
        have ho7 := o7 w7 w1.heap.size (by have := ho.grows (w' := w7) (by exact bel1 g7); rw [← HM.out] at this; rw [← HM.out]; exact this)
        have g17 : Grows w1 w7 := by exact bel2 g7 hg
        have hz7 := Below.size g17
        have HS1b := HS1
        have hs1 : w.heap.size + 2 ≤ w1.heap.size := by have := HS1.out; omega
        cases ok
        · obtain rfl : RES = none := HE.out
          have ho' : Own w7 w1.heap.size (.slice A7 (ifL false m).length c7) (oM none).l := ho7
          (have zr := MBox.grows mr (w' := w7) (by exact bel1 g17); obtain ⟨zr0, zr1, zr2⟩ := zr.cells; have zrf := zr.fz; have zrl := zr.lt; go_wp2_with fail; refine bodyPost_ret (v := .tuple #[.agg #[.int .i64 (ifI false I), .int .i64 (ifI false I), .slice A7 (ifL false m).length c7], .bool false]) ?_ rfl ?_; (simp [results, Try.results88, go_sem, zr0, zr1, zr2, zrf, zrl]); exact ⟨_, rfl, by exact ownl ho', by exact bel2 g17 g01⟩)
        · obtain rfl : RES = some ⟨I, I, m⟩ := HE.out
          have ho' : Own w7 w1.heap.size (.slice A7 (ifL true m).length c7) (oM (some ⟨(I : Int), (I : Int), m⟩)).l := ho7
          (have zr := MBox.grows mr (w' := w7) (by exact bel1 g17); obtain ⟨zr0, zr1, zr2⟩ := zr.cells; have zrf := zr.fz; have zrl := zr.lt; go_wp2_with fail; refine bodyPost_ret (v := .tuple #[.agg #[.int .i64 (ifI true I), .int .i64 (ifI true I), .slice A7 (ifL true m).length c7], .bool true]) ?_ rfl ?_; (simp [results, Try.results88, go_sem, zr0, zr1, zr2, zrf, zrl]); exact ⟨_, rfl, by exact ownl ho', by exact bel2 g17 g01⟩)
end
end Go.Proofs.Ythajmffhgbenpaa
