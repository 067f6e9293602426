/- Contracts and lemmas, put together. -/
import Derived.Test.YthajmffhgbenpaaPkA
import Derived.Test.YthajmffhgbenpaaPkB
import Derived.Test.YthajmffhgbenpaaPkCa
import Derived.Test.YthajmffhgbenpaaPkDs
import Derived.Test.YthajmffhgbenpaaPkSh
/- The draws: a vector whose cells are small, or near the limit, or no numbers. -/
namespace Go.Proofs.Ythajmffhgbenpaa
set_option linter.unusedSimpArgs false
set_option linter.unusedVariables false
open Go.RowKit

/-- what a cell of a drawn vector can be -/
def okT (x : Int) : Prop := (-5 ≤ x ∧ x ≤ 5) ∨ x = 400000000 ∨ x = -400000000 ∨ x = 399999999 ∨ isNum x = false
theorem odd_okT {i : Nat} (h : i < ([0, 1, -1, 2, 400000000, -400000000, 400000001, -400000001, 399999999, 9223372036854775807, -9223372036854775808] : List Int).length) : okT (nth [0, 1, -1, 2, 400000000, -400000000, 400000001, -400000001, 399999999, 9223372036854775807, -9223372036854775808] i) := by
  simp only [List.length_cons, List.length_nil] at h
  unfold okT
  rcases i with _ | _ | _ | _ | _ | _ | _ | _ | _ | _ | _ | i <;> first | omega | (simp only [nth, List.getD_cons_zero, List.getD_cons_succ]; decide)
def DIntT (B b : Nat) (A : Option Addr) (n cap : Nat) (w : World) (e : Ending) (w' : World) : Prop := ∃ x : Int, e = .returned (.int .i64 x) ∧ okT x ∧ Cur w' B b A n cap ∧ w.grownBy w' (some b)
def DVecT (B b : Nat) (A : Option Addr) (n cap k : Nat) (w : World) (e : Ending) (w' : World) : Prop := ∃ (V : Option Addr) (cv : Nat) (l : List Int), e = .returned (.slice V l.length cv) ∧ l.length = k ∧ (∀ x ∈ l, okT x) ∧ Own w' w.heap.size (.slice V l.length cv) l ∧ Cur w' B b A n cap ∧ w.grownBy w' (some b)
section
set_option maxHeartbeats 4000000
set_option maxRecDepth 10000
theorem l1OddT_c (B b : Nat) (A : Option Addr) (n cap : Nat) (w : World) (h : Cur w B b A n cap) :
    Calls Try.prog 123 #[.pointer (some ⟨b, 0, none⟩)] w (DIntT B b A n cap w) := by
  obtain ⟨w1, hw1⟩ : ∃ w1, w1 = w.alloc (.cells #[.int .i64 0, .int .i64 1, .int .i64 (-1), .int .i64 2, .int .i64 400000000, .int .i64 (-400000000), .int .i64 400000001, .int .i64 (-400000001), .int .i64 399999999, .int .i64 9223372036854775807, .int .i64 (-9223372036854775808)] 3) := ⟨_, rfl⟩
  have g1 : Grows w w1 := by rw [hw1]; exact bel0
  have hr : Rd w1 (some ⟨w.heap.size, 0, none⟩) [0, 1, -1, 2, 400000000, -400000000, 400000001, -400000001, 399999999, 9223372036854775807, -9223372036854775808] := by
    rw [hw1]
    intro i hi
    refine ⟨w.heap.size, 0, rfl, by simp, ?_⟩
    simp only [List.length_cons, List.length_nil] at hi
    rcases i with _ | _ | _ | _ | _ | _ | _ | _ | _ | _ | _ | i <;> first | omega | simp [go_sem, nth]
  have CP := Lib.hid ((l1PickInt_c B b A n cap (some ⟨w.heap.size, 0, none⟩) _ 11 11 w1 rfl (by omega) (by omega) hr (fun a e => by cases e; have := h.lt; simp; omega) (h.grows g1)))
  have HW1 := Lib.hid hw1
  clear hw1 hr
  go_enter Try.func123, Try.ntmps123
  go_wp2_with fail
  rw [← HW1.out]
  refine CP.out.mono ?_; rintro e w2 ⟨x, hx, rfl, c2, g2⟩
  have hT := odd_okT hx
  go_wp2_with fail
  go_ret
  exact ⟨_, rfl, hT, c2, only_left g1 g2⟩
theorem l1NumT_c (B b : Nat) (A : Option Addr) (n cap : Nat) (w : World) (h : Cur w B b A n cap) :
    Calls Try.prog 124 #[.pointer (some ⟨b, 0, none⟩), .int .i64 5] w (DIntT B b A n cap w) := by
  have CO := Lib.hid (l1Once_c B b A n cap 40 w (by omega) h)
  have C1 := Lib.hid fun W h => l1OddT_c B b A n cap W h
  have C2 := Lib.hid fun W h => l1Below_c B b A n cap 11 W (by omega) h
  go_enter Try.func124, Try.ntmps124
  go_wp2_with fail
  refine CO.out.mono ?_; rintro e w2 ⟨x, rfl, c2, g2⟩
  cases x
  · go_wp2_with fail
    refine (C2.out _ c2).mono ?_; rintro e w3 ⟨x, rfl, hx, c3, g3⟩
    go_wp2_with fail
    go_ret
    exact ⟨_, rfl, .inl (by omega), c3, g2.trans g3⟩
  · go_wp2_with fail
    refine (C1.out _ c2).mono ?_; rintro e w3 ⟨x, rfl, hT, c3, g3⟩
    go_wp2_with fail
    go_ret
    exact ⟨_, rfl, hT, c3, g2.trans g3⟩
theorem l18VecT_c (B b : Nat) (A : Option Addr) (n cap : Nat) (k : Int) (w : World) (hk : -1 ≤ k ∧ k ≤ 8) (h : Cur w B b A n cap) :
    Calls Try.prog 76 #[.pointer (some ⟨b, 0, none⟩), .int .i64 k] w (DVecT B b A n cap k.toNat w) := by
  have hbl := h.lt
  have hlo := h.lo
  have CN := Lib.hid fun W h => l1NumT_c B b A n cap W h
  go_enter Try.func76, Try.ntmps76
  go_wp2_with fail
  go_loopw [5, 6] (fun o i wr => ∃ (I : Nat) (A4 : Option Addr) (L : List Int) (c4 : Nat), i = .int .i64 I ∧ I ≤ k.toNat ∧ RowKit.Hid (L.length = I ∧ ∀ x ∈ L, okT x) ∧ o = .slice A4 L.length c4 ∧ Own wr w.heap.size (.slice A4 L.length c4) L ∧ Cur wr B b A n cap ∧ Mv (fun g => g = b) w wr) (fun _ i _ => k.toNat - (intOf i).toNat)
  case atStart => exact ⟨0, _, [], _, rfl, Nat.zero_le _, Lib.hid ⟨rfl, fun x h => by cases h⟩, rfl, Own.new_ _ rfl (Nat.le_refl _), h.grows (by exact bel0), (Mv.refl _).right (by exact bel0)⟩
  case round =>
    clear h
    obtain ⟨I, A4, L, c4, rfl, hI, HL, rfl, ho, c, mv⟩ := hrel
    have hsr := mv.size
    have hll : L.length ≤ 8 := by have := HL.out.1; omega
    have hvl := fun g e => (World.ownsRow.lt ho g e).1
    by_cases hlt : I < k.toNat
    · have hlt' : (I : Int) < k := by omega
      have hI8 : (I : Int) ≤ 8 := by omega
      go_wp2_with fail
      refine (CN.out _ c).mono ?_; rintro e w2 ⟨x, rfl, hT, c2, g2⟩
      have HT := Lib.hid hT
      clear hT
      have ho2 := ho.by_ g2 (fun g e => by have := hvl g e; omega)
      have hs2 := g2.size
      have mv2 := mv.trans (Mv.by_ (S := fun g => g = b) g2 rfl)
      go_wp2_with (at_builtin; refine wpList_app1 rfl (.tmp 13) (.tmp 16) rfl _ x w.heap.size _ L (by rfl) ho2 (by rfl) (by omega) (by omega) ?_; intro v7 w7 ho7 hg7 _)
      obtain ⟨A7, c7, rfl, _, _⟩ := ho7.val
      have hc7 := c2.own1 hg7 (fun g e => by have := hvl g e; omega)
      have hm7 := mv2.own hg7 (fun g e => .inl (hvl g e))
      have HL7 := Lib.hid (show (L ++ [x]).length = I + 1 ∧ ∀ y ∈ L ++ [x], okT y from ⟨by rw [List.length_append, HL.out.1]; rfl, fun y hy => by (rcases List.mem_append.1 hy with h | h); (· exact HL.out.2 y h); (· rw [List.mem_singleton.1 h]; exact HT.out)⟩)
      go_round
      case rel => exact ⟨I + 1, _, _, _, by go_num, by omega, HL7, rfl, ho7, hc7, hm7⟩
      case measure => first | (simp [intOf]; done) | (simp [intOf]; omega)
    · have hlt' : ¬ (I : Int) < k := by omega
      have HLL := Lib.hid (show L.length = k.toNat by have := HL.out.1; omega)
      go_wp2_with fail
      go_ret
      exact ⟨A4, c4, L, rfl, HLL.out, HL.out.2, ho, c, mv.by2 (fun g _ e => e)⟩
end
end Go.Proofs.Ythajmffhgbenpaa

/- The draws: a basis and a target. -/
namespace Go.Proofs.Ythajmffhgbenpaa
set_option linter.unusedSimpArgs false
set_option linter.unusedVariables false
open Go.RowKit

/-- the first cells of a row of one's own -/
theorem Own.cut {w : World} {B g n cap : Nat} {l : List Int} (h : Own w B (.slice (some ⟨g, 0, none⟩) n cap) l) {k : Nat} (hk : k ≤ l.length) : Own w B (.slice (some ⟨g, 0, none⟩) k cap) (l.take k) := by
  obtain ⟨h1, h2⟩ := h
  have hl : (l.take k).length = k := by rw [List.length_take]; omega
  refine ⟨by rw [List.length_map, hl, Nat.mul_one], ?_⟩
  rcases h2 with ⟨h', _⟩ | ⟨g', cap', cur, h', hb, hg, hn, hm, hcs, htake⟩
  · simp at h'
  · simp only [Value.slice.injEq, Option.some.injEq, Addr.mk.injEq, and_true] at h'
    obtain ⟨rfl, _, rfl⟩ := h'
    refine .inr ⟨g, cap, cur, by rw [hl], hb, hg, by omega, hm, hcs, ?_⟩
    rw [hl, List.map_take, ← htake, List.take_take, Nat.mul_one, Nat.mul_one, Nat.min_eq_left (by omega)]
/-- a matrix and a vector drawn from a code, the vector's cells small, or near the limit, or no numbers -/
def DMatLT (m k : Nat) (w : World) (e : Ending) (w' : World) : Prop := ∃ (r c : Int) (V : Option Addr) (cv : Nat) (l : List Int) (V2 : Option Addr) (cv2 : Nat) (l2 : List Int), e = .returned (.tuple #[.agg #[.int .i64 r, .int .i64 c, .slice V l.length cv], .slice V2 l2.length cv2]) ∧ l.length ≤ m ∧ l2.length ≤ k ∧ (∀ x ∈ l2, okT x) ∧ Own w' w.heap.size (.slice V l.length cv) l ∧ Own w' w.heap.size (.slice V2 l2.length cv2) l2 ∧ Grows w w'
section
set_option maxHeartbeats 4000000
set_option maxRecDepth 100000
theorem l21Draw_c (A : Option Addr) (n cap : Nat) (w : World) (hr : CodeR w w.heap.size A n) (hn : n ≤ 1048576) :
    Calls Try.prog 34 #[.slice A n cap] w (DMatLT 10 3 w) := by
  obtain ⟨w1, hw1⟩ : ∃ w1, w1 = w.alloc (.cells #[.int .i64 0, .int .i64 0, .slice none 0 0] 26) := ⟨_, rfl⟩
  have mr : MBox w1 w.heap.size 0 0 (.slice none 0 0) := by rw [hw1]; exact MBox.mk_ _ _ _ _ _
  have g01 : Grows w w1 := by rw [hw1]; exact bel0
  have h_w1 : w1.heap.size = w.heap.size + 1 := by rw [hw1]; simp
  have CN := Lib.hid (l1New_c w1.heap.size A n cap w1 (Nat.le_refl _) (hr.up g01) hn)
  have C3 := Lib.hid fun b W h => l1Below_c w1.heap.size b A n cap 3 W (by omega) h
  have CB := Lib.hid fun b R W h1 h2 h => l18Basis_c w1.heap.size b A n cap R W h1 h2 h
  have CO := Lib.hid fun b W h => l1Once_c w1.heap.size b A n cap 3 W (by omega) h
  have CV := Lib.hid fun b R W (hR : R ≤ 3) h => l18VecT_c w1.heap.size b A n cap (R : Nat) W (by omega) h
  have HW1 := Lib.hid hw1
  clear hw1 hr
  go_enter Try.func34, Try.ntmps34
  go_wp2_with fail
  rw [← HW1.out]
  refine CN.out.mono ?_; rintro e w2 ⟨b, rfl, hc, g2⟩
  have hbl := hc.lt
  have hlo := hc.lo
  have s_w2 := Below.size g2
  replace mr := mr.grows g2
  have G2 : Grows w w2 := by exact bel2 g2 g01
  have hm : Mv (fun g => g = b) w2 w2 := Mv.refl _
  clear g2 g01
  have mr_0 := mr.c0; have mr_1 := mr.c1; have mr_2 := mr.c2; have mr_l := mr.lt; have mr_f := mr.fz
  go_wp2_with fail
  refine (C3.out b _ hc).mono ?_; rintro e w3 ⟨x0, rfl, hx0, c_w3, g_w3⟩
  have m_w3 : Mv (fun g => g = b) w2 w3 := Mv.left (by exact bel0) (Mv.by_ (S := fun g => g = b) g_w3 rfl)
  have s_w3 := m_w3.size
  clear mr_0 mr_1 mr_2 mr_l mr_f
  replace mr := mr.mv m_w3 (by omega)
  have mr_0 := mr.c0; have mr_1 := mr.c1; have mr_2 := mr.c2; have mr_l := mr.lt; have mr_f := mr.fz
  clear hc; have hc := c_w3; clear c_w3
  replace hm := hm.trans m_w3
  have h_w3 := hm.size
  clear m_w3 g_w3
  obtain ⟨R, hR⟩ : ∃ R : Nat, 1 + (x0 : Int) = (R : Int) := ⟨1 + x0, by omega⟩
  have HRx := Lib.hid hR
  have hR3 : R ≤ 3 := by omega
  have hR1 : 1 ≤ R := by omega
  have hx3 : (x0 : Int) ≤ 2 := by omega
  clear hR hx0
  go_wp2_with fail
  rw [HRx.out]
  refine (CB.out b R _ hR3 hR1 hc).mono ?_; rintro e w4 ⟨V, cv, l, rfl, hl, hbd, o3, c_w4, g_w4⟩
  have m_w4 : Mv (fun g => g = b) w3 w4 := Mv.left (by exact bel0) (Mv.by_ (S := fun g => g = b) g_w4 rfl)
  have s_w4 := m_w4.size
  clear mr_0 mr_1 mr_2 mr_l mr_f
  replace mr := mr.mv m_w4 (by omega)
  have mr_0 := mr.c0; have mr_1 := mr.c1; have mr_2 := mr.c2; have mr_l := mr.lt; have mr_f := mr.fz
  clear hc; have hc := c_w4; clear c_w4
  replace hm := hm.trans m_w4
  have h_w4 := hm.size
  clear m_w4 g_w4
  have HL := Lib.hid hl
  have hRR : R * R ≤ 9 := Nat.mul_le_mul hR3 hR3
  have hRR1 : 1 ≤ R * R := Nat.mul_pos hR1 hR1
  obtain ⟨gv, cv', ev, hgv3, hgv4⟩ := o3.form (by omega)
  simp only [Value.slice.injEq] at ev
  obtain ⟨rfl, -, rfl⟩ := ev
  clear hl hbd
  go_wp2_with fail
  refine (CO.out b _ (by exact hc.grows (by exact bel0))).mono ?_; rintro e w5 ⟨t, rfl, c_w5, g_w5⟩
  have m_w5 : Mv (fun g => g = b) w4 w5 := Mv.left (by exact bel0) (Mv.by_ (S := fun g => g = b) g_w5 rfl)
  have s_w5 := m_w5.size
  clear mr_0 mr_1 mr_2 mr_l mr_f
  replace mr := mr.mv m_w5 (by omega)
  have mr_0 := mr.c0; have mr_1 := mr.c1; have mr_2 := mr.c2; have mr_l := mr.lt; have mr_f := mr.fz
  replace o3 := o3.mv m_w5 (fun g e => by have := World.ownsRow.lt o3 g e; omega)
  have mb : MBox w5 (w4.heap.size) (R : Int) (R : Int) (.slice (some ⟨gv, 0, none⟩) (R * R) cv) := MBox.mv (MBox.new_ w4 (R : Int) (R : Int) (.slice (some ⟨gv, 0, none⟩) (R * R) cv) 26 (by simp)) (Mv.left (by exact bel0) (Mv.by_ (S := fun g => g = b) g_w5 rfl)) (by omega)
  have mb_0 := mb.c0; have mb_1 := mb.c1; have mb_2 := mb.c2; have mb_l := mb.lt; have mb_f := mb.fz
  clear hc; have hc := c_w5; clear c_w5
  replace hm := hm.trans m_w5
  have h_w5 := hm.size
  clear m_w5 g_w5
  have hgv := World.ownsRow.lt o3 gv rfl
  obtain ⟨-, hcv, hcv2⟩ := o3.caps
  have hmb := mb.lt
  by_cases hD : t = true ∧ 2 ≤ R
  all_goals
   first
   | (
    obtain ⟨rfl, hR2⟩ := hD
    have i1 : (1 : Int) < (R : Int) := by omega
    obtain ⟨Q, hQ⟩ : ∃ Q : Nat, (R : Int) - 1 = (Q : Int) := ⟨R - 1, by omega⟩
    have hQR : Q * R ≤ R * R := Nat.mul_le_mul_right R (by omega)
    obtain ⟨P, hP⟩ : ∃ P : Nat, (Q : Int) * (R : Int) = (P : Int) := ⟨Q * R, by simp⟩
    have hPl : P ≤ l.length := by
      have e : ((Q * R : Nat) : Int) = (P : Int) := by rw [Int.natCast_mul]; exact hP
      have := HL.out
      omega
    have hc9 : l.length ≤ 9 := by have := HL.out; omega
    have hPc : (P : Int) ≤ (cv : Int) := by have := HL.out; omega
    have hPc2 : P ≤ cv := by omega
    have hQ2 : (Q : Int) ≤ 2 := by omega
    have kQ : IntKind.i64.wrap (Q : Int) = (Q : Int) := IntWalk.i64_in _ (by omega)
    have kP : IntKind.i64.wrap (P : Int) = (P : Int) := IntWalk.i64_in _ (by omega)
    clear hQR hx3 hR2
    dsimp only
    go_wp2_with fail
    (refine wp_region_held_last 15 (fun W => W.cell? ⟨w4.heap.size, 0, none⟩ = some (.int .i64 R) ∧ W.cell? ⟨w4.heap.size, 1, none⟩ = some (.int .i64 R) ∧ W.cell? ⟨w4.heap.size, 2, none⟩ = some (.slice (some ⟨gv, 0, none⟩) (R * R) cv)) (by rfl) (by kernel_rfl) (by kernel_rfl) (by ((try dsimp only); (exact (mb.grows (by exact bel0)).cells))) (fun hHeld => ?_); simp only [List.take_succ_cons, List.take_zero]; refine heldL_take (i := 0) (v := _) (by rfl) (by kernel_rfl) (by kernel_rfl) (by kernel_rfl) (fun _ _ _ h => h) (Or.inl ⟨by rfl, fun wS hSw => by ((try dsimp only at hSw); go_simp; (try with_reducible rfl))⟩) (by assumption) ?_; simp only [Act.put, List.setIfInBounds_toArray, List.set_cons_zero, List.set_cons_succ]; refine heldL_take (i := 1) (v := _) (by rfl) (by kernel_rfl) (by kernel_rfl) (by kernel_rfl) (fun _ _ _ h => h) (Or.inl ⟨by rfl, fun wS hSw => by ((try dsimp only at hSw); go_simp; (try with_reducible rfl))⟩) (by assumption) ?_; simp only [Act.put, List.setIfInBounds_toArray, List.set_cons_zero, List.set_cons_succ]; refine heldL_take (i := 2) (v := _) (by rfl) (by kernel_rfl) (by kernel_rfl) (by kernel_rfl) (fun _ _ _ h => h) (Or.inl ⟨by rfl, fun wS hSw => by ((try dsimp only at hSw); go_simp; (try with_reducible rfl))⟩) (by assumption) ?_; simp only [Act.put, List.setIfInBounds_toArray, List.set_cons_zero, List.set_cons_succ]; refine heldL_take (i := 3) (v := _) (by rfl) (by kernel_rfl) (by kernel_rfl) (by kernel_rfl) (fun _ _ _ h => h) (Or.inl ⟨by rfl, fun wS hSw => by ((try dsimp only at hSw); go_simp; (try with_reducible rfl))⟩) (by assumption) ?_; simp only [Act.put, List.setIfInBounds_toArray, List.set_cons_zero, List.set_cons_succ]; refine heldL_take (i := 4) (v := _) (by rfl) (by kernel_rfl) (by kernel_rfl) (by kernel_rfl) (fun _ _ _ h => h) (Or.inl ⟨by rfl, fun wS hSw => by ((try dsimp only at hSw); go_simp; (try with_reducible rfl))⟩) (by assumption) ?_; simp only [Act.put, List.setIfInBounds_toArray, List.set_cons_zero, List.set_cons_succ]; refine heldL_take (i := 5) (v := _) (by rfl) (by kernel_rfl) (by kernel_rfl) (by kernel_rfl) (fun _ _ _ h => h) (Or.inl ⟨by rfl, fun wS hSw => by ((try dsimp only at hSw); go_simp; (try with_reducible rfl))⟩) (by assumption) ?_; simp only [Act.put, List.setIfInBounds_toArray, List.set_cons_zero, List.set_cons_succ]; refine heldL_take (i := 6) (v := _) (by rfl) (by kernel_rfl) (by kernel_rfl) (by kernel_rfl) (fun _ _ _ h => h) (Or.inl ⟨by rfl, fun wS hSw => by ((try dsimp only at hSw); go_simp; (try with_reducible rfl))⟩) (by assumption) ?_; simp only [Act.put, List.setIfInBounds_toArray, List.set_cons_zero, List.set_cons_succ]; refine heldL_take (i := 7) (v := _) (by rfl) (by kernel_rfl) (by kernel_rfl) (by kernel_rfl) (fun _ _ _ h => h) (Or.inl ⟨by rfl, fun wS hSw => by ((try dsimp only at hSw); go_simp; (try with_reducible rfl))⟩) (by assumption) ?_; simp only [Act.put, List.setIfInBounds_toArray, List.set_cons_zero, List.set_cons_succ]; refine heldL_take (i := 8) (v := _) (by rfl) (by kernel_rfl) (by kernel_rfl) (by kernel_rfl) (fun _ _ _ h => h) (Or.inl ⟨by rfl, fun wS hSw => by ((try dsimp only at hSw); go_simp; (try with_reducible rfl))⟩) (by assumption) ?_; simp only [Act.put, List.setIfInBounds_toArray, List.set_cons_zero, List.set_cons_succ]; refine heldL_take (i := 9) (v := _) (by rfl) (by kernel_rfl) (by kernel_rfl) (by kernel_rfl) (fun _ _ _ h => h) (Or.inl ⟨by rfl, fun wS hSw => by ((try dsimp only at hSw); go_simp; (try with_reducible rfl))⟩) (by assumption) ?_; simp only [Act.put, List.setIfInBounds_toArray, List.set_cons_zero, List.set_cons_succ]; refine heldL_take (i := 10) (v := _) (by rfl) (by kernel_rfl) (by kernel_rfl) (by kernel_rfl) (fun _ _ _ h => h) (Or.inl ⟨by rfl, fun wS hSw => by ((try dsimp only at hSw); go_simp; (try with_reducible rfl))⟩) (by assumption) ?_; simp only [Act.put, List.setIfInBounds_toArray, List.set_cons_zero, List.set_cons_succ]; refine heldL_take (i := 11) (v := _) (by rfl) (by kernel_rfl) (by kernel_rfl) (by kernel_rfl) (fun _ _ _ h => h) (Or.inl ⟨by rfl, fun wS hSw => by ((try dsimp only at hSw); go_simp; (try with_reducible rfl))⟩) (by assumption) ?_; simp only [Act.put, List.setIfInBounds_toArray, List.set_cons_zero, List.set_cons_succ]; refine heldL_take (i := 12) (v := _) (by rfl) (by kernel_rfl) (by kernel_rfl) (by kernel_rfl) (fun _ _ _ h => h) (Or.inl ⟨by rfl, fun wS hSw => by ((try dsimp only at hSw); go_simp; (try with_reducible rfl))⟩) (by assumption) ?_; simp only [Act.put, List.setIfInBounds_toArray, List.set_cons_zero, List.set_cons_succ]; refine heldL_take (i := 13) (v := _) (by rfl) (by kernel_rfl) (by kernel_rfl) (by kernel_rfl) (fun _ _ _ h => h) (Or.inl ⟨by rfl, fun wS hSw => by ((try dsimp only at hSw); go_simp; (try with_reducible rfl))⟩) (by assumption) ?_; simp only [Act.put, List.setIfInBounds_toArray, List.set_cons_zero, List.set_cons_succ]; refine heldL_take (i := 14) (v := _) (by rfl) (by kernel_rfl) (by kernel_rfl) (by kernel_rfl) (fun _ _ _ h => h) (Or.inl ⟨by rfl, fun wS hSw => by ((try dsimp only at hSw); go_simp; (try with_reducible rfl))⟩) (by assumption) ?_; simp only [Act.put, List.setIfInBounds_toArray, List.set_cons_zero, List.set_cons_succ]; refine wpAnyH_done (by kernel_rfl) ?_ _; refine lastQ_go ?_)
    go_wp2_with fail
    obtain ⟨w7, hw7⟩ : ∃ w7, w7 = (((w5.setCell ⟨w4.heap.size, 0, none⟩ (.int .i64 Q)).setCell ⟨w4.heap.size, 1, none⟩ (.int .i64 R)).setCell ⟨w4.heap.size, 2, none⟩ (.slice (some ⟨gv, 0, none⟩) P cv)).drew := ⟨_, rfl⟩
    rw [← hw7]
    have PK : ∃ (r7 : Int) (n7 : Nat) (l7 : List Int), (-1 ≤ r7 ∧ r7 ≤ 7) ∧ l7.length = n7 ∧ n7 ≤ 9 ∧ MBox w7 w4.heap.size r7 (R : Int) (.slice (some ⟨gv, 0, none⟩) n7 cv) ∧ Own w7 w3.heap.size (.slice (some ⟨gv, 0, none⟩) n7 cv) l7 ∧ Cur w7 w1.heap.size b A n cap ∧ Mv (fun g => g = b) w2 w7 ∧ MBox w7 w.heap.size 0 0 (.slice none 0 0) ∧ w5.heap.size ≤ w7.heap.size := by
      have mvs : Mv (fun g => g = w4.heap.size) w5 w7 := by
        rw [hw7]
        exact (Mv.putM (b := w4.heap.size) w5 _ _ _).right (by exact bel0)
      have bx : MBox w7 w4.heap.size (Q : Int) (R : Int) (.slice (some ⟨gv, 0, none⟩) P cv) := by
        rw [hw7]
        exact (mb.put (Q : Int) (R : Int) _).grows (by exact bel0)
      have ow := (o3.mv mvs (fun g e => by have e2 : gv = g := Option.some.inj e; omega)).cut (k := P) hPl
      exact ⟨Q, P, l.take P, by omega, by rw [List.length_take]; omega, by omega, bx, ow, hc.mv mvs (by omega) (fun g e => by omega), hm.over mvs (fun g e => by omega), mr.mv mvs (by omega), mvs.size⟩
    clear mb_0 mb_1 mb_2 mb_l mb_f mr_0 mr_1 mr_2 mr_l mr_f hQ hP hPl hPc hPc2 hQ2 kQ kP i1 hw7)
   | (
    have HC := Lib.hid hD
    cases t
    all_goals (
      first | have hR2' : ¬ (1 : Int) < (R : Int) := fun e => HC.out ⟨rfl, by omega⟩ | skip
      clear hD
      go_wp2_with fail
      obtain ⟨w7, hw7⟩ : ∃ w7, w7 = w5 := ⟨_, rfl⟩
      rw [← hw7]
      have PK : ∃ (r7 : Int) (n7 : Nat) (l7 : List Int), (-1 ≤ r7 ∧ r7 ≤ 7) ∧ l7.length = n7 ∧ n7 ≤ 9 ∧ MBox w7 w4.heap.size r7 (R : Int) (.slice (some ⟨gv, 0, none⟩) n7 cv) ∧ Own w7 w3.heap.size (.slice (some ⟨gv, 0, none⟩) n7 cv) l7 ∧ Cur w7 w1.heap.size b A n cap ∧ Mv (fun g => g = b) w2 w7 ∧ MBox w7 w.heap.size 0 0 (.slice none 0 0) ∧ w5.heap.size ≤ w7.heap.size := by
        rw [hw7]
        exact ⟨(R : Int), R * R, l, by omega, HL.out, hRR, mb, o3, hc, hm, mr, Nat.le_refl _⟩
      clear hw7 mb_0 mb_1 mb_2 mb_l mb_f mr_0 mr_1 mr_2 mr_l mr_f))
  all_goals (
    clear mb mr hc hm o3
    obtain ⟨r7, n7, l7, hr7, hl7, hn7, mb7, o7, c7, mv7, mr7, hs7⟩ := PK
    have HL7 := Lib.hid hl7
    have CS := Lib.hid fun W hcur hown (hK : w3.heap.size ≤ W.heap.size) => l3Spoil_c w1.heap.size b A n cap w3.heap.size r7 (R : Int) (some ⟨gv, 0, none⟩) n7 cv l7 W hcur hown hl7 (by omega) (by omega) (fun g e => by have e2 : gv = g := Option.some.inj e; omega) hK hr7
    have ed : w7.drew.heap.size = w7.heap.size := rfl
    clear hl7
    (refine wp_region_heldL (fun W => W.cell? ⟨w4.heap.size, 0, none⟩ = some (.int .i64 r7) ∧ W.cell? ⟨w4.heap.size, 1, none⟩ = some (.int .i64 R) ∧ W.cell? ⟨w4.heap.size, 2, none⟩ = some (.slice (some ⟨gv, 0, none⟩) n7 cv)) (by kernel_rfl) (by ((try dsimp only); (first | with_reducible exact mb9.cells | with_reducible exact mb8.cells | with_reducible exact (mb7.grows (by exact bel0)).cells | with_reducible exact (mb9.mv (Mv.putM _ _ _ _) (by omega)).cells))) (fun hHeld => ?_); refine heldL_take (i := 0) (v := _) (by rfl) (by kernel_rfl) (by kernel_rfl) (by kernel_rfl) (fun _ _ _ h => h) (Or.inl ⟨by rfl, fun wS hSw => by ((try dsimp only at hSw); go_simp; (try with_reducible rfl))⟩) (by assumption) ?_; simp only [Act.put, List.setIfInBounds_toArray, List.set_cons_zero, List.set_cons_succ]; refine heldL_take (i := 1) (v := _) (by rfl) (by kernel_rfl) (by kernel_rfl) (by kernel_rfl) (fun _ _ _ h => h) (Or.inl ⟨by rfl, fun wS hSw => by ((try dsimp only at hSw); go_simp; (try with_reducible rfl))⟩) (by assumption) ?_; simp only [Act.put, List.setIfInBounds_toArray, List.set_cons_zero, List.set_cons_succ]; refine heldL_take (i := 3) (v := _) (by rfl) (by kernel_rfl) (by kernel_rfl) (by kernel_rfl) (fun _ _ _ h => h) (Or.inl ⟨by rfl, fun wS hSw => by ((try dsimp only at hSw); go_simp; (try with_reducible rfl))⟩) (by assumption) ?_; simp only [Act.put, List.setIfInBounds_toArray, List.set_cons_zero, List.set_cons_succ]; refine heldL_take (i := 4) (v := _) (by rfl) (by kernel_rfl) (by kernel_rfl) (by kernel_rfl) (fun _ _ _ h => h) (Or.inl ⟨by rfl, fun wS hSw => by ((try dsimp only at hSw); go_simp; (try with_reducible rfl))⟩) (by assumption) ?_; simp only [Act.put, List.setIfInBounds_toArray, List.set_cons_zero, List.set_cons_succ]; refine heldL_take (i := 5) (v := _) (by rfl) (by kernel_rfl) (by kernel_rfl) (by kernel_rfl) (fun _ _ _ h => h) (Or.inl ⟨by rfl, fun wS hSw => by ((try dsimp only at hSw); go_simp; (try with_reducible rfl))⟩) (by assumption) ?_; simp only [Act.put, List.setIfInBounds_toArray, List.set_cons_zero, List.set_cons_succ]; refine heldL_step (i := 2) (by kernel_rfl) (by rfl) (fun K hK => ?_); go_simp; (refine (CS.out _ (c7.grows (by exact bel0)) (o7.grows (by exact bel0)) (by omega)).mono ?_; rintro e w8 ⟨r9, c9, V9, cv9, l9, rfl, hr9, hl9, o9, c8, m8, _⟩; have m78 : Mv (fun g => g = b ∨ (Value.slice (some ⟨gv, 0, none⟩) n7 cv).ownBlock = some g) w7 w8 := Mv.left (by exact bel0) m8; have s_w8 := m78.size; have nb : ∀ g, (g = b ∨ (Value.slice (some ⟨gv, 0, none⟩) n7 cv).ownBlock = some g) → g = b ∨ g = gv := (fun g e => by rcases e with e | e; exact .inl e; exact .inr (Option.some.inj e).symm); have mb8 := mb7.mv m78 (fun e => by have := nb _ e; omega); have mr8 := mr7.mv m78 (fun e => by have := nb _ e; omega); have mv8 := mv7.over m78 (fun g e => by have := nb _ e; omega)) ; (try (go_wp2_with fail)); refine hK.out _ _ (by ((try dsimp only); (first | with_reducible exact mb9.cells | with_reducible exact mb8.cells | with_reducible exact (mb7.grows (by exact bel0)).cells | with_reducible exact (mb9.mv (Mv.putM _ _ _ _) (by omega)).cells))) (fun hHeld => ?_); clear hK K; (try simp only [Act.put, List.setIfInBounds_toArray, List.set_cons_zero, List.set_cons_succ]); refine heldL_step (i := 6) (by kernel_rfl) (by rfl) (fun K hK => ?_); go_simp; (refine (CV.out b R _ hR3 (c8.grows (by exact bel0))).mono ?_; rintro e w9 ⟨V2, cv2, l2, rfl, hl2, hT2, o2, cc9, g9⟩; have HT2 := Lib.hid hT2; clear hT2; have m9 : Mv (fun g => g = b) w8 w9 := Mv.left (by exact bel0) (Mv.by_ (S := fun g => g = b) g9 rfl); have s_w9 := m9.size; have mb9 := mb8.mv m9 (by omega); have mr9 := mr8.mv m9 (by omega); have o99 := o9.mv m9 (fun g e => by have := World.ownsRow.lt o9 g e; omega); obtain ⟨e0, e1, e2⟩ := mr9.cells; have ef := mr9.fz; have el := mr9.lt) ; (try (go_wp2_with fail)); refine hK.out _ _ (by ((try dsimp only); (first | with_reducible exact mb9.cells | with_reducible exact mb8.cells | with_reducible exact (mb7.grows (by exact bel0)).cells | with_reducible exact (mb9.mv (Mv.putM _ _ _ _) (by omega)).cells))) (fun hHeld => ?_); clear hK K; (try simp only [Act.put, List.setIfInBounds_toArray, List.set_cons_zero, List.set_cons_succ]); refine heldL_step (i := 7) (by kernel_rfl) (by rfl) (fun K hK => ?_); go_simp; refine hK.out _ _ (by ((try dsimp only); (first | with_reducible exact mb9.cells | with_reducible exact mb8.cells | with_reducible exact (mb7.grows (by exact bel0)).cells | with_reducible exact (mb9.mv (Mv.putM _ _ _ _) (by omega)).cells))) (fun hHeld => ?_); clear hK K; (try simp only [Act.put, List.setIfInBounds_toArray, List.set_cons_zero, List.set_cons_succ]); refine heldL_take (i := 8) (v := _) (by rfl) (by kernel_rfl) (by kernel_rfl) (by kernel_rfl) (fun _ _ _ h => h) (Or.inl ⟨by rfl, fun wS hSw => by ((try dsimp only at hSw); go_simp; (try with_reducible rfl))⟩) (by assumption) ?_; simp only [Act.put, List.setIfInBounds_toArray, List.set_cons_zero, List.set_cons_succ]; refine wpAnyH_done (by kernel_rfl) ?_ _; refine NoPanic.normal ?_)
    have G : Grows w w9 := Below.trans G2 (Mv.below (mv8.trans m9) (by omega) (fun g e => by omega))
    go_wp2_with fail
    refine bodyPost_ret (v := .tuple #[.agg #[.int .i64 r9, .int .i64 c9, .slice V9 l9.length cv9], .slice V2 l2.length cv2]) ?_ rfl ?_
    · have hl2' : l2.length = R := by rw [hl2]; simp
      simp [results, Try.results34, go_sem, e0, e1, e2, ef, el, hl2']
    · refine ⟨r9, c9, V9, cv9, l9, V2, cv2, l2, rfl, by omega, by (rw [hl2]; simp; omega), HT2.out, ?_, ?_, by exact bel1 G⟩
      · refine Own.less (B := w3.heap.size) ?_ (by omega)
        ((repeat' (first | with_reducible exact o99 | with_reducible refine Own.alloc ?_ _ | with_reducible refine Own.drew ?_ | with_reducible refine Own.far ?_ ?_ _)); all_goals (intro g hg; have := World.ownsRow.lt o99 g hg; (try simp only); omega))
      · refine Own.less (B := w8.heap.size) ?_ (by omega)
        ((repeat' (first | with_reducible exact o2 | with_reducible refine Own.alloc ?_ _ | with_reducible refine Own.drew ?_ | with_reducible refine Own.far ?_ ?_ _)); all_goals (intro g hg; have := World.ownsRow.lt o2 g hg; (try simp only); omega)))
theorem drawCloT_c (A : Option Addr) (n cap : Nat) (w : World) (hr : CodeR w w.heap.size A n) (hn : n ≤ 1048576) :
    Calls Try.prog 13 #[.slice A n cap] w (DMatLT 10 3 w) := by
  obtain ⟨w1, hw1⟩ : ∃ w1, w1 = w.alloc (.cells #[.int .i64 0, .int .i64 0, .slice none 0 0] 26) := ⟨_, rfl⟩
  have mr : MBox w1 w.heap.size 0 0 (.slice none 0 0) := by rw [hw1]; exact MBox.mk_ _ _ _ _ _
  have g01 : Grows w w1 := by rw [hw1]; exact bel0
  have h_w1 : w1.heap.size = w.heap.size + 1 := by rw [hw1]; simp
  have CD := Lib.hid (l21Draw_c A n cap w1 (hr.up g01) hn)
  have HW1 := Lib.hid hw1
  clear hw1 hr
  go_enter Try.func13, Try.ntmps13
  go_wp2_with fail
  rw [← HW1.out]
  refine CD.out.mono ?_; rintro e w2 ⟨r, c, V, cv, l, V2, cv2, l2, rfl, hl, hl2, hT, o, o2, g⟩
  have mr2 := mr.grows g
  obtain ⟨m0, m1, m2⟩ := mr2.cells
  have mf := mr2.fz
  have ml := mr2.lt
  have h1 := fun g e => World.ownsRow.lt o g e
  have h2 := fun g e => World.ownsRow.lt o2 g e
  go_wp2_with fail
  refine bodyPost_ret (v := .tuple #[.agg #[.int .i64 r, .int .i64 c, .slice V l.length cv], .slice V2 l2.length cv2]) ?_ rfl ?_
  · simp [results, Try.results13, go_sem, m0, m1, m2, mf, ml]
  · refine ⟨r, c, V, cv, l, V2, cv2, l2, rfl, hl, hl2, hT, ?_, ?_, by exact bel2 g g01⟩
    · refine Own.less (B := w1.heap.size) ?_ (by omega)
      ((repeat' (first | with_reducible exact o | with_reducible refine Own.far ?_ ?_ _)); all_goals (intro g hg; have := h1 g hg; (try simp only); omega))
    · refine Own.less (B := w1.heap.size) ?_ (by omega)
      ((repeat' (first | with_reducible exact o2 | with_reducible refine Own.far ?_ ?_ _)); all_goals (intro g hg; have := h2 g hg; (try simp only); omega))
theorem drawClo_c (A : Option Addr) (n cap : Nat) (w : World) (hr : CodeR w w.heap.size A n) (hn : n ≤ 1048576) :
    Calls Try.prog 13 #[.slice A n cap] w (DMatL 10 8 w) :=
  (drawCloT_c A n cap w hr hn).mono fun e w' h => by
    obtain ⟨r, c, V, cv, l, V2, cv2, l2, h1, hl, hl2, _, h3⟩ := h
    exact ⟨r, c, V, cv, l, V2, cv2, l2, h1, hl, by omega, h3⟩
end
end Go.Proofs.Ythajmffhgbenpaa

/- Contracts: the laws' row, absolute value, equal lists. -/
namespace Go.Proofs.Ythajmffhgbenpaa
set_option linter.unusedSimpArgs false
set_option linter.unusedVariables false
open Go.RowKit

section
set_option maxHeartbeats 4000000
set_option maxRecDepth 10000
theorem sameInts_c (A B : Option Addr) (a b : List Int) (c d : Nat) (w : World) (ha : Rd w A a) (hb : Rd w B b) (hl : a.length ≤ 1099511627776) (hl2 : b.length ≤ 1099511627776) :
    Calls Try.prog 49 #[.slice A a.length c, .slice B b.length d] w fun e w' => e = .returned (.bool (eqL a b)) ∧ Grows w w' := by
  by_cases hnm : b.length = a.length
  · obtain ⟨n, hn⟩ : ∃ n, n = a.length := ⟨_, rfl⟩
    rw [hnm] at hl2 ⊢
    rw [← hn] at hl hl2 hnm ⊢
    have HN := Lib.hid hn
    have HM := Lib.hid hnm
    clear hn hnm
    go_enter Try.func49, Try.ntmps49
    go_wp2_with fail
    go_loopw [5] (fun k wr => ∃ (i : Nat), k = .int .i64 i ∧ i ≤ n ∧ (∀ t, t < i → nth a t = nth b t) ∧ Grows w wr) (fun k _ => n - (intOf k).toNat)
    case atStart => exact ⟨0, rfl, Nat.zero_le _, fun t h => by omega, Below.refl _ _⟩
    case round =>
      obtain ⟨i, rfl, hi, he, hgr⟩ := hrel
      have HE := Lib.hid he
      clear he
      by_cases hlt : i < n
      · obtain ⟨b1, o1, rfl, hbs1, hc1⟩ := (ha.grows hgr).at_ i (by rw [← HN.out]; exact hlt)
        obtain ⟨b2, o2, rfl, hbs2, hc2⟩ := (hb.grows hgr).at_ i (by rw [HM.out]; exact hlt)
        have i1 : (i : Int) < (n : Int) := by omega
        by_cases hx : nth a i = nth b i
        · have hx' : (nth a i != nth b i) = false := by simpa using hx
          have HX := Lib.hid hx
          clear hx
          go_wp2_with fail
          go_quiet (fail)
          go_wp2_with fail
          go_round
          case rel => exact ⟨i + 1, by go_num, by omega, fun t ht => by (by_cases e : t = i); (· subst e; exact HX.out); (· exact HE.out t (by omega)), below_drewN hgr _⟩
          case measure => simp [intOf]; omega
        · have hx' : (nth a i != nth b i) = true := by simpa using hx
          have HX := Lib.hid (eqL_at hx)
          clear hx
          go_wp2_with fail
          go_quiet (fail)
          go_wp2_with fail
          go_ret
          exact ⟨by rw [HX.out]; rfl, below_drewN hgr _⟩
      · obtain rfl : i = n := by omega
        have HX := Lib.hid (eqL_all (a := a) (b := b) (by rw [HM.out]; exact HN.out.symm) (fun t ht => HE.out t (by have := HN.out; omega)))
        go_wp2_with fail
        go_ret
        exact ⟨by rw [HX.out]; rfl, hgr⟩
  · have HX := Lib.hid (eqL_len (a := a) (b := b) (fun e => hnm e.symm))
    generalize a.length = n at *
    generalize b.length = m at *
    have hnm' : ((n : Int) != (m : Int)) = true := by simp; omega
    go_enter Try.func49, Try.ntmps49
    go_wp2_with fail
    go_ret
    exact ⟨by rw [HX.out]; rfl, Below.refl _ _⟩
end
end Go.Proofs.Ythajmffhgbenpaa

/- Contracts: the laws' equal rows (of equal lists), absolute value with its value. -/
namespace Go.Proofs.Ythajmffhgbenpaa
set_option linter.unusedSimpArgs false
set_option linter.unusedVariables false
open Go.RowKit

section
set_option maxHeartbeats 4000000
set_option maxRecDepth 10000
theorem sameRows_c (A B : Option Addr) (L : List (List Int)) (n c d : Nat) (w : World) (hn : L.length = n) (ha : RdR RSI w A L) (hb : RdR RSI w B L) (hl : n ≤ 1048576) (hx : ∀ x ∈ L, x.length ≤ 1024) :
    Calls Try.prog 16 #[.slice A n c, .slice B n d] w fun e w' => e = .returned (.bool true) ∧ Grows w w' := by
  go_enter Try.func16, Try.ntmps16
  go_wp2_with fail
  go_loopw [5] (fun i wr => ∃ (j : Nat), i = .int .i64 j ∧ j ≤ n ∧ Grows w wr) (fun i _ => n - (intOf i).toNat)
  case atStart => exact ⟨0, rfl, Nat.zero_le _, Grows.refl _⟩
  case round =>
    obtain ⟨j, rfl, hj, hg⟩ := hrel
    by_cases hlt : j < n
    · obtain ⟨b, off, u, rfl, hbs, hc1, A1, c1, rfl, hr1, _⟩ := (ha.grows RSI.good hg).at_ j (by omega)
      obtain ⟨b', off', u', rfl, hbs', hc2, A2, c2, rfl, hr2, _⟩ := (hb.grows RSI.good hg).at_ j (by omega)
      have x1 := ext_is hc1; have x2 := ext_is hc2
      have i1 : (j : Int) < (n : Int) := by omega
      have hzl : (L[j]'(by omega)).length ≤ 1024 := hx _ (List.getElem_mem _)
      generalize (L[j]'(by omega)) = z at *
      have hzz : eqL z z = true := eqL_all rfl fun _ _ => rfl
      have CE := Lib.hid fun W h h' => by have := sameInts_c A1 A2 z z c1 c2 W h h' (by omega) (by omega); rw [hzz] at this; exact this
      clear hn ha hb hx hzz
      go_wp2_with fail
      ((refine wp_region_ext (by kernel_rfl) (by kernel_rfl) ?_); (repeat (go_big_quiet_step ((go_at_call 49; with_reducible exact extC (CE.out _ (Rd.ext hr1 _) (Rd.ext hr2 _)))))); refine wpQuiet_nil ?_; rintro w3 ⟨w30, hw30⟩; have g3 := grows_of_ext hw30; clear hw30 w30)
      go_wp2_with fail
      go_round
      case rel => exact ⟨j + 1, by go_num, by omega, by exact bel2 g3 hg⟩
      case measure => simp [intOf]; omega
    · obtain rfl : j = n := by omega
      go_wp2_with fail
      go_ret
      exact ⟨rfl, hg⟩
end
end Go.Proofs.Ythajmffhgbenpaa

/- Plain: all that FnShifted needs of the closest vectors. -/
namespace Go.Proofs.Ythajmffhgbenpaa
set_option linter.unusedSimpArgs false
set_option linter.unusedVariables false
open Go.RowKit

def shS (l t : List Int) (n : Nat) : List Int := (List.range n).map fun k => nth t k + 2 * nth l k
theorem shS_succ (l t : List Int) (n : Nat) : shS l t (n + 1) = shS l t n ++ [nth t n + 2 * nth l n] := by unfold shS; rw [List.range_succ, List.map_append]; rfl
theorem shS_length (l t : List Int) (n : Nat) : (shS l t n).length = n := by simp [shS]
theorem shS_nth {l t : List Int} {n k : Nat} (h : k < n) : nth (shS l t n) k = nth t k + 2 * nth l k := by simp [shS, nth, h]
theorem mv2_set {v : List Int} (h : 1 ≤ v.length) : v.set 0 (nth v 0 + 2) = mv2 v := by
  cases v with
  | nil => simp at h
  | cons x l => rfl
theorem mv2_take (L : List (List Int)) {i : Nat} (h : i < L.length) : (L.take (i + 1)).map mv2 = (L.take i).map mv2 ++ [mv2 L[i]] := by
  rw [List.take_add_one, List.getElem?_eq_getElem h, List.map_append]; rfl
structure ShfN (r c : Int) (l t : List Int) (L : List (List Int)) (d : Int) : Prop where
  cc : c = t.length
  ll : t.length ≤ l.length
  lb : ∀ k, -400000000 ≤ nth l k ∧ nth l k ≤ 400000000
  tb : ∀ k, -400000000 ≤ nth t k ∧ nth t k ≤ 400000000
  row : ∀ i (hi : i < L.length), 1 ≤ L[i].length ∧ L[i].length ≤ 6 ∧ ∀ k, -400000000 ≤ nth L[i] k ∧ nth L[i] k ≤ 400000000
  law : ∀ L' d', closO ⟨r, c, l⟩ (shS l t t.length) = some (L', d') → d' = d ∧ L' = L.map mv2
theorem shf_len {r c : Int} {l t : List Int} {L : List (List Int)} {d : Int} (h : closO ⟨r, c, l⟩ t = some (L, d)) : L.length ≤ 4000 := by
  obtain ⟨x, F⟩ := clo_names h
  exact F.len
theorem num_all {l : List Int} (h : allNum l = true) (k : Nat) : -400000000 ≤ nth l k ∧ nth l k ≤ 400000000 := by
  by_cases hk : k < l.length
  · exact (isNum_iff _).1 ((allNum_iff _).1 h k hk)
  · rw [nth_out _ _ (by omega)]; omega
theorem shf_names {r c : Int} {l t : List Int} {L : List (List Int)} {d : Int} (h : closO ⟨r, c, l⟩ t = some (L, d)) (hr : r ≠ 0) (h3 : t.length ≤ 3) (hT : ∀ x ∈ t, okT x) : ShfN r c l t L d := by
  obtain ⟨x, F⟩ := clo_names h
  obtain ⟨R, C, lq, s, G⟩ := clo_facts h
  have e1 := G.br
  have e2 := G.bc
  simp only at e1 e2
  subst e1 e2
  obtain ⟨hm, hnl, _, htl, htn, _, _⟩ := dK_parts (R := R) (C := C) (b := l) (x := rndL lq) (t := t) G.rk
  obtain ⟨R', C', e3, e4, _, _, hl, hln⟩ := isMat_nat hm
  obtain rfl : R = R' := by omega
  obtain rfl : C = C' := by omega
  have hR : 0 < R := by omega
  have hla : allNum l = true := (allNum_iff _).2 hln
  refine ⟨by rw [htl], by rw [htl, hl]; exact Nat.le_mul_of_pos_left _ hR, num_all hla, num_all htn, fun i hi => ?_, fun L' d' h' => ?_⟩
  · obtain ⟨h1, h2, h3, _⟩ := F.row i hi
    obtain ⟨_, hyl, _, _, _, _, _⟩ := dK_parts (R := R) (C := C) (b := l) (x := L[i]) (t := t) h3
    exact ⟨by omega, h1, h2⟩
  · refine shf_law h h' hr (fun k hk => shS_nth hk) h3 fun k hk hn => ?_
    have ho := hT (nth t k) (by rw [nth_get t k hk]; exact List.getElem_mem hk)
    unfold okT at ho
    unfold bigT
    rcases ho with h | h | h | h | h
    · exact .inl h
    · exact .inr (.inl h)
    · exact .inr (.inr (.inl h))
    · exact .inr (.inr (.inr h))
    · rw [h] at hn; cases hn
end Go.Proofs.Ythajmffhgbenpaa
