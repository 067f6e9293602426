/- Contracts: the reference's part of a matrix, and its leading minors. -/
import Derived.Test.YtpfijhcjempfjaaLMin
import Derived.Deep.RegionHeld3
namespace Go.Proofs.Ytpfijhcjempfjaa
open Go.RowKit

/-! ### plain -/
/-- the cells in some rows and columns: the first k of them -/
def prt (C : Nat) (l rs cs : List Int) : Nat → List Int
  | 0 => []
  | k + 1 => prt C l rs cs k ++ [nth l ((nth rs (k / cs.length)).toNat * C + (nth cs (k % cs.length)).toNat)]
theorem prt_length (C : Nat) (l rs cs : List Int) (k : Nat) : (prt C l rs cs k).length = k := by
  induction k with
  | zero => rfl
  | succ k ih => simp [prt, ih]
theorem prt_nth {C : Nat} {l rs cs : List Int} {k t : Nat} (h : t < k) : nth (prt C l rs cs k) t = nth l ((nth rs (t / cs.length)).toNat * C + (nth cs (t % cs.length)).toNat) := by
  induction k with
  | zero => omega
  | succ k ih =>
    rw [prt]
    by_cases e : t = k
    · subst e; rw [nth_append_right _ _ _ (by rw [prt_length]; exact Nat.le_refl _), prt_length, Nat.sub_self]; rfl
    · rw [nth_append_left _ _ _ (by rw [prt_length]; omega)]; exact ih (by omega)
theorem prt_step {C : Nat} {l rs cs : List Int} {I J : Nat} (hJ : J < cs.length) : prt C l rs cs (I * cs.length + (J + 1)) = prt C l rs cs (I * cs.length + J) ++ [nth l ((nth rs I).toNat * C + (nth cs J).toNat)] := by
  rw [← Nat.add_assoc, prt, idx_div hJ, idx_mod hJ]
theorem prt_tab (C : Nat) (l rs cs : List Int) : prt C l rs cs (rs.length * cs.length) = tab rs.length cs.length fun i j => nth l ((nth rs i).toNat * C + (nth cs j).toNat) :=
  tab_ext (prt_length _ _ _ _ _) fun i j hi hj => by rw [prt_nth (idx_lt hi hj), idx_div hj, idx_mod hj]
/-- 0, 1, .., k-1 -/
def iota (k : Nat) : List Int := (List.range k).map fun (i : Nat) => (i : Int)
theorem iota_length (k : Nat) : (iota k).length = k := by simp [iota]
theorem iota_nth {k i : Nat} (h : i < k) : nth (iota k) i = i := by
  rw [nth_get _ _ (by rw [iota_length]; exact h)]; simp [iota]
theorem iota_succ (k : Nat) : iota (k + 1) = iota k ++ [(k : Int)] := by simp [iota, List.range_succ]
theorem prt_iota {k C : Nat} {l : List Int} : prt C l (iota k) (iota k) (k * k) = subm k C l := by
  have := prt_tab C l (iota k) (iota k)
  rw [iota_length] at this
  rw [this]
  exact tab_congr fun i j hi hj => by rw [iota_nth hi, iota_nth hj]; simp

theorem part_keep {w w' : World} {B b b2 o2 b3 o3 : Nat} {r c : Int} {v x y u : Value} {a : Addr} (mb : MBox w b r c v) (hx : w.cell? ⟨b2, o2, none⟩ = some x) (hy : w.cell? ⟨b3, o3, none⟩ = some y) (k : Below B w w') (h1 : b < B) (h2 : b2 < B) (h3 : b3 < B) (h4 : w'.cell? a = some u) :
    w'.cell? ⟨b, 0, none⟩ = some (.int .i64 r) ∧ w'.cell? ⟨b, 1, none⟩ = some (.int .i64 c) ∧ w'.cell? ⟨b, 2, none⟩ = some v ∧ w'.cell? ⟨b2, o2, none⟩ = some x ∧ w'.cell? ⟨b3, o3, none⟩ = some y ∧ w'.cell? a = some u :=
  ⟨(k.cell (p := ⟨b, 0, none⟩) h1).trans mb.c0, (k.cell (p := ⟨b, 1, none⟩) h1).trans mb.c1, (k.cell (p := ⟨b, 2, none⟩) h1).trans mb.c2, (k.cell (p := ⟨b2, o2, none⟩) h2).trans hx, (k.cell (p := ⟨b3, o3, none⟩) h3).trans hy, h4⟩

section
set_option maxHeartbeats 1000000
theorem sPart_c (R C : Nat) (A X Y : Option Addr) (l rs cs : List Int) (n p q cap cx cy : Nat) (w : World) (hn : l.length = n) (hp : rs.length = p) (hq : cs.length = q) (hlen : n = R * C) (hR : R ≤ 24) (hC : C ≤ 24) (hp2 : p ≤ 24) (hq2 : q ≤ 24) (ha : Rd w A l) (hx : Rd w X rs) (hy : Rd w Y cs)
    (hrs : ∀ i, i < p → 0 ≤ nth rs i ∧ nth rs i < R) (hcs : ∀ i, i < q → 0 ≤ nth cs i ∧ nth cs i < C) :
    Calls Try.prog 150 #[.agg #[.int .i64 R, .int .i64 C, .slice A n cap], .slice X p cx, .slice Y q cy] w fun e w' =>
      ∃ v, e = .returned (.agg #[.int .i64 p, .int .i64 q, v]) ∧ Own w' w.heap.size v (prt C l rs cs (p * q)) ∧ Grows w w' := by
  have HN := Lib.hid hn
  have HP := Lib.hid hp
  have HQ := Lib.hid hq
  have HL := Lib.hid hlen
  have HRS := Lib.hid hrs
  have HCS := Lib.hid hcs
  have hRC : R * C ≤ 576 := Nat.mul_le_mul hR hC
  have hpq : p * q ≤ 576 := Nat.mul_le_mul hp2 hq2
  clear hn hlen hp hq hrs hcs
  obtain ⟨w1, hw1⟩ : ∃ w1, w1 = (w.alloc (.cells #[.int .i64 R, .int .i64 C, .slice A n cap] 26)).alloc (.cells #[.int .i64 0, .int .i64 0, .slice none 0 0] 26) := ⟨_, rfl⟩
  have mb1 : MBox w1 w.heap.size R C (.slice A n cap) := by rw [hw1]; exact (MBox.mk_ _ _ _ _ _).alloc _
  have mr1 : MBox w1 (w.heap.size + 1) 0 0 (.slice none 0 0) := by rw [hw1]; exact MBox.new_ _ _ _ _ _ (by simp)
  have hs1 : w1.heap.size = w.heap.size + 2 := by rw [hw1]; simp
  have hg01 : Grows w w1 := by rw [hw1]; ((repeat' (first | with_reducible exact Below.refl _ _ | with_reducible assumption | (with_reducible refine Below.setCell ?_ ?_ _) | (with_reducible refine Below.alloc ?_ ?_ _) | (with_reducible refine Below.drew ?_) | (with_reducible refine below_drewN ?_ _))); all_goals (first | omega | (simp; done) | (simp; omega) | (simp [*]; done) | (simp at *; omega)))
  have ha1 : Rd w1 A l := ha.grows hg01
  have HS1 := Lib.hid hs1
  have HW1 := Lib.hid hw1
  clear hs1 hw1
  go_enter Try.func150, Try.ntmps150
  go_wp2_with fail
  go_loopw [8] (fun i wr => ∃ (I : Nat) (v : Value), i = .int .i64 I ∧ I ≤ p ∧ Grows w1 wr ∧ MBox wr (w.heap.size + 1 + 1) p q v ∧ Own wr (w.heap.size + 2) v (prt C l rs cs (I * q)) ∧ (∀ g, v.ownBlock = some g → g ≠ w.heap.size + 1 + 1)) (fun i _ => p - (intOf i).toNat)
  case atStart => exact ⟨0, _, rfl, Nat.zero_le _, by rw [HW1.out]; ((repeat' (first | with_reducible exact Below.refl _ _ | with_reducible assumption | (with_reducible refine Below.setCell ?_ ?_ _) | (with_reducible refine Below.alloc ?_ ?_ _) | (with_reducible refine Below.drew ?_) | (with_reducible refine below_drewN ?_ _))); all_goals (first | omega | (simp; done) | (simp; omega) | (simp [*]; done) | (simp at *; omega))), MBox.new_ _ _ _ _ _ (by simp), by rw [Nat.zero_mul]; exact Own.nil _ _, by intro g hg; simp [Value.ownBlock] at hg⟩
  case round =>
    obtain ⟨I, v, rfl, hI, hg, mo, ho, hv⟩ := hrel
    by_cases hlt : I < p
    · go_wp2_with fail
      obtain ⟨wo, rfl⟩ : ∃ wo : World, wo = wr := ⟨_, rfl⟩
      go_loopw [9] (fun j w2 => ∃ (J : Nat) (v : Value), j = .int .i64 J ∧ J ≤ q ∧ Grows w1 w2 ∧ MBox w2 (w.heap.size + 1 + 1) p q v ∧ Own w2 (w.heap.size + 2) v (prt C l rs cs (I * q + J)) ∧ (∀ g, v.ownBlock = some g → g ≠ w.heap.size + 1 + 1)) (fun j _ => q - (intOf j).toNat)
      case atStart => exact ⟨0, v, rfl, Nat.zero_le _, hg, mo, ho, hv⟩
      case round =>
        clear hg mo ho hv v
        obtain ⟨J, v, rfl, hJ, hg, mo, ho, hv⟩ := hrel
        have mb := mb1.grows hg
        by_cases hlt2 : J < q
        · have HC := Lib.hid (by have := prt_step (C := C) (l := l) (rs := rs) (cs := cs) (I := I) (J := J) (by rw [HQ.out]; exact hlt2); rw [HQ.out] at this; exact this)
          have hd := ha1.grows hg
          obtain ⟨i1, i2⟩ := HRS.out I hlt
          obtain ⟨j1, j2⟩ := HCS.out J hlt2
          obtain ⟨bx, ox, rfl, hbx, _⟩ := hx.at_ I (by rw [HP.out]; exact hlt)
          obtain ⟨by', oy, rfl, hby, _⟩ := hy.at_ J (by rw [HQ.out]; exact hlt2)
          have cx' := ((hx.grows (Grows.trans hg01 hg))).cell I (by rw [HP.out]; exact hlt)
          have cy' := ((hy.grows (Grows.trans hg01 hg))).cell J (by rw [HQ.out]; exact hlt2)
          have k0 : nth rs I * (C : Int) + nth cs J = (((nth rs I).toNat * C + (nth cs J).toNat : Nat) : Int) := by rw [Int.natCast_add, Int.natCast_mul, Int.toNat_of_nonneg i1, Int.toNat_of_nonneg j1]
          have k1 : nth rs I * (C : Int) = (((nth rs I).toNat * C : Nat) : Int) := by rw [Int.natCast_mul, Int.toNat_of_nonneg i1]
          have k2 : (nth rs I).toNat * C + (nth cs J).toNat < R * C := idx_lt (by omega) (by omega)
          have C1 := fun W (hrd : Rd W A l) => l12Cell_c R C A l n cap (nth rs I) (nth cs J) W HN.out hrd (by omega) (by omega) (by omega) (by rw [HN.out, HL.out]; omega) (by rw [HN.out, HL.out]; omega)
          rw [k0, Int.toNat_natCast] at C1
          have C1' := Lib.hid C1
          have hcl : (prt C l rs cs (I * q + J)).length + 1 ≤ 1099511627776 := by have := prt_length C l rs cs (I * q + J); have := idx_lt hlt hlt2; omega
          have mol := mo.lt
          obtain ⟨y0, y1, y2⟩ := mo.cells
          have z1 : (I : Int) < (p : Int) := by omega
          have z2 : (J : Int) < (q : Int) := by omega
          clear k0 k1 k2 C1 i1 i2 j1 j2
          generalize nth l ((nth rs I).toNat * C + (nth cs J).toNat) = z at *
          go_wp2_with fail
          (refine wp_region_held_last 15 (fun W => W.cell? ⟨w.heap.size, 0, none⟩ = some (.int .i64 R) ∧ W.cell? ⟨w.heap.size, 1, none⟩ = some (.int .i64 C) ∧ W.cell? ⟨w.heap.size, 2, none⟩ = some (.slice A n cap) ∧ W.cell? ⟨bx, ox + I, none⟩ = some (.int .i64 (nth rs I)) ∧ W.cell? ⟨by', oy + J, none⟩ = some (.int .i64 (nth cs J)) ∧ W.cell? ⟨w.heap.size + 1 + 1, 2, none⟩ = some v) (by rfl) (by kernel_rfl) (by kernel_rfl) (by ((try dsimp only); (refine part_keep mb cx' cy' (B := w.heap.size + 2) (by first | (have bz0 := Below.size (hb4); (try simp at bz0); have bz1 := Below.size (g3); (try simp at bz1); (repeat' (first | with_reducible exact Below.refl _ _ | with_reducible assumption | (with_reducible refine Below.setCell ?_ ?_ _) | (with_reducible refine Below.alloc ?_ ?_ _) | (with_reducible refine Below.drew ?_) | (with_reducible refine below_drewN ?_ _) | (with_reducible refine Below.trans ?_ (Below.mono (hb4) ?_)) | (with_reducible refine Below.trans ?_ (Below.mono (g3) ?_)))); all_goals (first | omega | (simp; done) | (simp; omega) | (simp [*]; done) | (simp at *; omega))) | (have bz0 := Below.size (g3); (try simp at bz0); (repeat' (first | with_reducible exact Below.refl _ _ | with_reducible assumption | (with_reducible refine Below.setCell ?_ ?_ _) | (with_reducible refine Below.alloc ?_ ?_ _) | (with_reducible refine Below.drew ?_) | (with_reducible refine below_drewN ?_ _) | (with_reducible refine Below.trans ?_ (Below.mono (g3) ?_)))); all_goals (first | omega | (simp; done) | (simp; omega) | (simp [*]; done) | (simp at *; omega))) | ((repeat' (first | with_reducible exact Below.refl _ _ | with_reducible assumption | (with_reducible refine Below.setCell ?_ ?_ _) | (with_reducible refine Below.alloc ?_ ?_ _) | (with_reducible refine Below.drew ?_) | (with_reducible refine below_drewN ?_ _))); all_goals (first | omega | (simp; done) | (simp; omega) | (simp [*]; done) | (simp at *; omega)))) (by omega) (by omega) (by omega) (by first | exact mo.c2 | exact (mo.alloc _).c2 | exact (mo.grows (by ((repeat' (first | with_reducible exact Below.refl _ _ | with_reducible assumption | (with_reducible refine Below.setCell ?_ ?_ _) | (with_reducible refine Below.alloc ?_ ?_ _) | (with_reducible refine Below.drew ?_) | (with_reducible refine below_drewN ?_ _))); all_goals (first | omega | (simp; done) | (simp; omega) | (simp [*]; done) | (simp at *; omega))))).c2)))) (fun hHeld => ?_); simp only [List.take_succ_cons, List.take_zero]; refine heldL_take (i := 0) (v := _) (by rfl) (by kernel_rfl) (by kernel_rfl) (by kernel_rfl) (fun _ _ _ h => h) (Or.inl ⟨by rfl, fun wS hSw => by ((try dsimp only at hSw); go_simp; (try with_reducible rfl))⟩) (by assumption) ?_; simp only [Act.put, List.setIfInBounds_toArray, List.set_cons_zero, List.set_cons_succ]; refine heldL_take (i := 1) (v := _) (by rfl) (by kernel_rfl) (by kernel_rfl) (by kernel_rfl) (fun _ _ _ h => h) (Or.inl ⟨by rfl, fun wS hSw => by ((try dsimp only at hSw); go_simp; (try with_reducible rfl))⟩) (by assumption) ?_; simp only [Act.put, List.setIfInBounds_toArray, List.set_cons_zero, List.set_cons_succ]; refine heldL_take (i := 2) (v := _) (by rfl) (by kernel_rfl) (by kernel_rfl) (by kernel_rfl) (fun _ _ _ h => h) (Or.inl ⟨by rfl, fun wS hSw => by ((try dsimp only at hSw); go_simp; (try with_reducible rfl))⟩) (by assumption) ?_; simp only [Act.put, List.setIfInBounds_toArray, List.set_cons_zero, List.set_cons_succ]; refine heldL_take (i := 3) (v := _) (by rfl) (by kernel_rfl) (by kernel_rfl) (by kernel_rfl) (fun _ _ _ h => h) (Or.inl ⟨by rfl, fun wS hSw => by ((try dsimp only at hSw); go_simp; (try with_reducible rfl))⟩) (by assumption) ?_; simp only [Act.put, List.setIfInBounds_toArray, List.set_cons_zero, List.set_cons_succ]; refine heldL_take (i := 4) (v := _) (by rfl) (by kernel_rfl) (by kernel_rfl) (by kernel_rfl) (fun _ _ _ h => h) (Or.inl ⟨by rfl, fun wS hSw => by ((try dsimp only at hSw); go_simp; (try with_reducible rfl))⟩) (by assumption) ?_; simp only [Act.put, List.setIfInBounds_toArray, List.set_cons_zero, List.set_cons_succ]; refine heldL_take (i := 5) (v := _) (by rfl) (by kernel_rfl) (by kernel_rfl) (by kernel_rfl) (fun _ _ _ h => h) (Or.inl ⟨by rfl, fun wS hSw => by ((try dsimp only at hSw); go_simp; (try with_reducible rfl))⟩) (by assumption) ?_; simp only [Act.put, List.setIfInBounds_toArray, List.set_cons_zero, List.set_cons_succ]; refine heldL_take (i := 6) (v := _) (by rfl) (by kernel_rfl) (by kernel_rfl) (by kernel_rfl) (fun _ _ _ h => h) (Or.inl ⟨by rfl, fun wS hSw => by ((try dsimp only at hSw); go_simp; (try with_reducible rfl))⟩) (by assumption) ?_; simp only [Act.put, List.setIfInBounds_toArray, List.set_cons_zero, List.set_cons_succ]; refine heldL_take (i := 7) (v := _) (by rfl) (by kernel_rfl) (by kernel_rfl) (by kernel_rfl) (fun _ _ _ h => h) (Or.inl ⟨by rfl, fun wS hSw => by ((try dsimp only at hSw); go_simp; (try with_reducible rfl))⟩) (by assumption) ?_; simp only [Act.put, List.setIfInBounds_toArray, List.set_cons_zero, List.set_cons_succ]; refine heldL_take (i := 8) (v := _) (by rfl) (by kernel_rfl) (by kernel_rfl) (by kernel_rfl) (fun _ _ _ h => h) (Or.inl ⟨by rfl, fun wS hSw => by ((try dsimp only at hSw); go_simp; (try with_reducible rfl))⟩) (by assumption) ?_; simp only [Act.put, List.setIfInBounds_toArray, List.set_cons_zero, List.set_cons_succ]; refine heldL_take (i := 9) (v := _) (by rfl) (by kernel_rfl) (by kernel_rfl) (by kernel_rfl) (fun _ _ _ h => h) (Or.inl ⟨by rfl, fun wS hSw => by ((try dsimp only at hSw); go_simp; (try with_reducible rfl))⟩) (by assumption) ?_; simp only [Act.put, List.setIfInBounds_toArray, List.set_cons_zero, List.set_cons_succ]; refine heldL_take (i := 10) (v := _) (by rfl) (by kernel_rfl) (by kernel_rfl) (by kernel_rfl) (fun _ _ _ h => h) (Or.inl ⟨by rfl, fun wS hSw => by ((try dsimp only at hSw); go_simp; (try with_reducible rfl))⟩) (by assumption) ?_; simp only [Act.put, List.setIfInBounds_toArray, List.set_cons_zero, List.set_cons_succ]; refine heldL_step (i := 11) (by kernel_rfl) (by rfl) (fun K hK => ?_); go_simp; (go_at_call 74; refine (C1'.out _ (by exact (Rd.grows hd (by ((repeat' (first | with_reducible exact Below.refl _ _ | with_reducible assumption | (with_reducible refine Below.setCell ?_ ?_ _) | (with_reducible refine Below.alloc ?_ ?_ _) | (with_reducible refine Below.drew ?_) | (with_reducible refine below_drewN ?_ _))); all_goals (first | omega | (simp; done) | (simp; omega) | (simp [*]; done) | (simp at *; omega))))))).mono ?_; rintro e w3 ⟨rfl, g3⟩; have ho3 := ho.grows (w' := w3) (by (have bz0 := Below.size (g3); (try simp at bz0); (repeat' (first | with_reducible exact Below.refl _ _ | with_reducible assumption | (with_reducible refine Below.setCell ?_ ?_ _) | (with_reducible refine Below.alloc ?_ ?_ _) | (with_reducible refine Below.drew ?_) | (with_reducible refine below_drewN ?_ _) | (with_reducible refine Below.trans ?_ (Below.mono (g3) ?_)))); all_goals (first | omega | (simp; done) | (simp; omega) | (simp [*]; done) | (simp at *; omega)))); replace mo := mo.grows (w' := w3) (by (have bz0 := Below.size (g3); (try simp at bz0); (repeat' (first | with_reducible exact Below.refl _ _ | with_reducible assumption | (with_reducible refine Below.setCell ?_ ?_ _) | (with_reducible refine Below.alloc ?_ ?_ _) | (with_reducible refine Below.drew ?_) | (with_reducible refine below_drewN ?_ _) | (with_reducible refine Below.trans ?_ (Below.mono (g3) ?_)))); all_goals (first | omega | (simp; done) | (simp; omega) | (simp [*]; done) | (simp at *; omega)))); clear y0 y1 y2; obtain ⟨y0, y1, y2⟩ := mo.cells; have hz3 : w.heap.size + 1 + 1 < w3.heap.size := mo.lt) ; (try (go_wp2_with fail)); refine hK.out _ _ (by ((try dsimp only); (refine part_keep mb cx' cy' (B := w.heap.size + 2) (by first | (have bz0 := Below.size (hb4); (try simp at bz0); have bz1 := Below.size (g3); (try simp at bz1); (repeat' (first | with_reducible exact Below.refl _ _ | with_reducible assumption | (with_reducible refine Below.setCell ?_ ?_ _) | (with_reducible refine Below.alloc ?_ ?_ _) | (with_reducible refine Below.drew ?_) | (with_reducible refine below_drewN ?_ _) | (with_reducible refine Below.trans ?_ (Below.mono (hb4) ?_)) | (with_reducible refine Below.trans ?_ (Below.mono (g3) ?_)))); all_goals (first | omega | (simp; done) | (simp; omega) | (simp [*]; done) | (simp at *; omega))) | (have bz0 := Below.size (g3); (try simp at bz0); (repeat' (first | with_reducible exact Below.refl _ _ | with_reducible assumption | (with_reducible refine Below.setCell ?_ ?_ _) | (with_reducible refine Below.alloc ?_ ?_ _) | (with_reducible refine Below.drew ?_) | (with_reducible refine below_drewN ?_ _) | (with_reducible refine Below.trans ?_ (Below.mono (g3) ?_)))); all_goals (first | omega | (simp; done) | (simp; omega) | (simp [*]; done) | (simp at *; omega))) | ((repeat' (first | with_reducible exact Below.refl _ _ | with_reducible assumption | (with_reducible refine Below.setCell ?_ ?_ _) | (with_reducible refine Below.alloc ?_ ?_ _) | (with_reducible refine Below.drew ?_) | (with_reducible refine below_drewN ?_ _))); all_goals (first | omega | (simp; done) | (simp; omega) | (simp [*]; done) | (simp at *; omega)))) (by omega) (by omega) (by omega) (by first | exact mo.c2 | exact (mo.alloc _).c2 | exact (mo.grows (by ((repeat' (first | with_reducible exact Below.refl _ _ | with_reducible assumption | (with_reducible refine Below.setCell ?_ ?_ _) | (with_reducible refine Below.alloc ?_ ?_ _) | (with_reducible refine Below.drew ?_) | (with_reducible refine below_drewN ?_ _))); all_goals (first | omega | (simp; done) | (simp; omega) | (simp [*]; done) | (simp at *; omega))))).c2)))) (fun hHeld => ?_); clear hK K; (try simp only [Act.put, List.setIfInBounds_toArray, List.set_cons_zero, List.set_cons_succ]); refine heldL_step (i := 12) (by kernel_rfl) (by rfl) (fun K hK => ?_); go_simp; refine hK.out _ _ (by ((try dsimp only); (refine part_keep mb cx' cy' (B := w.heap.size + 2) (by first | (have bz0 := Below.size (hb4); (try simp at bz0); have bz1 := Below.size (g3); (try simp at bz1); (repeat' (first | with_reducible exact Below.refl _ _ | with_reducible assumption | (with_reducible refine Below.setCell ?_ ?_ _) | (with_reducible refine Below.alloc ?_ ?_ _) | (with_reducible refine Below.drew ?_) | (with_reducible refine below_drewN ?_ _) | (with_reducible refine Below.trans ?_ (Below.mono (hb4) ?_)) | (with_reducible refine Below.trans ?_ (Below.mono (g3) ?_)))); all_goals (first | omega | (simp; done) | (simp; omega) | (simp [*]; done) | (simp at *; omega))) | (have bz0 := Below.size (g3); (try simp at bz0); (repeat' (first | with_reducible exact Below.refl _ _ | with_reducible assumption | (with_reducible refine Below.setCell ?_ ?_ _) | (with_reducible refine Below.alloc ?_ ?_ _) | (with_reducible refine Below.drew ?_) | (with_reducible refine below_drewN ?_ _) | (with_reducible refine Below.trans ?_ (Below.mono (g3) ?_)))); all_goals (first | omega | (simp; done) | (simp; omega) | (simp [*]; done) | (simp at *; omega))) | ((repeat' (first | with_reducible exact Below.refl _ _ | with_reducible assumption | (with_reducible refine Below.setCell ?_ ?_ _) | (with_reducible refine Below.alloc ?_ ?_ _) | (with_reducible refine Below.drew ?_) | (with_reducible refine below_drewN ?_ _))); all_goals (first | omega | (simp; done) | (simp; omega) | (simp [*]; done) | (simp at *; omega)))) (by omega) (by omega) (by omega) (by first | exact mo.c2 | exact (mo.alloc _).c2 | exact (mo.grows (by ((repeat' (first | with_reducible exact Below.refl _ _ | with_reducible assumption | (with_reducible refine Below.setCell ?_ ?_ _) | (with_reducible refine Below.alloc ?_ ?_ _) | (with_reducible refine Below.drew ?_) | (with_reducible refine below_drewN ?_ _))); all_goals (first | omega | (simp; done) | (simp; omega) | (simp [*]; done) | (simp at *; omega))))).c2)))) (fun hHeld => ?_); clear hK K; (try simp only [Act.put, List.setIfInBounds_toArray, List.set_cons_zero, List.set_cons_succ]); refine heldL_step (i := 13) (by kernel_rfl) (by rfl) (fun K hK => ?_); (refine step_app1 rfl (.tmp 28) (.tmp 39) rfl w3 _ (w.heap.size + 2) v (prt C l rs cs (I * q + J)) (by rfl) ho3 (by rfl) hcl (by omega) ?_; intro v' w4 ho4 hg4 hv4; have hb4 : Below (w.heap.size + 2) w3 w4 := below_app ho3 (by omega) hg4; obtain ⟨A4, c4, rfl, _, _⟩ := ho4.val; replace mo := mo.own hg4 hv; clear y0 y1 y2; obtain ⟨y0, y1, y2⟩ := mo.cells; have yf := mo.fz) ; refine hK.out _ _ (by ((try dsimp only); (refine part_keep mb cx' cy' (B := w.heap.size + 2) (by first | (have bz0 := Below.size (hb4); (try simp at bz0); have bz1 := Below.size (g3); (try simp at bz1); (repeat' (first | with_reducible exact Below.refl _ _ | with_reducible assumption | (with_reducible refine Below.setCell ?_ ?_ _) | (with_reducible refine Below.alloc ?_ ?_ _) | (with_reducible refine Below.drew ?_) | (with_reducible refine below_drewN ?_ _) | (with_reducible refine Below.trans ?_ (Below.mono (hb4) ?_)) | (with_reducible refine Below.trans ?_ (Below.mono (g3) ?_)))); all_goals (first | omega | (simp; done) | (simp; omega) | (simp [*]; done) | (simp at *; omega))) | (have bz0 := Below.size (g3); (try simp at bz0); (repeat' (first | with_reducible exact Below.refl _ _ | with_reducible assumption | (with_reducible refine Below.setCell ?_ ?_ _) | (with_reducible refine Below.alloc ?_ ?_ _) | (with_reducible refine Below.drew ?_) | (with_reducible refine below_drewN ?_ _) | (with_reducible refine Below.trans ?_ (Below.mono (g3) ?_)))); all_goals (first | omega | (simp; done) | (simp; omega) | (simp [*]; done) | (simp at *; omega))) | ((repeat' (first | with_reducible exact Below.refl _ _ | with_reducible assumption | (with_reducible refine Below.setCell ?_ ?_ _) | (with_reducible refine Below.alloc ?_ ?_ _) | (with_reducible refine Below.drew ?_) | (with_reducible refine below_drewN ?_ _))); all_goals (first | omega | (simp; done) | (simp; omega) | (simp [*]; done) | (simp at *; omega)))) (by omega) (by omega) (by omega) (by first | exact mo.c2 | exact (mo.alloc _).c2 | exact (mo.grows (by ((repeat' (first | with_reducible exact Below.refl _ _ | with_reducible assumption | (with_reducible refine Below.setCell ?_ ?_ _) | (with_reducible refine Below.alloc ?_ ?_ _) | (with_reducible refine Below.drew ?_) | (with_reducible refine below_drewN ?_ _))); all_goals (first | omega | (simp; done) | (simp; omega) | (simp [*]; done) | (simp at *; omega))))).c2)))) (fun hHeld => ?_); clear hK K; (try simp only [Act.put, List.setIfInBounds_toArray, List.set_cons_zero, List.set_cons_succ]); refine heldL_take (i := 14) (v := _) (by rfl) (by kernel_rfl) (by kernel_rfl) (by kernel_rfl) (fun _ _ _ h => h) (Or.inl ⟨by rfl, fun wS hSw => by ((try dsimp only at hSw); go_simp; (try with_reducible rfl))⟩) (by assumption) ?_; simp only [Act.put, List.setIfInBounds_toArray, List.set_cons_zero, List.set_cons_succ]; refine wpAnyH_done (by kernel_rfl) ?_ _; refine lastQ_go ?_)
          all_goals
            go_wp2_with fail
            go_round
            case rel =>
              have hne4 : ∀ g, (Value.slice A4 (prt C l rs cs (I * q + J) ++ [z]).length c4).ownBlock = some g → g ≠ w.heap.size + 1 + 1 := by
                intro g hg'
                rcases hv4 with h | ⟨g', h, h'⟩
                · exact hv g (by rw [← h]; exact hg')
                · rw [h] at hg'; cases hg'; omega
              have ho5 := ho4.far (p := ⟨w.heap.size + 1 + 1, 2, none⟩) hne4 (.slice A4 (prt C l rs cs (I * q + J) ++ [z]).length c4)
              have hs1 := HS1.out
              rw [← HC.out] at ho5 hne4
              exact ⟨J + 1, _, by go_num, by omega, by (have bz0 := Below.size (hb4); (try simp at bz0); have bz1 := Below.size (g3); (try simp at bz1); have bz2 := Below.size (hg); (try simp at bz2); (repeat' (first | with_reducible exact Below.refl _ _ | with_reducible assumption | (with_reducible refine Below.setCell ?_ ?_ _) | (with_reducible refine Below.alloc ?_ ?_ _) | (with_reducible refine Below.drew ?_) | (with_reducible refine below_drewN ?_ _) | (with_reducible refine Below.trans ?_ (Below.mono (hb4) ?_)) | (with_reducible refine Below.trans ?_ (Below.mono (g3) ?_)) | (with_reducible refine Below.trans ?_ (Below.mono (hg) ?_)))); all_goals (first | omega | (simp; done) | (simp; omega) | (simp [*]; done) | (simp at *; omega))), by simpa using mo.put2 _, by simpa [HC.out] using ho5, by simpa [HC.out] using hne4⟩
            case measure => simp [intOf]; omega
        · obtain rfl : J = q := by omega
          go_wp2_with fail
          go_round
          case rel => exact ⟨I + 1, v, by go_num, by omega, hg, mo, by rw [Nat.add_mul, Nat.one_mul]; exact ho, hv⟩
          case measure => simp [intOf]; omega
    · obtain rfl : I = p := by omega
      have mr := mr1.grows hg
      obtain ⟨c0, c1, c2⟩ := mo.cells
      obtain ⟨d0, d1, d2⟩ := mr.cells
      have df := mr.fz
      have dl := mr.lt
      obtain ⟨A4, c4, rfl, _, _⟩ := ho.val
      go_wp2_with fail
      refine bodyPost_ret (v := .agg #[.int .i64 I, .int .i64 q, .slice A4 (prt C l rs cs (I * q)).length c4]) ?_ rfl ?_
      · simp [results, Try.results150, go_sem, d0, d1, d2, df]
      · have hs1 := HS1.out
        exact ⟨_, rfl, by (refine Own.less (B := ?OB) ?_ ?_; (repeat' (first | with_reducible exact ho | with_reducible refine Own.alloc ?_ _ | with_reducible refine Own.drew ?_ | with_reducible refine Own.low ?_ ?_ _)); all_goals (first | omega | (simp; done) | (simp; omega) | (simp [*]; done) | (simp at *; omega))), by (have bz0 := Below.size (hg); (try simp at bz0); have bz1 := Below.size (hg01); (try simp at bz1); (repeat' (first | with_reducible exact Below.refl _ _ | with_reducible assumption | (with_reducible refine Below.setCell ?_ ?_ _) | (with_reducible refine Below.alloc ?_ ?_ _) | (with_reducible refine Below.drew ?_) | (with_reducible refine below_drewN ?_ _) | (with_reducible refine Below.trans ?_ (Below.mono (hg) ?_)) | (with_reducible refine Below.trans ?_ (Below.mono (hg01) ?_)))); all_goals (first | omega | (simp; done) | (simp; omega) | (simp [*]; done) | (simp at *; omega)))⟩
end
end Go.Proofs.Ytpfijhcjempfjaa
