/- Contracts and lemmas, put together. -/
import Derived.Test.YtfilbjbogggaoaaGreatPkB
import Derived.Test.YtfilbjbogggaoaaGreatPkC
import Derived.Test.YtfilbjbogggaoaaGreatPkDr
import Derived.Test.YtfilbjbogggaoaaGreatPkT
/- The draws: any matrix; a form and a vector. -/
namespace Go.Proofs.YtfilbjbogggaoaaGreat
set_option linter.unusedSimpArgs false
set_option linter.unusedVariables false
open Go.RowKit

/-- a matrix drawn from a code -/
def DMatC (m : Nat) (w : World) (e : Ending) (w' : World) : Prop := ∃ (r c : Int) (V : Option Addr) (cv : Nat) (l : List Int), e = .returned (.agg #[.int .i64 r, .int .i64 c, .slice V l.length cv]) ∧ (-1 ≤ r ∧ r ≤ 8) ∧ l.length ≤ m ∧ Own w' w.heap.size (.slice V l.length cv) l ∧ Grows w w'
/-- a matrix and a vector of as many cells as it has rows, drawn from a code -/
def DMatV (w : World) (e : Ending) (w' : World) : Prop := ∃ (r c : Int) (V : Option Addr) (cv : Nat) (l : List Int) (V2 : Option Addr) (cv2 : Nat) (l2 : List Int), e = .returned (.tuple #[.agg #[.int .i64 r, .int .i64 c, .slice V l.length cv], .slice V2 l2.length cv2]) ∧ (-1 ≤ r ∧ r ≤ 8) ∧ l.length ≤ 10 ∧ l2.length = r.toNat ∧ Own w' w.heap.size (.slice V l.length cv) l ∧ Own w' w.heap.size (.slice V2 l2.length cv2) l2 ∧ Grows w w'
section
set_option maxHeartbeats 4000000
set_option maxRecDepth 10000
end
end Go.Proofs.YtfilbjbogggaoaaGreat

/- The draw of a basis. -/
namespace Go.Proofs.YtfilbjbogggaoaaGreat
set_option linter.unusedSimpArgs false
set_option linter.unusedVariables false
open Go.RowKit
section
set_option maxHeartbeats 4000000
set_option maxRecDepth 10000
theorem drawRbs_c (A : Option Addr) (n cap : Nat) (w : World) (hr : CodeR w w.heap.size A n) (hn : n ≤ 1048576) :
    Calls Tryz.prog 26 #[.slice A n cap] w (DMatC 10 w) := by
  obtain ⟨w1, hw1⟩ : ∃ w1, w1 = w.alloc (.cells #[.int .i64 0, .int .i64 0, .slice none 0 0] 26) := ⟨_, rfl⟩
  have mbr : MBox w1 w.heap.size 0 0 (.slice none 0 0) := by rw [hw1]; exact MBox.mk_ _ _ _ _ _
  have g01 : Grows w w1 := by rw [hw1]; exact bel0
  have hs1 : w1.heap.size = w.heap.size + 1 := by rw [hw1]; simp
  have CN := Lib.hid (l1New_c w.heap.size A n cap w1 (by omega) (hr.keep g01) hn)
  have C3 := Lib.hid fun b W h => l1Below_c w.heap.size b A n cap 3 W (by omega) h
  have CBS := Lib.hid fun b R W h1 h2 h => l18Basis_c w.heap.size b A n cap R W h1 h2 h
  have HW1 := Lib.hid hw1
  have HS1 := Lib.hid hs1
  clear hw1 hs1
  go_enter Tryz.func26, Tryz.ntmps26
  go_wp2_with fail
  rw [← HW1.out]
  refine CN.out.mono ?_; rintro e w2 ⟨b, rfl, c2, g2⟩
  have hb : w.heap.size ≠ b := by
    intro e
    obtain ⟨i, h, _, c⟩ := c2
    have h1 := c.c0
    rw [← e, (mbr.grows g2).c0] at h1
    cases h1
  have hbl := c2.lt
  have mbr2 := mbr.grows g2
  clear mbr
  go_wp2_with fail
  refine (C3.out b _ c2).mono ?_; rintro e w3 ⟨x0, rfl, hx0, c3, g3⟩
  obtain ⟨R, hR⟩ : ∃ R : Nat, 1 + (x0 : Int) = (R : Int) := ⟨1 + x0, by omega⟩
  have HRx := Lib.hid hR
  have hR3 : R ≤ 3 := by omega
  have hR1 : 1 ≤ R := by omega
  have hx3 : (x0 : Int) ≤ 2 := by omega
  have hRR : R * R ≤ 9 := Nat.mul_le_mul hR3 hR3
  have mbr3 := mbr2.by_ g3 hb
  have hs2 := Below.size g2
  have hs3 := g3.size
  clear hR hx0 mbr2
  go_wp2_with fail
  rw [HRx.out]
  refine (CBS.out b R _ hR3 hR1 c3).mono ?_; rintro e w4 ⟨V4, cv4, l4, rfl, hl4, hb4, o4, c4, g4⟩
  have hs4 := g4.size
  have mbr4 := mbr3.by_ g4 hb
  have hv4 := fun g e => World.ownsRow.lt o4 g e
  have hs1 := HS1.out
  have CSP := Lib.hid (l3Spoil_c w.heap.size b A n cap w3.heap.size R R V4 (R * R) cv4 l4 w4 c4 o4 hl4 (by omega) (by omega) (fun g e => by have := hv4 g e; omega) (by omega) (by omega))
  have G4 : Grows w w4 := Below.trans g01 (Below.trans (Below.mono g2 (by omega)) (Below.trans (c2.below g3) (c3.below g4)))
  clear mbr3 hs1
  go_wp2_with fail
  refine CSP.out.mono ?_; rintro e w5 ⟨r, c, V, cv, l, rfl, hrb, hl, o5, c5, mv5, _⟩
  have mbr5 := mbr4.mv mv5 (fun h => by
    have := HS1.out
    rcases h with h | h
    · exact hb h
    · have := hv4 _ h; omega)
  have G : Grows w w5 := Below.trans G4 (mv5.below (by have := HS1.out; omega) (fun g h => by
    have := HS1.out
    rcases h with h | h
    · have := c4.lo; omega
    · have := hv4 _ h; omega))
  have hvl := fun g e => World.ownsRow.lt o5 g e
  have hlt2 : w.heap.size < w3.heap.size := by have := HS1.out; omega
  have hll : l.length ≤ 10 := by omega
  clear mv5 g4 g3 c2 c3 c4 g2 g01 mbr4 G4 CSP
  obtain ⟨d0, d1, d2⟩ := mbr5.cells
  have df := mbr5.fz
  have dl := mbr5.lt
  go_wp2_with fail
  refine bodyPost_ret (v := .agg #[.int .i64 r, .int .i64 c, .slice V l.length cv]) ?_ rfl ?_
  · simp [results, Tryz.results26, go_sem, d0, d1, d2, df, dl]
  · refine ⟨r, c, V, cv, l, rfl, hrb, hll, ?_, by exact bel1 G⟩
    refine Own.less (B := w3.heap.size) ?_ (by omega)
    ((repeat' (first | with_reducible exact o5 | with_reducible refine Own.far ?_ ?_ _)); all_goals (intro g hg; have := hvl g hg; (try simp only); omega))
end
end Go.Proofs.YtfilbjbogggaoaaGreat

/- Plain: what comes from the unit matrix by adding and exchanging rows is unimodular, its determinant is 1 or -1. -/
namespace Go.Proofs.YtfilbjbogggaoaaGreat
set_option linter.unusedSimpArgs false
set_option linter.unusedVariables false

structure UmD (R : Nat) (u : List Int) : Prop where
  det : dets R (fnOf R u) = 1 ∨ dets R (fnOf R u) = -1
  her : HerD R R (fun i j => if i = j then 1 else 0) (mt R u) (mt R u)
theorem dets_one (n : Nat) : dets n (fun i j => if i = j then 1 else 0) = 1 := by
  induction n with
  | zero => rfl
  | succ n ih =>
    have e := dets_corner n (fun i j => if i = j then (1 : Int) else 0) fun a => if_neg (by omega)
    rw [e, if_pos rfl, Int.one_mul]
    refine Eq.trans ?_ ih
    exact dets_congr fun i j _ _ => by
      by_cases h : i = j
      · rw [if_pos h, if_pos (by omega)]
      · rw [if_neg h, if_neg (by omega)]
theorem UmD.one (R : Nat) : UmD R (idL R) := by
  refine ⟨.inl ?_, (HerD.one R R _).congr (fun i j hi hj => idL_cell hi hj) fun i j hi hj => idL_cell hi hj⟩
  rw [← dets_one R]
  exact dets_congr fun i j hi hj => idL_cell hi hj
theorem UmD.add {R i j : Nat} {t : Int} {u : List Int} (h : UmD R u) (hi : i < R) (hj : j < R) (hij : i ≠ j) (hn : allNum (addT R R i j t u) = true) : UmD R (addT R R i j t u) := by
  have cell : ∀ a b, a < R → b < R → nth (addT R R i j t u) (a * R + b) = if a = i then nth u (a * R + b) + nth u (j * R + b) * t else nth u (a * R + b) := fun a b ha hb => by
    by_cases e : a = i
    · subst e; rw [if_pos rfl]; exact addT_same ha hb hn
    · rw [if_neg e]; exact addT_other ha hb e
  refine ⟨?_, h.her.add hj hij t cell cell⟩
  have e : dets R (fnOf R (addT R R i j t u)) = dets R (fnOf R u) := by
    have := dets_row R (fnOf R u) i j hi hj hij 1 t
    rw [Int.one_mul] at this
    rw [← this]
    refine dets_congr fun a b ha hb => ?_
    unfold setR fnOf
    rw [cell a b ha hb]
    by_cases e : a = i
    · rw [if_pos e, if_pos e, e]
      show _ = 1 * nth u (i * R + b) + t * nth u (j * R + b)
      rw [Int.one_mul, Int.mul_comm t]
    · rw [if_neg e, if_neg e]
  rw [e]
  exact h.det
theorem UmD.swp {R k : Nat} {u : List Int} (h : UmD R u) (h1 : 1 ≤ k) (hk : k < R) : UmD R (swpT R R k (k - 1) u) := by
  have cell : ∀ a b, a < R → b < R → nth (swpT R R k (k - 1) u) (a * R + b) = nth u (sw k (k - 1) a * R + b) := fun a b ha hb => by
    rw [swpT_cell ha hb]
    unfold sw
    split
    · rfl
    · split <;> rfl
  refine ⟨?_, h.her.swp hk (by omega) cell cell⟩
  obtain ⟨i, rfl⟩ : ∃ i, k = i + 1 := ⟨k - 1, by omega⟩
  simp only [Nat.add_sub_cancel] at cell ⊢
  have e : dets R (fnOf R u) = - dets R (fnOf R (swpT R R (i + 1) i u)) := by
    have := dets_swap R (fnOf R u) i hk (fnOf R u i) (fnOf R u (i + 1))
    rw [setR_self, setR_self] at this
    rw [this]
    congr 1
    refine dets_congr fun a b ha hb => ?_
    unfold setR
    show _ = nth (swpT R R (i + 1) i u) (a * R + b)
    rw [cell a b ha hb]
    unfold sw
    by_cases e1 : a = i + 1
    · rw [if_pos e1, if_pos e1]; rfl
    · rw [if_neg e1, if_neg e1]
      by_cases e2 : a = i
      · rw [if_pos e2, if_pos e2]; rfl
      · rw [if_neg e2, if_neg e2]; rfl
  rcases h.det with d | d
  · right; omega
  · left; omega
end Go.Proofs.YtfilbjbogggaoaaGreat

/- Contracts: the Gram matrix as a matrix. -/
namespace Go.Proofs.YtfilbjbogggaoaaGreat
set_option linter.unusedSimpArgs false
set_option linter.unusedVariables false
open Go.RowKit

def gmO (b : MX) : Option MX := if gmOk b.r b.c b.l then some ⟨b.r, b.r, gmL b.r.toNat b.c.toNat b.l⟩ else none
theorem gmO_eq (b : MX) : (oM (gmO b)).r = gmR b.r b.c b.l ∧ (oM (gmO b)).c = gmR b.r b.c b.l ∧ (oM (gmO b)).l = gmV b.r b.c b.l ∧ (gmO b).isSome = gmOk b.r b.c b.l := by
  unfold gmO gmR gmV
  cases gmOk b.r b.c b.l <;> simp [oM, MX.nil]
theorem gmO_length (b : MX) : (oM (gmO b)).l.length ≤ 576 := by rw [(gmO_eq b).2.2.1]; exact gmV_length _ _ _
theorem iGm_m (r c : Int) (A : Option Addr) (l : List Int) (n cap : Nat) (w : World) (hn : l.length = n) (ha : Rd w A l) (hl : n ≤ 1099511627776) :
    Calls Tryz.prog 92 #[.agg #[.int .i64 r, .int .i64 c, .slice A n cap]] w (MatRet (gmO ⟨r, c, l⟩) w) := by
  obtain ⟨e1, e2, e3, e4⟩ := gmO_eq ⟨r, c, l⟩
  unfold MatRet MatR
  rw [e1, e2, e3, e4]
  exact iGramOf_c r c A l n cap w hn ha hl
theorem sGm_m (r c : Int) (A : Option Addr) (l : List Int) (n cap : Nat) (w : World) (hn : l.length = n) (ha : Rd w A l) (hl : n ≤ 1099511627776) :
    Calls Tryz.prog 93 #[.agg #[.int .i64 r, .int .i64 c, .slice A n cap]] w (MatRet (gmO ⟨r, c, l⟩) w) := by
  obtain ⟨e1, e2, e3, e4⟩ := gmO_eq ⟨r, c, l⟩
  unfold MatRet MatR
  rw [e1, e2, e3, e4]
  exact sGramOf_c r c A l n cap w hn ha hl
end Go.Proofs.YtfilbjbogggaoaaGreat

/- Plain: the cells of a product of matrices. -/
namespace Go.Proofs.YtfilbjbogggaoaaGreat
set_option linter.unusedSimpArgs false
set_option linter.unusedVariables false
open Go.RowKit

/-- the cells of a product -/
theorem mulO_cells {R K C : Nat} {a b : List Int} {p : MX} (h : mulO ⟨R, K, a⟩ ⟨K, C, b⟩ = some p) : p.r = R ∧ p.c = C ∧ p.l.length = R * C ∧ ∀ i j, i < R → j < C → nth p.l (i * C + j) = sumN K fun k => nth a (i * K + k) * nth b (k * C + j) := by
  have e := mulO_eq ⟨R, K, a⟩ ⟨K, C, b⟩
  rw [h] at e
  obtain ⟨e1, e2, e3, e4⟩ := e
  have hok : mulOk R K a K C b = true := e4.symm
  have e1' : p.r = mulR R K a K C b := e1
  have e2' : p.c = mulC R K a K C b := e2
  have e3' : p.l = mulV R K a K C b := e3
  unfold mulR at e1'; unfold mulC at e2'; unfold mulV at e3'
  rw [hok] at e1' e2' e3'
  simp only [if_true, Int.toNat_natCast] at e1' e2' e3'
  refine ⟨e1', e2', by rw [e3', mulL_length], fun i j hi hj => ?_⟩
  rw [e3']
  have t := tab_nth (R := R) (C := C) (i := i) (j := j) (fun i j => dotTo a b K C i j K) hi hj
  refine Eq.trans t ?_
  have : ∀ n, dotTo a b K C i j n = sumN n fun t => nth a (i * K + t) * nth b (t * C + j) := fun n => by
    induction n with
    | zero => rfl
    | succ n ih => rw [dotTo, sumN, ih]
  exact this K
end Go.Proofs.YtfilbjbogggaoaaGreat
