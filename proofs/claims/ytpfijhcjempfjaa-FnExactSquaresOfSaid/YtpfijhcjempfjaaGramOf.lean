/- Contracts: the Gram matrix of a matrix. -/
import Derived.Test.YtpfijhcjempfjaaMul2
import Derived.Test.YtpfijhcjempfjaaTurn
import Derived.Deep.RegionHeld3
namespace Go.Proofs.Ytpfijhcjempfjaa
open Go.RowKit

section
set_option maxHeartbeats 1000000
theorem isMat_tr {R C : Nat} {l : List Int} (h : isMat R C l = true) : isMat C R (trL R C l) = true := by
  obtain ⟨R', C', e1, e2, hR, hC, hl, hn⟩ := isMat_nat h
  obtain rfl : R = R' := by omega
  obtain rfl : C = C' := by omega
  rw [isMat_made hC hR (by unfold trL; rw [tab_length])]
  rw [allNum_iff]
  intro i hi
  unfold trL at hi ⊢
  rw [tab_length] at hi
  obtain ⟨h1, h2, h3⟩ := idx_split hi
  rw [h3, tab_nth _ h1 h2]
  exact hn _ (by rw [hl]; exact idx_lt h2 h1)

def gmL (R C : Nat) (l : List Int) : List Int := mulL R C R l (trL R C l)
def gmOk (r c : Int) (l : List Int) : Bool := isMat r c l && allNum (gmL r.toNat c.toNat l)
def gmR (r c : Int) (l : List Int) : Int := if gmOk r c l then r else 0
def gmV (r c : Int) (l : List Int) : List Int := if gmOk r c l then gmL r.toNat c.toNat l else []
theorem gmOk_no {r c : Int} {l : List Int} (h : isMat r c l = false) : gmOk r c l = false := by unfold gmOk; rw [h]; rfl
theorem gm_no {r c : Int} {l : List Int} (h : gmOk r c l = false) : gmR r c l = 0 ∧ gmV r c l = [] := by simp [gmR, gmV, h]
theorem gmV_length (r c : Int) (l : List Int) : (gmV r c l).length ≤ 576 := by
  unfold gmV
  split
  · rename_i h
    unfold gmOk at h
    rw [Bool.and_eq_true] at h
    obtain ⟨R, C, rfl, rfl, hR, hC, hl, hn⟩ := isMat_nat h.1
    rw [gmL, mulL_length]
    simp only [Int.toNat_natCast]
    have := Nat.mul_le_mul hR hR
    omega
  · simp
theorem gmOk_nat {R C : Nat} {l : List Int} (h : isMat R C l = true) : gmOk R C l = allNum (gmL R C l) := by
  unfold gmOk; rw [h]; simp

theorem iGramOf_c (r c : Int) (A : Option Addr) (l : List Int) (n cap : Nat) (w : World) (hn : l.length = n) (ha : Rd w A l) (hl : n ≤ 1099511627776) :
    Calls Try.prog 104 #[.agg #[.int .i64 r, .int .i64 c, .slice A n cap]] w fun e w' =>
      ∃ v, e = .returned (.tuple #[.agg #[.int .i64 (gmR r c l), .int .i64 (gmR r c l), v], .bool (gmOk r c l)]) ∧ Own w' w.heap.size v (gmV r c l) ∧ Grows w w' := by
  cases hm : isMat r c l
  · obtain ⟨e1, e2⟩ := gm_no (gmOk_no hm)
    rw [gmOk_no hm, e1, e2]
    have H1 := Lib.hid fun W h => iTransposeOf_no r c A l n cap W hn h hl hm
    clear hm hn e1 e2
    go_enter Try.func104, Try.ntmps104
    go_wp2_with fail
    refine (H1.out _ (by exact (Rd.grows ha (by ((repeat' (first | with_reducible exact Below.refl _ _ | with_reducible assumption | (with_reducible refine Below.setCell ?_ ?_ _) | (with_reducible refine Below.alloc ?_ ?_ _) | (with_reducible refine Below.drew ?_) | (with_reducible refine below_drewN ?_ _))); all_goals (first | omega | (simp; done) | (simp; omega) | (simp [*]; done) | (simp at *; omega))))))).mono ?_; rintro e w1 ⟨rfl, g1⟩
    have rb : MBox w1 (w.heap.size + 1) 0 0 (.slice none 0 0) := by have := (MBox.mk_ (w.alloc (.cells #[.int .i64 r, .int .i64 c, .slice A n cap] 26)) 0 0 (.slice none 0 0) 26).grows (w' := w1) (by (have bz0 := Below.size (g1); (try simp at bz0); (repeat' (first | with_reducible exact Below.refl _ _ | with_reducible assumption | (with_reducible refine Below.setCell ?_ ?_ _) | (with_reducible refine Below.alloc ?_ ?_ _) | (with_reducible refine Below.drew ?_) | (with_reducible refine below_drewN ?_ _) | (with_reducible refine Below.trans ?_ (Below.mono (g1) ?_)))); all_goals (first | omega | (simp; done) | (simp; omega) | (simp [*]; done) | (simp at *; omega)))); simpa using this
    obtain ⟨r0, r1, r2⟩ := rb.cells
    have rf := rb.fz
    have rl := rb.lt
    have rl' : w.heap.size + 1 < w1.heap.size := rl
    go_wp2_with fail
    refine bodyPost_ret (v := .tuple #[.agg #[.int .i64 0, .int .i64 0, .slice none 0 0], .bool false]) ?_ rfl ?_
    · simp [results, Try.results104, go_sem, r0, r1, r2, rl']
    · exact ⟨_, rfl, Own.nil _ _, by (have bz0 := Below.size (g1); (try simp at bz0); (repeat' (first | with_reducible exact Below.refl _ _ | with_reducible assumption | (with_reducible refine Below.setCell ?_ ?_ _) | (with_reducible refine Below.alloc ?_ ?_ _) | (with_reducible refine Below.drew ?_) | (with_reducible refine below_drewN ?_ _) | (with_reducible refine Below.trans ?_ (Below.mono (g1) ?_)))); all_goals (first | omega | (simp; done) | (simp; omega) | (simp [*]; done) | (simp at *; omega)))⟩
  · obtain ⟨R, C, rfl, rfl, hR, hC, hl2, hnum⟩ := isMat_nat hm
    have hmt := isMat_tr hm
    have hlt : (trL R C l).length = C * R := tab_length _ _ _
    have hCR : C * R ≤ 576 := Nat.mul_le_mul hC hR
    have H1 := Lib.hid fun W h => iTransposeOf_yes R C A l n cap W hn h hm
    have e0 : mulOk R C l C R (trL R C l) = gmOk R C l := by rw [mulOk_nat hm hmt, gmOk_nat hm]; rfl
    have e1 : mulR R C l C R (trL R C l) = gmR R C l := by unfold mulR gmR; rw [e0]
    have e2 : mulC R C l C R (trL R C l) = gmR R C l := by unfold mulC gmR; rw [e0]
    have e3 : mulV R C l C R (trL R C l) = gmV R C l := by unfold mulV gmV; rw [e0]; simp only [Int.toNat_natCast]; rfl
    have H2 := fun W B cb h h' => iMul_c R C C R A B l (trL R C l) n (C * R) cap cb W hn hlt h h' hl (by omega)
    rw [e0, e1, e2, e3] at H2
    have H2' := Lib.hid H2
    have H2L := Lib.hid hlt
    clear H2 e0 e1 e2 e3 hmt hm hn hl2 hnum hlt
    generalize trL R C l = tl at *
    generalize gmR R C l = gr at *
    generalize gmV R C l = gv at *
    generalize gmOk R C l = go at *
    go_enter Try.func104, Try.ntmps104
    go_wp2_with fail
    refine (H1.out _ (by exact (Rd.grows ha (by ((repeat' (first | with_reducible exact Below.refl _ _ | with_reducible assumption | (with_reducible refine Below.setCell ?_ ?_ _) | (with_reducible refine Below.alloc ?_ ?_ _) | (with_reducible refine Below.drew ?_) | (with_reducible refine below_drewN ?_ _))); all_goals (first | omega | (simp; done) | (simp; omega) | (simp [*]; done) | (simp at *; omega))))))).mono ?_; rintro e w1 ⟨v, rfl, ho, g1⟩
    obtain ⟨A1, c1, rfl, hr1, _⟩ := ho.val
    rw [H2L.out]
    have mb : MBox w1 w.heap.size R C (.slice A n cap) := (MBox.mk_ w R C (.slice A n cap) 26).grows (by (have bz0 := Below.size (g1); (try simp at bz0); (repeat' (first | with_reducible exact Below.refl _ _ | with_reducible assumption | (with_reducible refine Below.setCell ?_ ?_ _) | (with_reducible refine Below.alloc ?_ ?_ _) | (with_reducible refine Below.drew ?_) | (with_reducible refine below_drewN ?_ _) | (with_reducible refine Below.trans ?_ (Below.mono (g1) ?_)))); all_goals (first | omega | (simp; done) | (simp; omega) | (simp [*]; done) | (simp at *; omega))))
    have rb : MBox w1 (w.heap.size + 1) 0 0 (.slice none 0 0) := by have := (MBox.mk_ (w.alloc (.cells #[.int .i64 R, .int .i64 C, .slice A n cap] 26)) 0 0 (.slice none 0 0) 26).grows (w' := w1) (by (have bz0 := Below.size (g1); (try simp at bz0); (repeat' (first | with_reducible exact Below.refl _ _ | with_reducible assumption | (with_reducible refine Below.setCell ?_ ?_ _) | (with_reducible refine Below.alloc ?_ ?_ _) | (with_reducible refine Below.drew ?_) | (with_reducible refine below_drewN ?_ _) | (with_reducible refine Below.trans ?_ (Below.mono (g1) ?_)))); all_goals (first | omega | (simp; done) | (simp; omega) | (simp [*]; done) | (simp at *; omega)))); simpa using this
    obtain ⟨b0, b1, b2⟩ := mb.cells
    have bl := mb.lt
    have ra : Rd w1 A l := (Rd.grows ha (by (have bz0 := Below.size (g1); (try simp at bz0); (repeat' (first | with_reducible exact Below.refl _ _ | with_reducible assumption | (with_reducible refine Below.setCell ?_ ?_ _) | (with_reducible refine Below.alloc ?_ ?_ _) | (with_reducible refine Below.drew ?_) | (with_reducible refine below_drewN ?_ _) | (with_reducible refine Below.trans ?_ (Below.mono (g1) ?_)))); all_goals (first | omega | (simp; done) | (simp; omega) | (simp [*]; done) | (simp at *; omega)))))
    have gw : Grows w w1 := by (have bz0 := Below.size (g1); (try simp at bz0); (repeat' (first | with_reducible exact Below.refl _ _ | with_reducible assumption | (with_reducible refine Below.setCell ?_ ?_ _) | (with_reducible refine Below.alloc ?_ ?_ _) | (with_reducible refine Below.drew ?_) | (with_reducible refine below_drewN ?_ _) | (with_reducible refine Below.trans ?_ (Below.mono (g1) ?_)))); all_goals (first | omega | (simp; done) | (simp; omega) | (simp [*]; done) | (simp at *; omega)))
    have z1 := Below.size g1; simp at z1
    go_wp2_with fail
    refine (H2'.out _ _ _ (by exact (Rd.grows ra (by ((repeat' (first | with_reducible exact Below.refl _ _ | with_reducible assumption | (with_reducible refine Below.setCell ?_ ?_ _) | (with_reducible refine Below.alloc ?_ ?_ _) | (with_reducible refine Below.drew ?_) | (with_reducible refine below_drewN ?_ _))); all_goals (first | omega | (simp; done) | (simp; omega) | (simp [*]; done) | (simp at *; omega)))))) (by exact (Rd.grows hr1 (by ((repeat' (first | with_reducible exact Below.refl _ _ | with_reducible assumption | (with_reducible refine Below.setCell ?_ ?_ _) | (with_reducible refine Below.alloc ?_ ?_ _) | (with_reducible refine Below.drew ?_) | (with_reducible refine below_drewN ?_ _))); all_goals (first | omega | (simp; done) | (simp; omega) | (simp [*]; done) | (simp at *; omega))))))).mono ?_; rintro e w2 ⟨v, rfl, ho2, g2⟩
    obtain ⟨A2, c2, rfl, _, _⟩ := ho2.val
    replace rb := (rb.grows (by ((repeat' (first | with_reducible exact Below.refl _ _ | with_reducible assumption | (with_reducible refine Below.setCell ?_ ?_ _) | (with_reducible refine Below.alloc ?_ ?_ _) | (with_reducible refine Below.drew ?_) | (with_reducible refine below_drewN ?_ _))); all_goals (first | omega | (simp; done) | (simp; omega) | (simp [*]; done) | (simp at *; omega))))).grows g2
    obtain ⟨r0, r1, r2⟩ := rb.cells
    have rf := rb.fz
    have rl := rb.lt
    have rl' : w.heap.size + 1 < w2.heap.size := rl
    go_wp2_with fail
    refine bodyPost_ret (v := .tuple #[.agg #[.int .i64 gr, .int .i64 gr, .slice A2 gv.length c2], .bool go]) ?_ rfl ?_
    · simp [results, Try.results104, go_sem, r0, r1, r2]
    · exact ⟨_, rfl, by (refine Own.less (B := ?OB) ?_ ?_; (repeat' (first | with_reducible exact ho2 | with_reducible refine Own.alloc ?_ _ | with_reducible refine Own.drew ?_ | with_reducible refine Own.low ?_ ?_ _)); all_goals (first | omega | (simp; done) | (simp; omega) | (simp [*]; done) | (simp at *; omega))), by (have bz0 := Below.size (g2); (try simp at bz0); have bz1 := Below.size (gw); (try simp at bz1); (repeat' (first | with_reducible exact Below.refl _ _ | with_reducible assumption | (with_reducible refine Below.setCell ?_ ?_ _) | (with_reducible refine Below.alloc ?_ ?_ _) | (with_reducible refine Below.drew ?_) | (with_reducible refine below_drewN ?_ _) | (with_reducible refine Below.trans ?_ (Below.mono (g2) ?_)) | (with_reducible refine Below.trans ?_ (Below.mono (gw) ?_)))); all_goals (first | omega | (simp; done) | (simp; omega) | (simp [*]; done) | (simp at *; omega)))⟩

theorem sGramOf_no (r c : Int) (A : Option Addr) (l : List Int) (n cap : Nat) (w : World) (hn : l.length = n) (ha : Rd w A l) (hl : n ≤ 1099511627776) (hm : isMat r c l = false) :
    Calls Try.prog 102 #[.agg #[.int .i64 r, .int .i64 c, .slice A n cap]] w fun e w' => e = .returned (.tuple #[.agg #[.int .i64 0, .int .i64 0, .slice none 0 0], .bool false]) ∧ Grows w w' := by
  have HM := Lib.hid fun w h => sIsMatrix_c r c A l n cap w hn h hl
  rw [hm] at HM
  have HM' := Lib.hid HM.out
  clear hm HM hn
  go_enter Try.func102, Try.ntmps102
  go_wp2_with fail
  refine (HM'.out _ (by exact (Rd.grows ha (by ((repeat' (first | with_reducible exact Below.refl _ _ | with_reducible assumption | (with_reducible refine Below.setCell ?_ ?_ _) | (with_reducible refine Below.alloc ?_ ?_ _) | (with_reducible refine Below.drew ?_) | (with_reducible refine below_drewN ?_ _))); all_goals (first | omega | (simp; done) | (simp; omega) | (simp [*]; done) | (simp at *; omega))))))).mono ?_; rintro e w1 ⟨rfl, g1⟩
  have rb : MBox w1 (w.heap.size + 1) 0 0 (.slice none 0 0) := by have := (MBox.mk_ (w.alloc (.cells #[.int .i64 r, .int .i64 c, .slice A n cap] 26)) 0 0 (.slice none 0 0) 26).grows (w' := w1) (by (have bz0 := Below.size (g1); (try simp at bz0); (repeat' (first | with_reducible exact Below.refl _ _ | with_reducible assumption | (with_reducible refine Below.setCell ?_ ?_ _) | (with_reducible refine Below.alloc ?_ ?_ _) | (with_reducible refine Below.drew ?_) | (with_reducible refine below_drewN ?_ _) | (with_reducible refine Below.trans ?_ (Below.mono (g1) ?_)))); all_goals (first | omega | (simp; done) | (simp; omega) | (simp [*]; done) | (simp at *; omega)))); simpa using this
  obtain ⟨r0, r1, r2⟩ := rb.cells
  have rf := rb.fz
  go_wp2_with fail
  refine bodyPost_ret (v := .tuple #[.agg #[.int .i64 0, .int .i64 0, .slice none 0 0], .bool false]) ?_ rfl ?_
  · simp [results, Try.results102, go_sem, r0, r1, r2]
  · exact ⟨rfl, by (have bz0 := Below.size (g1); (try simp at bz0); (repeat' (first | with_reducible exact Below.refl _ _ | with_reducible assumption | (with_reducible refine Below.setCell ?_ ?_ _) | (with_reducible refine Below.alloc ?_ ?_ _) | (with_reducible refine Below.drew ?_) | (with_reducible refine below_drewN ?_ _) | (with_reducible refine Below.trans ?_ (Below.mono (g1) ?_)))); all_goals (first | omega | (simp; done) | (simp; omega) | (simp [*]; done) | (simp at *; omega)))⟩

def ifI (ok : Bool) (r : Int) : Int := if ok then r else 0
def ifL (ok : Bool) (l : List Int) : List Int := if ok then l else []
theorem l3Done_c (ok : Bool) (r c : Int) (A : Option Addr) (l : List Int) (n cap : Nat) (w : World) (hn : l.length = n) (ha : Rd w A l) (hl : n ≤ 1099511627776) (hm : isMat r c l = ok) :
    Calls Try.prog 106 #[.agg #[.int .i64 r, .int .i64 c, .slice A n cap]] w fun e w' => ∃ A' c', e = .returned (.tuple #[.agg #[.int .i64 (ifI ok r), .int .i64 (ifI ok c), .slice A' (ifL ok l).length c'], .bool ok]) ∧ (∀ W B, Own W B (.slice A l.length cap) l → Own W B (.slice A' (ifL ok l).length c') (ifL ok l)) ∧ Grows w w' := by
  subst hn
  cases ok
  · exact (l3Done_no r c A l _ cap w rfl ha hl hm).mono fun e w' ⟨he, hg⟩ => ⟨none, 0, he, fun W B _ => Own.nil W B, hg⟩
  · exact (l3Done_yes r c A l _ cap w rfl ha hl hm).mono fun e w' ⟨he, hg⟩ => ⟨A, cap, he, fun W B h => h, hg⟩

theorem sGramOf_c (r c : Int) (A : Option Addr) (l : List Int) (n cap : Nat) (w : World) (hn : l.length = n) (ha : Rd w A l) (hl : n ≤ 1099511627776) :
    Calls Try.prog 102 #[.agg #[.int .i64 r, .int .i64 c, .slice A n cap]] w fun e w' =>
      ∃ v, e = .returned (.tuple #[.agg #[.int .i64 (gmR r c l), .int .i64 (gmR r c l), v], .bool (gmOk r c l)]) ∧ Own w' w.heap.size v (gmV r c l) ∧ Grows w w' := by
  cases hm : isMat r c l
  · obtain ⟨e1, e2⟩ := gm_no (gmOk_no hm)
    rw [gmOk_no hm, e1, e2]
    exact (sGramOf_no r c A l n cap w hn ha hl hm).mono fun e w' ⟨he, hg⟩ => ⟨_, he, Own.nil _ _, hg⟩
  · obtain ⟨R, C, rfl, rfl, hR, hC, hl2, hnum⟩ := isMat_nat hm
    have hmt := isMat_tr hm
    have hlt : (trL R C l).length = C * R := tab_length _ _ _
    have hCR : C * R ≤ 576 := Nat.mul_le_mul hC hR
    have hRR : R * R ≤ 576 := Nat.mul_le_mul hR hR
    have H1 := Lib.hid fun W h => l3Turn_c R C A l n cap W hn h hl2 hR hC
    have H2' := Lib.hid fun W B cb h h' => l3Mul_c R C R A B l (trL R C l) n (C * R) cap cb W hn hlt h h' hm hmt
    have e1 : gmR R C l = ifI (gmOk R C l) R := rfl
    have e3 : gmV R C l = ifL (gmOk R C l) (mulL R C R l (trL R C l)) := by unfold gmV gmL ifL; simp only [Int.toNat_natCast]
    have hlen := mulL_length R C R l (trL R C l)
    have hok : isMat R R (mulL R C R l (trL R C l)) = gmOk R C l := by rw [isMat_made hR hR (mulL_length _ _ _ _ _), gmOk_nat hm]; rfl
    have HM := Lib.hid fun W h => sIsMatrix_c R C A l n cap W hn h hl
    rw [hm] at HM
    have HM' := Lib.hid HM.out
    rw [e1, e3]
    have H2L := Lib.hid hlt
    have H3L := Lib.hid hlen
    have HOK := Lib.hid hok
    clear e1 e3 hmt hm HM hn hl2 hnum hlt hlen hok
    generalize trL R C l = tl at *
    generalize mulL R C R l tl = pr at *
    generalize gmOk R C l = ok at *
    go_enter Try.func102, Try.ntmps102
    go_wp2_with fail
    refine (HM'.out _ (by exact (Rd.grows ha (by ((repeat' (first | with_reducible exact Below.refl _ _ | with_reducible assumption | (with_reducible refine Below.setCell ?_ ?_ _) | (with_reducible refine Below.alloc ?_ ?_ _) | (with_reducible refine Below.drew ?_) | (with_reducible refine below_drewN ?_ _))); all_goals (first | omega | (simp; done) | (simp; omega) | (simp [*]; done) | (simp at *; omega))))))).mono ?_; rintro e w1 ⟨rfl, g1⟩
    have mb : MBox w1 w.heap.size R C (.slice A n cap) := (MBox.mk_ w R C (.slice A n cap) 26).grows (by (have bz0 := Below.size (g1); (try simp at bz0); (repeat' (first | with_reducible exact Below.refl _ _ | with_reducible assumption | (with_reducible refine Below.setCell ?_ ?_ _) | (with_reducible refine Below.alloc ?_ ?_ _) | (with_reducible refine Below.drew ?_) | (with_reducible refine below_drewN ?_ _) | (with_reducible refine Below.trans ?_ (Below.mono (g1) ?_)))); all_goals (first | omega | (simp; done) | (simp; omega) | (simp [*]; done) | (simp at *; omega))))
    have rb : MBox w1 (w.heap.size + 1) 0 0 (.slice none 0 0) := by have := (MBox.mk_ (w.alloc (.cells #[.int .i64 R, .int .i64 C, .slice A n cap] 26)) 0 0 (.slice none 0 0) 26).grows (w' := w1) (by (have bz0 := Below.size (g1); (try simp at bz0); (repeat' (first | with_reducible exact Below.refl _ _ | with_reducible assumption | (with_reducible refine Below.setCell ?_ ?_ _) | (with_reducible refine Below.alloc ?_ ?_ _) | (with_reducible refine Below.drew ?_) | (with_reducible refine below_drewN ?_ _) | (with_reducible refine Below.trans ?_ (Below.mono (g1) ?_)))); all_goals (first | omega | (simp; done) | (simp; omega) | (simp [*]; done) | (simp at *; omega)))); simpa using this
    obtain ⟨b0, b1, b2⟩ := mb.cells
    have bl := mb.lt
    have ra : Rd w1 A l := (Rd.grows ha (by (have bz0 := Below.size (g1); (try simp at bz0); (repeat' (first | with_reducible exact Below.refl _ _ | with_reducible assumption | (with_reducible refine Below.setCell ?_ ?_ _) | (with_reducible refine Below.alloc ?_ ?_ _) | (with_reducible refine Below.drew ?_) | (with_reducible refine below_drewN ?_ _) | (with_reducible refine Below.trans ?_ (Below.mono (g1) ?_)))); all_goals (first | omega | (simp; done) | (simp; omega) | (simp [*]; done) | (simp at *; omega)))))
    have gw : Grows w w1 := by (have bz0 := Below.size (g1); (try simp at bz0); (repeat' (first | with_reducible exact Below.refl _ _ | with_reducible assumption | (with_reducible refine Below.setCell ?_ ?_ _) | (with_reducible refine Below.alloc ?_ ?_ _) | (with_reducible refine Below.drew ?_) | (with_reducible refine below_drewN ?_ _) | (with_reducible refine Below.trans ?_ (Below.mono (g1) ?_)))); all_goals (first | omega | (simp; done) | (simp; omega) | (simp [*]; done) | (simp at *; omega)))
    have z1 := Below.size g1; simp at z1
    go_wp2_with fail
    go_region_held3 (fun W => W.cell? ⟨w.heap.size, 0, none⟩ = some (.int .i64 R) ∧ W.cell? ⟨w.heap.size, 1, none⟩ = some (.int .i64 C) ∧ W.cell? ⟨w.heap.size, 2, none⟩ = some (.slice A n cap)) ((refine MBox.cells (mb.grows ?_); first | (have bz0 := Below.size (g4); (try simp at bz0); have bz1 := Below.size (g3); (try simp at bz1); have bz2 := Below.size (g2); (try simp at bz2); (repeat' (first | with_reducible exact Below.refl _ _ | with_reducible assumption | (with_reducible refine Below.setCell ?_ ?_ _) | (with_reducible refine Below.alloc ?_ ?_ _) | (with_reducible refine Below.drew ?_) | (with_reducible refine below_drewN ?_ _) | (with_reducible refine Below.trans ?_ (Below.mono (g4) ?_)) | (with_reducible refine Below.trans ?_ (Below.mono (g3) ?_)) | (with_reducible refine Below.trans ?_ (Below.mono (g2) ?_)))); all_goals (first | omega | (simp; done) | (simp; omega) | (simp [*]; done) | (simp at *; omega))) | (have bz0 := Below.size (g3); (try simp at bz0); have bz1 := Below.size (g2); (try simp at bz1); (repeat' (first | with_reducible exact Below.refl _ _ | with_reducible assumption | (with_reducible refine Below.setCell ?_ ?_ _) | (with_reducible refine Below.alloc ?_ ?_ _) | (with_reducible refine Below.drew ?_) | (with_reducible refine below_drewN ?_ _) | (with_reducible refine Below.trans ?_ (Below.mono (g3) ?_)) | (with_reducible refine Below.trans ?_ (Below.mono (g2) ?_)))); all_goals (first | omega | (simp; done) | (simp; omega) | (simp [*]; done) | (simp at *; omega))) | (have bz0 := Below.size (g2); (try simp at bz0); (repeat' (first | with_reducible exact Below.refl _ _ | with_reducible assumption | (with_reducible refine Below.setCell ?_ ?_ _) | (with_reducible refine Below.alloc ?_ ?_ _) | (with_reducible refine Below.drew ?_) | (with_reducible refine below_drewN ?_ _) | (with_reducible refine Below.trans ?_ (Below.mono (g2) ?_)))); all_goals (first | omega | (simp; done) | (simp; omega) | (simp [*]; done) | (simp at *; omega))) | ((repeat' (first | with_reducible exact Below.refl _ _ | with_reducible assumption | (with_reducible refine Below.setCell ?_ ?_ _) | (with_reducible refine Below.alloc ?_ ?_ _) | (with_reducible refine Below.drew ?_) | (with_reducible refine below_drewN ?_ _))); all_goals (first | omega | (simp; done) | (simp; omega) | (simp [*]; done) | (simp at *; omega)))))
      (first
       | (go_at_call 55; refine (H1.out _ (by exact (Rd.grows ra (by ((repeat' (first | with_reducible exact Below.refl _ _ | with_reducible assumption | (with_reducible refine Below.setCell ?_ ?_ _) | (with_reducible refine Below.alloc ?_ ?_ _) | (with_reducible refine Below.drew ?_) | (with_reducible refine below_drewN ?_ _))); all_goals (first | omega | (simp; done) | (simp; omega) | (simp [*]; done) | (simp at *; omega))))))).mono ?_; rintro e w2 ⟨v2, rfl, ho2, g2⟩; obtain ⟨A2, c2, rfl, hr2, _⟩ := ho2.val; rw [H2L.out]; have z2 := Below.size g2; (try simp at z2); (try (have q := (MBox.mk_ w1 0 0 (.slice none 0 0) 26).grows (w' := w2) (Grows.trans (show Grows _ _ from (Below.refl _ _).drew) g2))))
       | (go_at_call 107; refine (H2'.out _ _ _ (by exact (Rd.grows ra (by (have bz0 := Below.size (g2); (try simp at bz0); (repeat' (first | with_reducible exact Below.refl _ _ | with_reducible assumption | (with_reducible refine Below.setCell ?_ ?_ _) | (with_reducible refine Below.alloc ?_ ?_ _) | (with_reducible refine Below.drew ?_) | (with_reducible refine below_drewN ?_ _) | (with_reducible refine Below.trans ?_ (Below.mono (g2) ?_)))); all_goals (first | omega | (simp; done) | (simp; omega) | (simp [*]; done) | (simp at *; omega)))))) (by exact (Rd.grows hr2 (by ((repeat' (first | with_reducible exact Below.refl _ _ | with_reducible assumption | (with_reducible refine Below.setCell ?_ ?_ _) | (with_reducible refine Below.alloc ?_ ?_ _) | (with_reducible refine Below.drew ?_) | (with_reducible refine below_drewN ?_ _))); all_goals (first | omega | (simp; done) | (simp; omega) | (simp [*]; done) | (simp at *; omega))))))).mono ?_; rintro e w3 ⟨v3, rfl, ho3, g3⟩; obtain ⟨A3, c3, rfl, hr3, _⟩ := ho3.val; have z3 := Below.size g3; (try simp at z3); (first | (replace q := q.grows g3) | (have q := MBox.grows (MBox.mk_ w2 0 0 (.slice none 0 0) 26) g3) | skip))
       | (go_at_call 106; refine (l3Done_c ok R R A3 pr _ c3 _ rfl (by exact (Rd.grows hr3 (by ((repeat' (first | with_reducible exact Below.refl _ _ | with_reducible assumption | (with_reducible refine Below.setCell ?_ ?_ _) | (with_reducible refine Below.alloc ?_ ?_ _) | (with_reducible refine Below.drew ?_) | (with_reducible refine below_drewN ?_ _))); all_goals (first | omega | (simp; done) | (simp; omega) | (simp [*]; done) | (simp at *; omega)))))) (by have := H3L.out; omega) HOK.out).mono ?_; rintro e w4 ⟨A4, c4, rfl, o4, g4⟩; have z4 := Below.size g4; (try simp at z4); (first | (replace q := q.grows g4) | (have q := MBox.grows (MBox.mk_ w3 0 0 (.slice none 0 0) 26) g4) | skip); (try (obtain ⟨q0, q1, q2⟩ := q.cells; have qf := q.fz; have ql := q.lt))))
    all_goals
      replace rb := rb.grows (w' := w4) (by (have bz0 := Below.size (g4); (try simp at bz0); have bz1 := Below.size (g3); (try simp at bz1); have bz2 := Below.size (g2); (try simp at bz2); (repeat' (first | with_reducible exact Below.refl _ _ | with_reducible assumption | (with_reducible refine Below.setCell ?_ ?_ _) | (with_reducible refine Below.alloc ?_ ?_ _) | (with_reducible refine Below.drew ?_) | (with_reducible refine below_drewN ?_ _) | (with_reducible refine Below.trans ?_ (Below.mono (g4) ?_)) | (with_reducible refine Below.trans ?_ (Below.mono (g3) ?_)) | (with_reducible refine Below.trans ?_ (Below.mono (g2) ?_)))); all_goals (first | omega | (simp; done) | (simp; omega) | (simp [*]; done) | (simp at *; omega))))
      obtain ⟨r0, r1, r2⟩ := rb.cells
      have rf := rb.fz
      have rl := rb.lt
      have rl' : w.heap.size + 1 < w4.heap.size := rl
      have ho4 := o4 _ _ (ho3.grows (w' := w4) (by (have bz0 := Below.size (g4); (try simp at bz0); (repeat' (first | with_reducible exact Below.refl _ _ | with_reducible assumption | (with_reducible refine Below.setCell ?_ ?_ _) | (with_reducible refine Below.alloc ?_ ?_ _) | (with_reducible refine Below.drew ?_) | (with_reducible refine below_drewN ?_ _) | (with_reducible refine Below.trans ?_ (Below.mono (g4) ?_)))); all_goals (first | omega | (simp; done) | (simp; omega) | (simp [*]; done) | (simp at *; omega)))))
      have hb3 := fun k hk => World.ownsRow.lt (o4 _ _ ho3) k hk
      replace ho4 := ho4.less (show w.heap.size ≤ _ by (try simp); omega)
      go_wp2_with fail
      refine bodyPost_ret (v := .tuple #[.agg #[.int .i64 (ifI ok R), .int .i64 (ifI ok R), .slice A4 (ifL ok pr).length c4], .bool ok]) ?_ rfl ?_
      · simp [results, Try.results102, go_sem, r0, r1, r2, rl']
      · exact ⟨_, rfl, by ((repeat' (first | with_reducible exact ho4 | with_reducible refine Own.alloc ?_ _ | with_reducible refine Own.drew ?_ | with_reducible refine Own.far ?_ ?_ _)); all_goals first | (intro k hk; have := hb3 k hk; (try simp at this); (try simp); omega) | ((try simp); omega)), by (have bz0 := Below.size (g4); (try simp at bz0); have bz1 := Below.size (g3); (try simp at bz1); have bz2 := Below.size (g2); (try simp at bz2); have bz3 := Below.size (gw); (try simp at bz3); (repeat' (first | with_reducible exact Below.refl _ _ | with_reducible assumption | (with_reducible refine Below.setCell ?_ ?_ _) | (with_reducible refine Below.alloc ?_ ?_ _) | (with_reducible refine Below.drew ?_) | (with_reducible refine below_drewN ?_ _) | (with_reducible refine Below.trans ?_ (Below.mono (g4) ?_)) | (with_reducible refine Below.trans ?_ (Below.mono (g3) ?_)) | (with_reducible refine Below.trans ?_ (Below.mono (g2) ?_)) | (with_reducible refine Below.trans ?_ (Below.mono (gw) ?_)))); all_goals (first | omega | (simp; done) | (simp; omega) | (simp [*]; done) | (simp at *; omega)))⟩
end
end Go.Proofs.Ytpfijhcjempfjaa
