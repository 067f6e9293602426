/- Contracts and lemmas, put together. -/
import Derived.Test.YtfilbjbogggaoaaGreatPkB
import Derived.Test.YtfilbjbogggaoaaGreatPkC
import Derived.Test.YtfilbjbogggaoaaGreatPkE
import Derived.Test.YtfilbjbogggaoaaGreatPkI
import Derived.Test.YtfilbjbogggaoaaGreatPkRA
import Derived.Test.YtfilbjbogggaoaaGreatPkRC
import Derived.Test.YtfilbjbogggaoaaGreatPkRX
import Derived.Test.YtfilbjbogggaoaaGreatPkT
/- Contracts: whether matrices are the same, the rows of two matrices below one another, whether lattices are the same, their sum. -/
namespace Go.Proofs.YtfilbjbogggaoaaGreat
set_option linter.unusedSimpArgs false
set_option linter.unusedVariables false
open Go.RowKit

/-- the variables of a function with two matrices -/
theorem two_only (w : World) (r c r' c' : Int) (u v : Value) :
    ∃ w1, w1 = (w.alloc (.cells #[.int .i64 r, .int .i64 c, u] 26)).alloc (.cells #[.int .i64 r', .int .i64 c', v] 26) ∧
      MBox w1 w.heap.size r c u ∧ MBox w1 (w.heap.size + 1) r' c' v ∧ w1.heap.size = w.heap.size + 2 ∧ Grows w w1 :=
  ⟨_, rfl, (MBox.mk_ _ _ _ _ _).grows ((Below.refl _ _).alloc (Nat.le_refl _) _), MBox.new_ _ _ _ _ _ (by simp), by simp, by exact bel0⟩
def stkO (a b : MX) : Option MX := if a.ok && b.ok && decide (a.c = b.c) && decide (a.r + b.r ≤ 24) then some ⟨a.r + b.r, a.c, a.l ++ b.l⟩ else none
theorem stkO_no {a b : MX} (h : a.ok = false ∨ b.ok = false ∨ a.c ≠ b.c ∨ 24 < a.r + b.r) : stkO a b = none := by
  unfold stkO
  rw [if_neg]
  rcases h with h | h | h | h
  · simp [h]
  · simp [h]
  · simp [h]
  · simp only [Bool.and_eq_true, decide_eq_true_eq]; omega
theorem stkO_yes {a b : MX} (h1 : a.ok = true) (h2 : b.ok = true) (h3 : a.c = b.c) (h4 : a.r + b.r ≤ 24) : stkO a b = some ⟨a.r + b.r, a.c, a.l ++ b.l⟩ := by
  unfold stkO; rw [if_pos (by simp [h1, h2, h3, h4])]
theorem stkO_ok {a b m : MX} (h : stkO a b = some m) : m.ok = true := by
  unfold stkO at h
  split at h
  · rename_i hc
    simp only [Bool.and_eq_true, decide_eq_true_eq] at hc
    obtain ⟨⟨⟨h1, h2⟩, h3⟩, h4⟩ := hc
    cases h
    obtain ⟨R, C, e1, e2, hR, hC, hl, hn⟩ := isMat_ok h1
    obtain ⟨R', C', e3, e4, hR', hC', hl', hn'⟩ := isMat_ok h2
    obtain rfl : C = C' := by omega
    show isMat (a.r + b.r) a.c (a.l ++ b.l) = true
    rw [e1, e3, e2, ← Int.natCast_add]
    rw [isMat_made (by omega) hC (by rw [List.length_append, hl, hl', Nat.add_mul])]
    rw [allNum_iff]
    intro i hi
    by_cases e : i < a.l.length
    · rw [nth_append_left _ _ _ e]; exact hn i e
    · rw [nth_append_right _ _ _ (by omega)]; exact hn' _ (by simp at hi; omega)
  · cases h
/-- whether the rows span the same lattice, and whether that is known -/
def smlB (a b : MX) : Bool × Bool :=
  match basO a, basO b with
  | some x, some y => if a.c = b.c then (eqMat x.r x.c x.l y.r y.c y.l, true) else (false, false)
  | _, _ => (false, false)
def sumO (a b : MX) : Option MX := if latB a.r a.c a.l && latB b.r b.c b.l then (stkO a b).bind basO else none
theorem sumO_ok {a b m : MX} (h : sumO a b = some m) : m.ok = true := by
  unfold sumO at h
  split at h
  · obtain ⟨x, _, h2⟩ := Option.bind_eq_some_iff.1 h
    exact basO_ok h2
  · cases h

section
set_option maxHeartbeats 2000000
theorem iSml_c (r c r' c' : Int) (A B : Option Addr) (a b : List Int) (n m ca cb : Nat) (w : World) (hn : a.length = n) (hm : b.length = m) (ha : Rd w A a) (hb : Rd w B b) (hl : n ≤ 1099511627776) (hl2 : m ≤ 1099511627776) :
    Calls Tryz.prog 29 #[.agg #[.int .i64 r, .int .i64 c, .slice A n ca], .agg #[.int .i64 r', .int .i64 c', .slice B m cb]] w fun e w' => e = .returned (.tuple #[.bool (smlB ⟨r, c, a⟩ ⟨r', c', b⟩).1, .bool (smlB ⟨r, c, a⟩ ⟨r', c', b⟩).2]) ∧ Grows w w' := by
  have HA := fun W h => (iBas_c r c A a n ca W hn h hl).mono fun _ _ h => matRet_out h
  have HB := fun W h => (iBas_c r' c' B b m cb W hm h hl2).mono fun _ _ h => matRet_out h
  have XB := Lib.hid fun (x : MX) (h : basO ⟨r, c, a⟩ = some x) => (oM_length (o := some x) fun m h2 => by cases h2; exact basO_ok h)
  have YB := Lib.hid fun (x : MX) (h : basO ⟨r', c', b⟩ = some x) => (oM_length (o := some x) fun m h2 => by cases h2; exact basO_ok h)
  obtain ⟨w1, hw1, ma, mb, hs1, HG⟩ := two_only w r c r' c' (.slice A n ca) (.slice B m cb)
  have HW1 := Lib.hid hw1
  have ha1 := ha.grows HG
  have hb1 := hb.grows HG
  obtain ⟨RES, hRES⟩ : ∃ x, x = smlB ⟨r, c, a⟩ ⟨r', c', b⟩ := ⟨_, rfl⟩
  rw [← hRES]
  unfold smlB at hRES
  generalize basO ⟨r, c, a⟩ = X at *
  generalize basO ⟨r', c', b⟩ = Y at *
  have HR := Lib.hid hRES
  have HA' := Lib.hid HA
  have HB' := Lib.hid HB
  clear hw1 hRES hn hm HA HB hs1
  go_enter Tryz.func29, Tryz.ntmps29
  go_wp2_with fail
  rw [← HW1.out]
  have ma_0 := ma.c0; have ma_1 := ma.c1; have ma_2 := ma.c2; have ma_l := ma.lt; have ma_f := ma.fz
  have mb_0 := mb.c0; have mb_1 := mb.c1; have mb_2 := mb.c2; have mb_l := mb.lt; have mb_f := mb.fz
  refine (HA'.out _ (by exact Rd.grows ha1 (by exact bel0))).mono ?_; rintro e w2 ⟨v2, rfl, o2, g_w2⟩
  have s_w2 := Below.size g_w2; (try simp at s_w2)
  clear ma_0 ma_1 ma_2 ma_l ma_f
  replace ma := ma.grows (w' := w2) (by exact bel1 g_w2)
  have ma_0 := ma.c0; have ma_1 := ma.c1; have ma_2 := ma.c2; have ma_l := ma.lt; have ma_f := ma.fz
  clear mb_0 mb_1 mb_2 mb_l mb_f
  replace mb := mb.grows (w' := w2) (by exact bel1 g_w2)
  have mb_0 := mb.c0; have mb_1 := mb.c1; have mb_2 := mb.c2; have mb_l := mb.lt; have mb_f := mb.fz
  replace ha1 := ha1.grows (w' := w2) (by exact bel1 g_w2)
  replace hb1 := hb1.grows (w' := w2) (by exact bel1 g_w2)
  replace HG : Grows w w2 := by exact bel2 g_w2 HG
  have h_w2 := Below.size HG
  obtain ⟨A2, c2, rfl, hr2, _⟩ := o2.val
  go_wp2_with fail
  refine (HB'.out _ (by exact Rd.grows hb1 (by exact bel0))).mono ?_; rintro e w3 ⟨v3, rfl, o3, g_w3⟩
  have s_w3 := Below.size g_w3; (try simp at s_w3)
  clear ma_0 ma_1 ma_2 ma_l ma_f
  replace ma := ma.grows (w' := w3) (by exact bel1 g_w3)
  have ma_0 := ma.c0; have ma_1 := ma.c1; have ma_2 := ma.c2; have ma_l := ma.lt; have ma_f := ma.fz
  clear mb_0 mb_1 mb_2 mb_l mb_f
  replace mb := mb.grows (w' := w3) (by exact bel1 g_w3)
  have mb_0 := mb.c0; have mb_1 := mb.c1; have mb_2 := mb.c2; have mb_l := mb.lt; have mb_f := mb.fz
  replace ha1 := ha1.grows (w' := w3) (by exact bel1 g_w3)
  replace hb1 := hb1.grows (w' := w3) (by exact bel1 g_w3)
  replace hr2 := hr2.grows (w' := w3) (by exact bel1 g_w3)
  have mx : MBox w3 (w2.heap.size) (oM X).r (oM X).c (.slice A2 (oM X).l.length c2) := MBox.grows (MBox.new_ w2 (oM X).r (oM X).c (.slice A2 (oM X).l.length c2) 26 (by simp)) (w' := w3) (by exact bel1 g_w3)
  have mx_0 := mx.c0; have mx_1 := mx.c1; have mx_2 := mx.c2; have mx_l := mx.lt; have mx_f := mx.fz
  replace HG : Grows w w3 := by exact bel2 g_w3 HG
  have h_w3 := Below.size HG
  obtain ⟨A3, c3, rfl, hr3, _⟩ := o3.val
  clear o2 o3
  cases X with
  | none =>
    obtain rfl : RES = (false, false) := by have := HR.out; cases Y <;> exact this
    go_wp2_with fail
    go_ret2
    exact ⟨rfl, by exact bel1 HG⟩
  | some x =>
    cases Y with
    | none =>
      obtain rfl : RES = (false, false) := HR.out
      go_wp2_with fail
      go_ret2
      exact ⟨rfl, by exact bel1 HG⟩
    | some y =>
      have hx := XB.out x rfl
      have hy := YB.out y rfl
      simp only [oM_some] at hx hy mx mx_0 mx_1 mx_2 hr2 hr3 ⊢
      by_cases hc : c = c'
      · have HR2 := Lib.hid (HR.out.trans (if_pos hc))
        subst hc
        have CS := Lib.hid fun W h h' => sameMatrix_c x.r x.c y.r y.c A2 A3 x.l y.l x.l.length y.l.length c2 c3 W rfl rfl h h' (by omega) (by omega)
        go_wp2_with fail
        refine (CS.out _ (by exact Rd.grows hr2 (by exact bel0)) (by exact Rd.grows hr3 (by exact bel0))).mono ?_; rintro e w4 ⟨rfl, g4⟩
        go_wp2_with fail
        go_ret2
        exact ⟨by rw [HR2.out]; rfl, by exact bel2 g4 HG⟩
      · have hc' : (c != c') = true := by simpa using hc
        obtain rfl : RES = (false, false) := HR.out.trans (if_neg hc)
        clear hc
        go_wp2_with fail
        go_ret2
        exact ⟨rfl, by exact bel1 HG⟩
end
end Go.Proofs.YtfilbjbogggaoaaGreat

/- Plain: two matrices span one lattice exactly if the rows of each are in the other's; small cells. -/
namespace Go.Proofs.YtfilbjbogggaoaaGreat
set_option linter.unusedSimpArgs false
set_option linter.unusedVariables false
open Go.RowKit

theorem eqL_iff (a b : List Int) : eqL a b = true ↔ a = b := by unfold eqL; exact decide_eq_true_iff
/-- all cells are small -/
def tameB (l : List Int) : Bool := l.all fun x => decide (-1000 ≤ x) && decide (x ≤ 1000)
theorem tameB_iff (l : List Int) : tameB l = true ↔ ∀ i, i < l.length → -1000 ≤ nth l i ∧ nth l i ≤ 1000 := by
  unfold tameB
  rw [List.all_eq_true]
  constructor
  · intro h i hi
    have := h l[i] (List.getElem_mem hi)
    rw [nth_get _ _ hi]
    simpa using this
  · intro h x hx
    obtain ⟨i, hi, rfl⟩ := List.getElem_of_mem hx
    have := h i hi
    rw [nth_get _ _ hi] at this
    simpa using this
theorem basO_mat {a x : MX} (h : basO a = some x) : ∃ (R C : Nat) (l : List Int), a = ⟨R, C, l⟩ ∧ isMat R C l = true := by
  obtain ⟨r, c, l⟩ := a
  unfold basO at h
  obtain ⟨y, h1, _⟩ := Option.map_eq_some_iff.1 h
  have hm : isMat r c l = true := by
    cases e : isMat r c l
    · have h0 := hermO_no (a := ⟨r, c, l⟩) e
      rw [h0] at h1; cases h1
    · rfl
  obtain ⟨R, C, e1, e2, _⟩ := isMat_nat hm
  subst e1 e2
  exact ⟨R, C, l, rfl, hm⟩
theorem MX.ext' {a b : MX} (h1 : a.r = b.r) (h2 : a.c = b.c) (h3 : a.l = b.l) : a = b := by
  cases a; cases b; simp only at h1 h2 h3; subst h1 h2 h3; rfl
theorem sml_law {a b x y : MX} (hx : basO a = some x) (hy : basO b = some y) (hc : a.c = b.c) : eqMat x.r x.c x.l y.r y.c y.l = ((crmO x y).isSome && (crmO y x).isSome) := by
  obtain ⟨R, C, la, rfl, hm⟩ := basO_mat hx
  obtain ⟨R', C', lb, rfl, hm'⟩ := basO_mat hy
  obtain rfl : C = C' := by simp only at hc; omega
  obtain ⟨T, _, B⟩ := basO_D hm hx
  obtain ⟨T', _, B'⟩ := basO_D hm' hy
  obtain ⟨xr, xc, xl⟩ := x
  obtain ⟨yr, yc, yl⟩ := y
  have e1 := B.r; have e2 := B.c; have e3 := B'.r; have e4 := B'.c
  simp only at e1 e2 e3 e4
  subst e1 e2 e3 e4
  have L1 := B.lat
  have L2 := B'.lat
  by_cases e : T = T' ∧ xl = yl
  · obtain ⟨rfl, rfl⟩ := e
    rw [crmO_self L1]
    simp [eqMat, (eqL_iff _ _).2 rfl]
  · have h1 : eqMat T C xl T' C yl = false := by
      cases h : eqMat T C xl T' C yl
      · rfl
      · unfold eqMat at h
        simp only [Bool.and_eq_true, beq_iff_eq] at h
        exact absurd ⟨by omega, (eqL_iff _ _).1 h.2.2⟩ e
    rw [h1]
    cases h2 : crmO ⟨T, C, xl⟩ ⟨T', C, yl⟩ with
    | none => rfl
    | some p =>
      cases h3 : crmO ⟨T', C, yl⟩ ⟨T, C, xl⟩ with
      | none => rfl
      | some q =>
        exfalso
        obtain ⟨_, _, _, c, _, _, _, hr⟩ := crmO_D h2
        obtain ⟨_, _, _, d, _, _, _, hr'⟩ := crmO_D h3
        refine e (her_eq B.len B'.len B.her B'.her fun v => ⟨fun h => h.trans fun i hi => ⟨_, fun j hj => hr' i hi j hj⟩, fun h => h.trans fun i hi => ⟨_, fun j hj => hr i hi j hj⟩⟩)
end Go.Proofs.YtfilbjbogggaoaaGreat

/- Plain: what FnReducedBasis needs. -/
namespace Go.Proofs.YtfilbjbogggaoaaGreat
set_option linter.unusedSimpArgs false
set_option linter.unusedVariables false
open Go.RowKit

theorem eqMat_self (r c : Int) (l : List Int) : eqMat r c l r c l = true := by unfold eqMat eqL; simp
theorem um_det {R : Nat} {u : List Int} (U : UmD R u) {d : Int} (hd : dtO ⟨R, R, u⟩ = some d) : d = 1 ∨ d = -1 := by
  cases hs : isSq R R u
  · rw [dtO_no hs] at hd; cases hd
  · rw [dtO_yes hs] at hd
    rw [← detO_dets R u d hd]
    exact U.det
theorem mulO_in2 {a b p : MX} (h : mulO a b = some p) : a.ok = true ∧ b.ok = true ∧ a.c = b.r := by
  unfold mulO at h
  split at h
  · rename_i hh
    unfold mulOk at hh
    simp only [Bool.and_eq_true, beq_iff_eq] at hh
    exact ⟨hh.1.1.1, hh.1.1.2, hh.1.2⟩
  · cases h
theorem rbs_facts {b p u : MX} (h : rbO b = some (p, u)) : mulO u b = some p ∧ (∀ d, dtO u = some d → d = 1 ∨ d = -1) ∧ ((smlB p b).2 = true → (smlB p b).1 = true) := by
  unfold rbO at h
  obtain ⟨g, hg, h⟩ := Option.bind_eq_some_iff.1 h
  obtain ⟨x, hx, h⟩ := Option.bind_eq_some_iff.1 h
  obtain ⟨p', hp, e⟩ := Option.map_eq_some_iff.1 h
  simp only [Prod.mk.injEq] at e
  obtain ⟨rfl, rfl⟩ := e
  obtain ⟨R, lu, hr, hR6, hxu, hlu, hnu, U⟩ := rdgO_um hx
  rw [hxu] at hp ⊢
  refine ⟨hp, fun d hd => um_det U hd, fun hk => ?_⟩
  obtain ⟨_, _, hc⟩ := mulO_in2 hp
  have hok := mulO_ok hp
  unfold smlB at hk ⊢
  cases h1 : basO p' with
  | none => rw [h1] at hk; simp at hk
  | some x1 =>
    cases h2 : basO b with
    | none => rw [h1, h2] at hk; simp at hk
    | some x2 =>
      obtain ⟨R2, C, l, rfl, hmb⟩ := basO_mat h2
      obtain rfl : R = R2 := by have : (R : Int) = R2 := hc; omega
      obtain ⟨pr, pc, pl, pcell⟩ := mulO_cells hp
      obtain ⟨r', c', l'⟩ := p'
      simp only at pr pc pl pcell
      subst pr pc
      have hmp : isMat R C l' = true := hok
      obtain ⟨T, _, D⟩ := basO_D hmp h1
      obtain ⟨T', _, D'⟩ := basO_D hmb h2
      have H : HerD R C (mt C l) (mt C l') (mt R lu) := ⟨fun i j hi hj => pcell i j hi hj, U.her.un⟩
      obtain ⟨rfl, _⟩ := D.eq D' fun v => (H.same (Nat.le_refl R) (fun i j h1 h2 => by omega) v).symm
      simp only [if_true]
      exact eqMat_self _ _ _
/-- names for the walk -/
theorem rbs_names (b : MX) : ∃ (P U : MX) (ok : Bool), (oM2 (rbO b)).1 = P ∧ (oM2 (rbO b)).2 = U ∧ (rbO b).isSome = ok ∧ P.l.length ≤ 576 ∧ U.l.length ≤ 576 ∧ (ok = false → P.l.length = 0 ∧ U.l.length = 0) ∧ (ok = true → mulO U b = some P ∧ (∀ d, dtO U = some d → d = 1 ∨ d = -1) ∧ ((smlB P b).2 = true → (smlB P b).1 = true)) := by
  refine ⟨_, _, _, rfl, rfl, rfl, rbO_len1, rbO_len2, fun h => ?_, fun h => ?_⟩
  · cases hr : rbO b with
    | none => exact ⟨rfl, rfl⟩
    | some x => rw [hr] at h; cases h
  · obtain ⟨⟨p, u⟩, hr⟩ := Option.isSome_iff_exists.1 h
    rw [hr]
    exact rbs_facts hr
end Go.Proofs.YtfilbjbogggaoaaGreat

/- Contracts: whether a matrix is unimodular, the program's and the laws'. -/
namespace Go.Proofs.YtfilbjbogggaoaaGreat
set_option linter.unusedSimpArgs false
set_option linter.unusedVariables false
open Go.RowKit
section
set_option maxHeartbeats 4000000
set_option maxRecDepth 10000
theorem iIsUni_c (r c : Int) (A : Option Addr) (l : List Int) (n cap : Nat) (d : Int) (w : World) (hn : l.length = n) (ha : Rd w A l) (hl : n ≤ 1099511627776) (hd : dtO ⟨r, c, l⟩ = some d) (h1 : d = 1 ∨ d = -1) :
    Calls Tryz.prog 87 #[.agg #[.int .i64 r, .int .i64 c, .slice A n cap]] w fun e w' => e = .returned (.bool true) ∧ Grows w w' := by
  have CD0 := fun W h => iDt_c r c A l n cap W hn h hl
  rw [hd] at CD0
  have CD := Lib.hid CD0
  have CA := Lib.hid fun W => absInt_c d W (by omega)
  have ea : absI d = 1 := by rcases h1 with rfl | rfl <;> decide
  rw [ea] at CA
  clear CD0 hd ea
  obtain ⟨w1, hw1⟩ : ∃ w1, w1 = w.alloc (.cells #[.int .i64 r, .int .i64 c, .slice A n cap] 26) := ⟨_, rfl⟩
  have ma : MBox w1 w.heap.size r c (.slice A n cap) := by rw [hw1]; exact MBox.mk_ _ _ _ _ _
  have HG : Grows w w1 := by rw [hw1]; exact bel0
  have HW1 := Lib.hid hw1
  have ha1 := ha.grows HG
  clear hw1
  go_enter Tryz.func87, Tryz.ntmps87
  go_wp2_with fail
  rw [← HW1.out]
  have ma_0 := ma.c0; have ma_1 := ma.c1; have ma_2 := ma.c2; have ma_l := ma.lt; have ma_f := ma.fz
  refine (CD.out _ (by exact Rd.grows ha1 (by exact bel0))).mono ?_; rintro e w2 ⟨rfl, g_w2⟩
  have s_w2 := Below.size g_w2; (try simp at s_w2)
  clear ma_0 ma_1 ma_2 ma_l ma_f
  replace ma := ma.grows (w' := w2) (by exact bel1 g_w2)
  have ma_0 := ma.c0; have ma_1 := ma.c1; have ma_2 := ma.c2; have ma_l := ma.lt; have ma_f := ma.fz
  replace ha1 := ha1.grows (w' := w2) (by exact bel1 g_w2)
  replace HG : Grows w w2 := by exact bel2 g_w2 HG
  have h_w2 := Below.size HG
  simp only [Option.getD_some, Option.isSome_some]
  go_wp2_with fail
  refine (CA.out _).mono ?_; rintro e w3 ⟨rfl, rfl⟩
  go_wp2_with fail
  go_ret
  exact ⟨rfl, by exact bel1 HG⟩
theorem lUni_c (r c : Int) (A : Option Addr) (l : List Int) (n cap : Nat) (w : World) (hn : l.length = n) (ha : Rd w A l) (hl : n ≤ 1099511627776) (hu : ∀ d, dtO ⟨r, c, l⟩ = some d → d = 1 ∨ d = -1) :
    Calls Tryz.prog 24 #[.agg #[.int .i64 r, .int .i64 c, .slice A n cap]] w fun e w' => e = .returned (.bool true) ∧ Grows w w' := by
  have CD0 := fun W h => sDt_c r c A l n cap W hn h hl
  obtain ⟨w1, hw1⟩ : ∃ w1, w1 = w.alloc (.cells #[.int .i64 r, .int .i64 c, .slice A n cap] 26) := ⟨_, rfl⟩
  have ma : MBox w1 w.heap.size r c (.slice A n cap) := by rw [hw1]; exact MBox.mk_ _ _ _ _ _
  have HG : Grows w w1 := by rw [hw1]; exact bel0
  have HW1 := Lib.hid hw1
  have ha1 := ha.grows HG
  cases hd : dtO ⟨r, c, l⟩ with
  | none =>
    rw [hd] at CD0
    have CD := Lib.hid CD0
    clear hw1 CD0 hd hu
    go_enter Tryz.func24, Tryz.ntmps24
    go_wp2_with fail
    rw [← HW1.out]
    have ma_0 := ma.c0; have ma_1 := ma.c1; have ma_2 := ma.c2; have ma_l := ma.lt; have ma_f := ma.fz
    refine (CD.out _ (by exact Rd.grows ha1 (by exact bel0))).mono ?_; rintro e w2 ⟨rfl, g_w2⟩
    have s_w2 := Below.size g_w2; (try simp at s_w2)
    clear ma_0 ma_1 ma_2 ma_l ma_f
    replace ma := ma.grows (w' := w2) (by exact bel1 g_w2)
    have ma_0 := ma.c0; have ma_1 := ma.c1; have ma_2 := ma.c2; have ma_l := ma.lt; have ma_f := ma.fz
    replace ha1 := ha1.grows (w' := w2) (by exact bel1 g_w2)
    replace HG : Grows w w2 := by exact bel2 g_w2 HG
    have h_w2 := Below.size HG
    simp only [Option.isSome_none]
    go_wp2_with fail
    go_ret
    exact ⟨rfl, by exact bel1 HG⟩
  | some d =>
    have h1 := hu d hd
    have CU := Lib.hid fun W h => iIsUni_c r c A l n cap d W hn h hl hd h1
    rw [hd] at CD0
    have CD := Lib.hid CD0
    clear hw1 CD0 hd hu
    rcases h1 with rfl | rfl
    all_goals
      go_enter Tryz.func24, Tryz.ntmps24
      go_wp2_with fail
      rw [← HW1.out]
      have ma_0 := ma.c0; have ma_1 := ma.c1; have ma_2 := ma.c2; have ma_l := ma.lt; have ma_f := ma.fz
      refine (CD.out _ (by exact Rd.grows ha1 (by exact bel0))).mono ?_; rintro e w2 ⟨rfl, g_w2⟩
      have s_w2 := Below.size g_w2; (try simp at s_w2)
      clear ma_0 ma_1 ma_2 ma_l ma_f
      replace ma := ma.grows (w' := w2) (by exact bel1 g_w2)
      have ma_0 := ma.c0; have ma_1 := ma.c1; have ma_2 := ma.c2; have ma_l := ma.lt; have ma_f := ma.fz
      replace ha1 := ha1.grows (w' := w2) (by exact bel1 g_w2)
      replace HG : Grows w w2 := by exact bel2 g_w2 HG
      have h_w2 := Below.size HG
      simp only [Option.getD_some, Option.isSome_some]
      go_wp2_with fail
      refine (CU.out _ (by exact Rd.grows ha1 (by exact bel0))).mono ?_; rintro e w3 ⟨rfl, g_w3⟩
      have s_w3 := Below.size g_w3; (try simp at s_w3)
      clear ma_0 ma_1 ma_2 ma_l ma_f
      replace ma := ma.grows (w' := w3) (by exact bel1 g_w3)
      have ma_0 := ma.c0; have ma_1 := ma.c1; have ma_2 := ma.c2; have ma_l := ma.lt; have ma_f := ma.fz
      replace ha1 := ha1.grows (w' := w3) (by exact bel1 g_w3)
      replace HG : Grows w w3 := by exact bel2 g_w3 HG
      have h_w3 := Below.size HG
      go_wp2_with fail
      go_ret
      exact ⟨rfl, by exact bel1 HG⟩
end
end Go.Proofs.YtfilbjbogggaoaaGreat
