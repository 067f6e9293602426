/- Contracts and lemmas, put together. -/
import Derived.Deep.DeepCutAuto
import Derived.Test.YtpgoefdeodoacaaPkA
import Derived.Test.YtpgoefdeodoacaaPkC
import Derived.Test.YtpgoefdeodoacaaPkD
/- Contracts: the coordinates of a projection. -/
namespace Go.Proofs.Ytpgoefdeodoacaa
set_option linter.unusedSimpArgs false
set_option linter.unusedVariables false
open Go.RowKit

def gmO (b : MX) : Option MX := if gmOk b.r b.c b.l then some ⟨b.r, b.r, gmL b.r.toNat b.c.toNat b.l⟩ else none
theorem gmO_eq (b : MX) : (oM (gmO b)).r = gmR b.r b.c b.l ∧ (oM (gmO b)).c = gmR b.r b.c b.l ∧ (oM (gmO b)).l = gmV b.r b.c b.l ∧ (gmO b).isSome = gmOk b.r b.c b.l := by
  unfold gmO gmR gmV
  cases gmOk b.r b.c b.l <;> simp [oM, MX.nil]
theorem gmO_length (b : MX) : (oM (gmO b)).l.length ≤ 576 := by rw [(gmO_eq b).2.2.1]; exact gmV_length _ _ _
def qsP (d : Int) (l : List Int) : Nat → List Q2
  | 0 => []
  | i + 1 => qsP d l i ++ [makeQ (nth l i) d]
theorem qsP_length (d : Int) (l : List Int) (i : Nat) : (qsP d l i).length = i := by
  induction i with
  | zero => rfl
  | succ i ih => rw [qsP]; simp [ih]
def colM (t : List Int) : MX := ⟨t.length, 1, t⟩
def prjO (b : MX) (t : List Int) : Option (List Q2) :=
  if (gmO b).isSome && decide ((t.length : Int) = b.c) && (adjO (oM (gmO b))).isSome && isDef (oM (gmO b)).r (oM (gmO b)).c (oM (gmO b)).l then
    (mulO b (colM t)).bind fun p => (mulO (oM (adjO (oM (gmO b)))) p).map fun q => qsP ((dtO (oM (gmO b))).getD 0) q.l q.l.length
  else none
theorem mulO_col {b p : MX} {t : List Int} (h : mulO b (colM t) = some p) : colM p.l = p := by
  have hok := mulO_ok h
  obtain ⟨R, C, e1, e2, _, _, hl, _⟩ := isMat_ok hok
  unfold mulO at h
  split at h
  · cases h
    simp only at e1 e2 hl
    have e3 : C = 1 := by have : (colM t).c = 1 := rfl; omega
    subst e3
    unfold colM
    simp only [MX.mk.injEq, and_true]
    simp only [colM] at hl ⊢
    omega
  · cases h
theorem prjO_length {b : MX} {t : List Int} : (oLQ (prjO b t)).length ≤ 576 := by
  cases h : prjO b t with
  | none => simp [oLQ]
  | some s =>
    unfold prjO at h
    split at h
    · obtain ⟨p, _, h2⟩ := Option.bind_eq_some_iff.1 h
      obtain ⟨q, h3, rfl⟩ := Option.map_eq_some_iff.1 h2
      show (qsP _ _ _).length ≤ _
      rw [qsP_length]
      exact oM_length (o := some q) fun m h => by cases h; exact mulO_ok h3
    · cases h
/-- the answer is a slice of fractions, in memory of its own, and whether there is one -/
def LQRet (o : Option (List Q2)) (w : World) (e : Ending) (w' : World) : Prop := ∃ v, e = .returned (.tuple #[v, .bool o.isSome]) ∧ OwnQ w' w.heap.size v (oLQ o) ∧ Grows w w'
theorem lqRet_out {o : Option (List Q2)} {w w' : World} {e : Ending} (h : LQRet o w e w') : ∃ v, e = .returned (.tuple #[v, .bool o.isSome]) ∧ OwnQ w' w.heap.size v (oLQ o) ∧ Grows w w' := h

section
set_option maxHeartbeats 2000000
theorem iGm_m (r c : Int) (A : Option Addr) (l : List Int) (n cap : Nat) (w : World) (hn : l.length = n) (ha : Rd w A l) (hl : n ≤ 1099511627776) :
    Calls Try.prog 96 #[.agg #[.int .i64 r, .int .i64 c, .slice A n cap]] w (MatRet (gmO ⟨r, c, l⟩) w) := by
  obtain ⟨e1, e2, e3, e4⟩ := gmO_eq ⟨r, c, l⟩
  unfold MatRet MatR
  rw [e1, e2, e3, e4]
  exact iGramOf_c r c A l n cap w hn ha hl
theorem sGm_m (r c : Int) (A : Option Addr) (l : List Int) (n cap : Nat) (w : World) (hn : l.length = n) (ha : Rd w A l) (hl : n ≤ 1099511627776) :
    Calls Try.prog 91 #[.agg #[.int .i64 r, .int .i64 c, .slice A n cap]] w (MatRet (gmO ⟨r, c, l⟩) w) := by
  obtain ⟨e1, e2, e3, e4⟩ := gmO_eq ⟨r, c, l⟩
  unfold MatRet MatR
  rw [e1, e2, e3, e4]
  exact sGramOf_c r c A l n cap w hn ha hl
theorem l14Times_c (r c : Int) (A T : Option Addr) (l t : List Int) (n cap k ct : Nat) (w : World) (hn : l.length = n) (ha : Rd w A l) (hl : n ≤ 1099511627776) (hk : t.length = k) (ht : Rd w T t) (hl2 : k ≤ 1099511627776) :
    Calls Try.prog 110 #[.agg #[.int .i64 r, .int .i64 c, .slice A n cap], .slice T k ct] w (LRet ((mulO ⟨r, c, l⟩ (colM t)).map fun m => m.l) w) := by
  have HM := fun W h h' => (sMul_m r c k 1 A T l t n k cap ct W hn hk h h' hl hl2).mono fun _ _ h => matRet_out h
  rw [show (⟨(k : Int), 1, t⟩ : MX) = colM t by unfold colM; rw [hk]] at HM
  obtain ⟨w1, hw1⟩ : ∃ w1, w1 = w.alloc (.cells #[.int .i64 r, .int .i64 c, .slice A n cap] 28) := ⟨_, rfl⟩
  have mg : MBox w1 w.heap.size r c (.slice A n cap) := by rw [hw1]; exact MBox.mk_ _ _ _ _ _
  have HG : Grows w w1 := by rw [hw1]; exact bel0
  have ha1 := ha.grows HG
  have ht1 := ht.grows HG
  have h_w1 := Below.size HG
  have HW1 := Lib.hid hw1
  generalize mulO ⟨r, c, l⟩ (colM t) = M at *
  have HM' := Lib.hid HM
  clear hw1 HM hn hk
  go_enter Try.func110, Try.ntmps110
  go_wp2_with fail
  rw [← HW1.out]
  refine (HM'.out _ (by exact Rd.grows ha1 (by exact bel0)) (by exact Rd.grows ht1 (by exact bel0))).mono ?_; rintro e w2 ⟨v2, rfl, o2, g_w2⟩
  have s_w2 := Below.size g_w2; (try simp at s_w2)
  replace ha1 := ha1.grows (w' := w2) (by exact bel1 g_w2)
  replace ht1 := ht1.grows (w' := w2) (by exact bel1 g_w2)
  replace HG : Grows w w2 := by exact bel2 g_w2 HG
  have h_w2 := Below.size HG
  obtain ⟨A2, c2, rfl, hr2, _⟩ := o2.val
  cases M with
  | none =>
    go_wp2_with fail
    go_ret2
    exact ⟨_, rfl, Own.new_ _ (by simp) (by first | omega | (simp; omega)), by exact bel1 HG⟩
  | some m =>
    have o2' : Own w2 w1.heap.size (.slice A2 m.l.length c2) m.l := o2
    go_wp2_with fail
    go_ret2
    exact ⟨_, rfl, (o2'.alloc _).less (by omega), by exact bel1 HG⟩
set_option maxRecDepth 100000 in
theorem sPrj_c (r c : Int) (A T : Option Addr) (b t : List Int) (n cap k ct : Nat) (w : World) (hn : b.length = n) (ha : Rd w A b) (hl : n ≤ 1099511627776) (hk : t.length = k) (ht : Rd w T t) (hl2 : k ≤ 1099511627776) :
    Calls Try.prog 52 #[.agg #[.int .i64 r, .int .i64 c, .slice A n cap], .slice T k ct] w (LQRet (prjO ⟨r, c, b⟩ t) w) := by
  have CG := fun W h => (sGm_m r c A b n cap W hn h hl).mono fun _ _ h => matRet_out h
  have CT := fun W h h' => (l14Times_c r c A T b t n cap k ct W hn h hl hk h' hl2).mono fun _ _ h => lRet_out h
  have hgl := gmO_length ⟨r, c, b⟩
  obtain ⟨w1, hw1⟩ : ∃ w1, w1 = w.alloc (.cells #[.int .i64 r, .int .i64 c, .slice A n cap] 28) := ⟨_, rfl⟩
  have mg : MBox w1 w.heap.size r c (.slice A n cap) := by rw [hw1]; exact MBox.mk_ _ _ _ _ _
  have HG : Grows w w1 := by rw [hw1]; exact bel0
  have ha1 := ha.grows HG
  have ht1 := ht.grows HG
  have h_w1 := Below.size HG
  have HW1 := Lib.hid hw1
  obtain ⟨RES, hRES⟩ : ∃ x, x = prjO ⟨r, c, b⟩ t := ⟨_, rfl⟩
  rw [← hRES]
  unfold prjO at hRES
  rw [hk] at hRES
  simp only at hRES
  have hml := fun p (h : mulO ⟨r, c, b⟩ (colM t) = some p) => (show p.l.length ≤ 576 ∧ colM p.l = p from ⟨oM_length (o := some p) fun m h2 => by cases h2; exact mulO_ok h, mulO_col h⟩)
  generalize gmO ⟨r, c, b⟩ = GO at *
  have CA := fun W A cp h => (sAdj_c (oM GO).r (oM GO).c A (oM GO).l (oM GO).l.length cp W rfl h (by omega)).mono fun _ _ h => matRet_out h
  have CF := fun W A cp h => sIsDef_c (oM GO).r (oM GO).c A (oM GO).l (oM GO).l.length cp W rfl h (by omega)
  have CD := fun W A cp h => sDt_c (oM GO).r (oM GO).c A (oM GO).l (oM GO).l.length cp W rfl h (by omega)
  have hal : (oM (adjO (oM GO))).l.length ≤ 576 := oM_length fun m h => adjO_ok h
  have CT2 := fun W A cp T t k ct h1 h2 h3 h4 => (l14Times_c (oM (adjO (oM GO))).r (oM (adjO (oM GO))).c A T (oM (adjO (oM GO))).l t (oM (adjO (oM GO))).l.length cp k ct W rfl h1 (by omega) h2 h3 h4).mono fun _ _ h => lRet_out h
  change ∀ W A cp, Rd W A (oM GO).l → Calls Try.prog 108 #[.agg #[.int .i64 (oM GO).r, .int .i64 (oM GO).c, .slice A (oM GO).l.length cp]] W (fun e w' => ∃ v, e = .returned (.tuple #[.agg #[.int .i64 (oM (adjO (oM GO))).r, .int .i64 (oM (adjO (oM GO))).c, v], .bool (adjO (oM GO)).isSome]) ∧ Own w' W.heap.size v (oM (adjO (oM GO))).l ∧ Grows W w') at CA
  generalize adjO (oM GO) = AO at *
  generalize isDef (oM GO).r (oM GO).c (oM GO).l = DF at *
  change ∀ W A cp, Rd W A (oM GO).l → Calls Try.prog 109 #[.agg #[.int .i64 (oM GO).r, .int .i64 (oM GO).c, .slice A (oM GO).l.length cp]] W (fun e w' => e = .returned (.tuple #[.int .i64 ((dtO (oM GO)).getD 0), .bool (dtO (oM GO)).isSome]) ∧ Grows W w') at CD
  generalize (dtO (oM GO)).getD 0 = D at *
  generalize (dtO (oM GO)).isSome = DK at *
  generalize mulO ⟨r, c, b⟩ (colM t) = PO at *
  have HR := Lib.hid hRES
  have CG' := Lib.hid CG
  have CT' := Lib.hid CT
  have CA' := Lib.hid CA
  have CF' := Lib.hid CF
  have CD' := Lib.hid CD
  have CT2' := Lib.hid CT2
  have HML := Lib.hid hml
  clear hw1 hRES CG CT CA CF CD CT2 hn hk hml
  go_enter Try.func52, Try.ntmps52
  go_wp2_with fail
  rw [← HW1.out]
  have mg_0 := mg.c0; have mg_1 := mg.c1; have mg_2 := mg.c2; have mg_l := mg.lt; have mg_f := mg.fz
  refine (CG'.out _ (by exact Rd.grows ha1 (by exact bel0))).mono ?_; rintro e w2 ⟨v2, rfl, o2, g_w2⟩
  have s_w2 := Below.size g_w2; (try simp at s_w2)
  clear mg_0 mg_1 mg_2 mg_l mg_f
  replace mg := mg.grows (w' := w2) (by exact bel1 g_w2)
  have mg_0 := mg.c0; have mg_1 := mg.c1; have mg_2 := mg.c2; have mg_l := mg.lt; have mg_f := mg.fz
  replace ha1 := ha1.grows (w' := w2) (by exact bel1 g_w2)
  replace ht1 := ht1.grows (w' := w2) (by exact bel1 g_w2)
  replace HG : Grows w w2 := by exact bel2 g_w2 HG
  have h_w2 := Below.size HG
  obtain ⟨A2, c2, rfl, hr2, _⟩ := o2.val
  go_wp2_with fail
  refine (CA'.out _ _ _ (by exact Rd.grows hr2 (by exact bel0))).mono ?_; rintro e w3 ⟨v3, rfl, o3, g_w3⟩
  have s_w3 := Below.size g_w3; (try simp at s_w3)
  clear mg_0 mg_1 mg_2 mg_l mg_f
  replace mg := mg.grows (w' := w3) (by exact bel1 g_w3)
  have mg_0 := mg.c0; have mg_1 := mg.c1; have mg_2 := mg.c2; have mg_l := mg.lt; have mg_f := mg.fz
  replace ha1 := ha1.grows (w' := w3) (by exact bel1 g_w3)
  replace ht1 := ht1.grows (w' := w3) (by exact bel1 g_w3)
  replace hr2 := hr2.grows (w' := w3) (by exact bel1 g_w3)
  have mG : MBox w3 (w2.heap.size) (oM GO).r (oM GO).c (.slice A2 (oM GO).l.length c2) := MBox.grows (MBox.new_ w2 (oM GO).r (oM GO).c (.slice A2 (oM GO).l.length c2) 28 (by simp)) (w' := w3) (by exact bel1 g_w3)
  have mG_0 := mG.c0; have mG_1 := mG.c1; have mG_2 := mG.c2; have mG_l := mG.lt; have mG_f := mG.fz
  replace HG : Grows w w3 := by exact bel2 g_w3 HG
  have h_w3 := Below.size HG
  obtain ⟨A3, c3, rfl, hr3, _⟩ := o3.val
  have hbi : ∀ x : Bool, (GO.isSome && x && AO.isSome && false) = false := fun x => by simp
  cases hgo : GO.isSome
  · obtain rfl : RES = none := by rw [HR.out, hgo]; simp
    clear hgo hbi
    go_wp2_with fail
    go_ret2
    exact ⟨_, rfl, OwnQ.new_ _ (by simp) (by first | omega | (simp; omega)), by exact bel1 HG⟩
  · cases hao : AO.isSome
    · obtain rfl : RES = none := by rw [HR.out, hao]; simp
      clear hgo hao hbi
      go_wp2_with fail
      go_ret2
      exact ⟨_, rfl, OwnQ.new_ _ (by simp) (by first | omega | (simp; omega)), by exact bel1 HG⟩
    · have HR1 := Lib.hid (HR.out.trans (by rw [hgo, hao]))
      clear hgo hao hbi
      go_wp2_with fail
      refine (CF'.out _ _ _ (by exact Rd.grows hr2 (by exact bel0))).mono ?_; rintro e w4 ⟨rfl, g_w4⟩
      have s_w4 := Below.size g_w4; (try simp at s_w4)
      clear mg_0 mg_1 mg_2 mg_l mg_f
      replace mg := mg.grows (w' := w4) (by exact bel1 g_w4)
      have mg_0 := mg.c0; have mg_1 := mg.c1; have mg_2 := mg.c2; have mg_l := mg.lt; have mg_f := mg.fz
      replace ha1 := ha1.grows (w' := w4) (by exact bel1 g_w4)
      replace ht1 := ht1.grows (w' := w4) (by exact bel1 g_w4)
      replace hr2 := hr2.grows (w' := w4) (by exact bel1 g_w4)
      clear mG_0 mG_1 mG_2 mG_l mG_f
      replace mG := mG.grows (w' := w4) (by exact bel1 g_w4)
      have mG_0 := mG.c0; have mG_1 := mG.c1; have mG_2 := mG.c2; have mG_l := mG.lt; have mG_f := mG.fz
      replace hr3 := hr3.grows (w' := w4) (by exact bel1 g_w4)
      have mA : MBox w4 (w3.heap.size) (oM AO).r (oM AO).c (.slice A3 (oM AO).l.length c3) := MBox.grows (MBox.new_ w3 (oM AO).r (oM AO).c (.slice A3 (oM AO).l.length c3) 28 (by simp)) (w' := w4) (by exact bel1 g_w4)
      have mA_0 := mA.c0; have mA_1 := mA.c1; have mA_2 := mA.c2; have mA_l := mA.lt; have mA_f := mA.fz
      replace HG : Grows w w4 := by exact bel2 g_w4 HG
      have h_w4 := Below.size HG
      cases DF
      · obtain rfl : RES = none := by rw [HR1.out]; simp
        go_wp2_with fail
        go_ret2
        exact ⟨_, rfl, OwnQ.new_ _ (by simp) (by omega), by exact bel1 HG⟩
      · by_cases hkc : (k : Int) = c
        · have hkc' : ((k : Int) != c) = false := by simp [hkc]
          have HR2 := Lib.hid (show RES = _ from HR1.out.trans (by rw [decide_eq_true hkc]))
          have HKC := Lib.hid hkc
          clear hkc
          go_wp2_with fail
          refine (CD'.out _ _ _ (by exact Rd.grows hr2 (by exact bel0))).mono ?_; rintro e w5 ⟨rfl, g_w5⟩
          have s_w5 := Below.size g_w5; (try simp at s_w5)
          clear mg_0 mg_1 mg_2 mg_l mg_f
          replace mg := mg.grows (w' := w5) (by exact bel1 g_w5)
          have mg_0 := mg.c0; have mg_1 := mg.c1; have mg_2 := mg.c2; have mg_l := mg.lt; have mg_f := mg.fz
          replace ha1 := ha1.grows (w' := w5) (by exact bel1 g_w5)
          replace ht1 := ht1.grows (w' := w5) (by exact bel1 g_w5)
          replace hr2 := hr2.grows (w' := w5) (by exact bel1 g_w5)
          clear mG_0 mG_1 mG_2 mG_l mG_f
          replace mG := mG.grows (w' := w5) (by exact bel1 g_w5)
          have mG_0 := mG.c0; have mG_1 := mG.c1; have mG_2 := mG.c2; have mG_l := mG.lt; have mG_f := mG.fz
          replace hr3 := hr3.grows (w' := w5) (by exact bel1 g_w5)
          clear mA_0 mA_1 mA_2 mA_l mA_f
          replace mA := mA.grows (w' := w5) (by exact bel1 g_w5)
          have mA_0 := mA.c0; have mA_1 := mA.c1; have mA_2 := mA.c2; have mA_l := mA.lt; have mA_f := mA.fz
          replace HG : Grows w w5 := by exact bel2 g_w5 HG
          have h_w5 := Below.size HG
          go_wp2_with fail
          refine (CT'.out _ (by exact Rd.grows ha1 (by exact bel0)) (by exact Rd.grows ht1 (by exact bel0))).mono ?_; rintro e w6 ⟨v6, rfl, o6, g_w6⟩
          have s_w6 := Below.size g_w6; (try simp at s_w6)
          clear mg_0 mg_1 mg_2 mg_l mg_f
          replace mg := mg.grows (w' := w6) (by exact bel1 g_w6)
          have mg_0 := mg.c0; have mg_1 := mg.c1; have mg_2 := mg.c2; have mg_l := mg.lt; have mg_f := mg.fz
          replace ha1 := ha1.grows (w' := w6) (by exact bel1 g_w6)
          replace ht1 := ht1.grows (w' := w6) (by exact bel1 g_w6)
          replace hr2 := hr2.grows (w' := w6) (by exact bel1 g_w6)
          clear mG_0 mG_1 mG_2 mG_l mG_f
          replace mG := mG.grows (w' := w6) (by exact bel1 g_w6)
          have mG_0 := mG.c0; have mG_1 := mG.c1; have mG_2 := mG.c2; have mG_l := mG.lt; have mG_f := mG.fz
          replace hr3 := hr3.grows (w' := w6) (by exact bel1 g_w6)
          clear mA_0 mA_1 mA_2 mA_l mA_f
          replace mA := mA.grows (w' := w6) (by exact bel1 g_w6)
          have mA_0 := mA.c0; have mA_1 := mA.c1; have mA_2 := mA.c2; have mA_l := mA.lt; have mA_f := mA.fz
          replace HG : Grows w w6 := by exact bel2 g_w6 HG
          have h_w6 := Below.size HG
          obtain ⟨A6, c6, rfl, hr6, _⟩ := o6.val
          cases PO with
          | none =>
            obtain rfl : RES = none := HR2.out
            go_wp2_with fail
            go_ret2
            exact ⟨_, rfl, OwnQ.new_ _ (by simp) (by omega), by exact bel1 HG⟩
          | some p =>
            obtain ⟨hpl, hpc⟩ := HML.out p rfl
            have HR3 := Lib.hid (show RES = (mulO (oM AO) p).map fun q => qsP D q.l q.l.length from HR2.out)
            have CQ := fun W A cp Tt ct h1 h2 => CT2'.out W A cp Tt p.l p.l.length ct h1 rfl h2 (by omega)
            rw [hpc] at CQ
            change ∀ W A cp Tt ct, Rd W A (oM AO).l → Rd W Tt p.l → Calls Try.prog 110 #[.agg #[.int .i64 (oM AO).r, .int .i64 (oM AO).c, .slice A (oM AO).l.length cp], .slice Tt p.l.length ct] W (fun e w' => ∃ v, e = .returned (.tuple #[v, .bool ((mulO (oM AO) p).map fun m => m.l).isSome]) ∧ Own w' W.heap.size v (oL ((mulO (oM AO) p).map fun m => m.l)) ∧ Grows W w') at CQ
            have hql : (oL ((mulO (oM AO) p).map fun m => m.l)).length ≤ 576 := by
              cases hq : mulO (oM AO) p with
              | none => simp [oL]
              | some q => exact oM_length (o := some q) fun m h2 => by cases h2; exact mulO_ok hq
            have hLR : oLQ RES = qsP D (oL ((mulO (oM AO) p).map fun m => m.l)) (oL ((mulO (oM AO) p).map fun m => m.l)).length ∧ RES.isSome = ((mulO (oM AO) p).map fun m => m.l).isSome := by
              rw [HR3.out]; cases mulO (oM AO) p <;> exact ⟨rfl, rfl⟩
            have hr6' : Rd w6 A6 p.l := hr6
            generalize oL ((mulO (oM AO) p).map fun m => m.l) = L at *
            generalize ((mulO (oM AO) p).map fun m => m.l).isSome = OK at *
            have HLR := Lib.hid hLR
            have CQ' := Lib.hid CQ
            clear CQ hLR hpc HR3 HR2 HR1 HR
            go_wp2_with fail
            refine (CQ'.out _ _ _ _ _ (by exact Rd.grows hr3 (by exact bel0)) (by exact Rd.grows hr6' (by exact bel0))).mono ?_; rintro e w7 ⟨v7, rfl, o7, g_w7⟩
            have s_w7 := Below.size g_w7; (try simp at s_w7)
            clear mg_0 mg_1 mg_2 mg_l mg_f
            replace mg := mg.grows (w' := w7) (by exact bel1 g_w7)
            have mg_0 := mg.c0; have mg_1 := mg.c1; have mg_2 := mg.c2; have mg_l := mg.lt; have mg_f := mg.fz
            replace ha1 := ha1.grows (w' := w7) (by exact bel1 g_w7)
            replace ht1 := ht1.grows (w' := w7) (by exact bel1 g_w7)
            replace hr2 := hr2.grows (w' := w7) (by exact bel1 g_w7)
            clear mG_0 mG_1 mG_2 mG_l mG_f
            replace mG := mG.grows (w' := w7) (by exact bel1 g_w7)
            have mG_0 := mG.c0; have mG_1 := mG.c1; have mG_2 := mG.c2; have mG_l := mG.lt; have mG_f := mG.fz
            replace hr3 := hr3.grows (w' := w7) (by exact bel1 g_w7)
            clear mA_0 mA_1 mA_2 mA_l mA_f
            replace mA := mA.grows (w' := w7) (by exact bel1 g_w7)
            have mA_0 := mA.c0; have mA_1 := mA.c1; have mA_2 := mA.c2; have mA_l := mA.lt; have mA_f := mA.fz
            replace hr6' := hr6'.grows (w' := w7) (by exact bel1 g_w7)
            replace HG : Grows w w7 := by exact bel2 g_w7 HG
            have h_w7 := Below.size HG
            obtain ⟨A7, c7, rfl, hr7, _⟩ := o7.val
            clear o2 o3 o6 o7
            clear mg_0 mg_1 mg_2 mg_l mg_f
            clear mG_0 mG_1 mG_2 mG_l mG_f
            clear mA_0 mA_1 mA_2 mA_l mA_f
            go_wp2_with fail
            go_loopw [16, 17] (fun o i wr => ∃ (I : Nat), i = .int .i64 I ∧ I ≤ L.length ∧ OwnQ wr w7.heap.size o (qsP D L I) ∧ Grows w7 wr) (fun _ i _ => L.length - (intOf i).toNat)
            case atStart => exact ⟨0, rfl, Nat.zero_le _, OwnQ.new_ _ rfl (Nat.le_refl _), by exact bel0⟩
            case round =>
              obtain ⟨I, rfl, hI, ho, hg⟩ := hrel
              obtain ⟨A4, c4, rfl, _, _⟩ := ho.val
              have hsl := qsP_length D L I
              have hsw := Below.size hg
              by_cases hlt : I < L.length
              · have hd := hr7.grows hg
                obtain ⟨ab, off, rfl, hbs, hcell⟩ := hd.at_ I hlt
                have i1 : (I : Int) < (L.length : Int) := by omega
                have CM := Lib.hid fun W => sMake_c (nth L I) D W
                have HNX := Lib.hid (show qsP D L (I + 1) = qsP D L I ++ [makeQ (nth L I) D] from rfl)
                generalize makeQ (nth L I) D = z at *
                generalize nth L I = x at *
                have HSL := Lib.hid hsl
                clear hsl
                go_wp2_with fail
                refine (CM.out _).mono ?_; rintro e w8 ⟨rfl, g8⟩
                have ho8 := ho.grows g8
                have hs8 := Below.size (show Grows w7 w8 by exact bel2 g8 hg)
                go_wp2_with (at_builtin; refine wpList_appQ1 rfl (.tmp 74) (.tmp 81) rfl _ z w7.heap.size _ (qsP D L I) (by rfl) ho8 (by rfl) (by have := HSL.out; omega) (by omega) ?_; intro v9 w9 ho9 hg9 hv9)
                have hb9 := below_appR ho8 (by omega) hg9
                clear hg9
                go_wp2_with fail
                go_round
                case rel => exact ⟨I + 1, by go_num, by omega, by rw [HNX.out]; exact ho9, Below.trans (show Grows w7 w8 by exact bel2 g8 hg) hb9⟩
                case measure => simp [intOf]; omega
              · obtain rfl : I = L.length := by omega
                go_wp2_with fail
                go_ret2
                have ho' := ho.less (B' := w.heap.size) (by omega)
                exact ⟨_, by rw [HLR.out.2]; rfl, by rw [HLR.out.1]; exact ho', by exact bel2 hg HG⟩
        · have hkc' : ((k : Int) != c) = true := by simpa using hkc
          obtain rfl : RES = none := by rw [HR1.out, decide_eq_false hkc]; simp
          clear hkc
          go_wp2_with fail
          go_ret2
          exact ⟨_, rfl, OwnQ.new_ _ (by simp) (by omega), by exact bel1 HG⟩
set_option maxRecDepth 100000 in
theorem iPrj_c (r c : Int) (A T : Option Addr) (b t : List Int) (n cap k ct : Nat) (w : World) (hn : b.length = n) (ha : Rd w A b) (hl : n ≤ 1099511627776) (hk : t.length = k) (ht : Rd w T t) (hl2 : k ≤ 1099511627776) :
    Calls Try.prog 54 #[.agg #[.int .i64 r, .int .i64 c, .slice A n cap], .slice T k ct] w (LQRet (prjO ⟨r, c, b⟩ t) w) := by
  have CG := fun W h => (iGm_m r c A b n cap W hn h hl).mono fun _ _ h => matRet_out h
  have CO := Lib.hid fun W h => columnOf_c T t k ct W hk h hl2
  have CM := fun W B cb h h' => (iMul_m r c k 1 A B b t n k cap cb W hn hk h h' hl hl2).mono fun _ _ h => matRet_out h
  rw [show (⟨(k : Int), 1, t⟩ : MX) = colM t by unfold colM; rw [hk]] at CM
  have hgl := gmO_length ⟨r, c, b⟩
  obtain ⟨w1, hw1⟩ : ∃ w1, w1 = w.alloc (.cells #[.int .i64 r, .int .i64 c, .slice A n cap] 28) := ⟨_, rfl⟩
  have mg : MBox w1 w.heap.size r c (.slice A n cap) := by rw [hw1]; exact MBox.mk_ _ _ _ _ _
  have HG : Grows w w1 := by rw [hw1]; exact bel0
  have ha1 := ha.grows HG
  have ht1 := ht.grows HG
  have h_w1 := Below.size HG
  have HW1 := Lib.hid hw1
  obtain ⟨RES, hRES⟩ : ∃ x, x = prjO ⟨r, c, b⟩ t := ⟨_, rfl⟩
  rw [← hRES]
  unfold prjO at hRES
  rw [hk] at hRES
  simp only at hRES
  have hml := fun p (h : mulO ⟨r, c, b⟩ (colM t) = some p) => (show p.l.length ≤ 576 from oM_length (o := some p) fun m h2 => by cases h2; exact mulO_ok h)
  generalize gmO ⟨r, c, b⟩ = GO at *
  have CA := fun W A cp h => (iAdj_c (oM GO).r (oM GO).c A (oM GO).l (oM GO).l.length cp W rfl h (by omega)).mono fun _ _ h => matRet_out h
  have CF := fun W A cp h1 h2 h => iIsDef_c (oM GO).r (oM GO).c A (oM GO).l (oM GO).l.length cp W rfl h1 h2 h (by omega)
  have CD := fun W A cp h => iDt_c (oM GO).r (oM GO).c A (oM GO).l (oM GO).l.length cp W rfl h (by omega)
  have hal : (oM (adjO (oM GO))).l.length ≤ 576 := oM_length fun m h => adjO_ok h
  have CQ := fun W A cp (p : MX) B cb h h' (hp : p.l.length ≤ 576) => (iMul_m (oM (adjO (oM GO))).r (oM (adjO (oM GO))).c p.r p.c A B (oM (adjO (oM GO))).l p.l (oM (adjO (oM GO))).l.length p.l.length cp cb W rfl rfl h h' (by omega) (by omega)).mono fun _ _ h => matRet_out h
  change ∀ W A cp, Rd W A (oM GO).l → Calls Try.prog 113 #[.agg #[.int .i64 (oM GO).r, .int .i64 (oM GO).c, .slice A (oM GO).l.length cp]] W (fun e w' => ∃ v, e = .returned (.tuple #[.agg #[.int .i64 (oM (adjO (oM GO))).r, .int .i64 (oM (adjO (oM GO))).c, v], .bool (adjO (oM GO)).isSome]) ∧ Own w' W.heap.size v (oM (adjO (oM GO))).l ∧ Grows W w') at CA
  change ∀ W A cp (p : MX) B cb, Rd W A (oM (adjO (oM GO))).l → Rd W B p.l → p.l.length ≤ 576 → Calls Try.prog 72 #[.agg #[.int .i64 (oM (adjO (oM GO))).r, .int .i64 (oM (adjO (oM GO))).c, .slice A (oM (adjO (oM GO))).l.length cp], .agg #[.int .i64 p.r, .int .i64 p.c, .slice B p.l.length cb]] W (fun e w' => ∃ v, e = .returned (.tuple #[.agg #[.int .i64 (oM (mulO (oM (adjO (oM GO))) p)).r, .int .i64 (oM (mulO (oM (adjO (oM GO))) p)).c, v], .bool (mulO (oM (adjO (oM GO))) p).isSome]) ∧ Own w' W.heap.size v (oM (mulO (oM (adjO (oM GO))) p)).l ∧ Grows W w') at CQ
  generalize adjO (oM GO) = AO at *
  generalize isDef (oM GO).r (oM GO).c (oM GO).l = DF at *
  change ∀ W A cp, Rd W A (oM GO).l → Calls Try.prog 115 #[.agg #[.int .i64 (oM GO).r, .int .i64 (oM GO).c, .slice A (oM GO).l.length cp]] W (fun e w' => e = .returned (.tuple #[.int .i64 ((dtO (oM GO)).getD 0), .bool (dtO (oM GO)).isSome]) ∧ Grows W w') at CD
  generalize (dtO (oM GO)).getD 0 = D at *
  generalize (dtO (oM GO)).isSome = DK at *
  generalize mulO ⟨r, c, b⟩ (colM t) = PO at *
  have HR := Lib.hid hRES
  have CG' := Lib.hid CG
  have CM' := Lib.hid CM
  have CA' := Lib.hid CA
  have CF' := Lib.hid CF
  have CD' := Lib.hid CD
  have CQ' := Lib.hid CQ
  have HML := Lib.hid hml
  have HT := Lib.hid hk
  clear hw1 hRES CG CM CA CF CD CQ hn hk hml
  go_enter Try.func54, Try.ntmps54
  go_wp2_with fail
  rw [← HW1.out]
  have mg_0 := mg.c0; have mg_1 := mg.c1; have mg_2 := mg.c2; have mg_l := mg.lt; have mg_f := mg.fz
  refine (CG'.out _ (by exact Rd.grows ha1 (by exact bel0))).mono ?_; rintro e w2 ⟨v2, rfl, o2, g_w2⟩
  have s_w2 := Below.size g_w2; (try simp at s_w2)
  clear mg_0 mg_1 mg_2 mg_l mg_f
  replace mg := mg.grows (w' := w2) (by exact bel1 g_w2)
  have mg_0 := mg.c0; have mg_1 := mg.c1; have mg_2 := mg.c2; have mg_l := mg.lt; have mg_f := mg.fz
  replace ha1 := ha1.grows (w' := w2) (by exact bel1 g_w2)
  replace ht1 := ht1.grows (w' := w2) (by exact bel1 g_w2)
  replace HG : Grows w w2 := by exact bel2 g_w2 HG
  have h_w2 := Below.size HG
  obtain ⟨A2, c2, rfl, hr2, _⟩ := o2.val
  have hcp2 := o2.caps
  cases hgo : GO.isSome
  · obtain rfl : RES = none := by rw [HR.out, hgo]; simp
    clear hgo
    go_wp2_with fail
    go_ret2
    exact ⟨_, rfl, OwnQ.new_ _ (by simp) (by first | omega | (simp; omega)), by exact bel1 HG⟩
  · by_cases hkc : (k : Int) = c
    · have hkc' : ((k : Int) != c) = false := by simp [hkc]
      have HR1 := Lib.hid (HR.out.trans (by rw [hgo, decide_eq_true hkc]))
      clear hgo hkc
      go_wp2_with fail
      refine (CA'.out _ _ _ (by exact Rd.grows hr2 (by exact bel0))).mono ?_; rintro e w3 ⟨v3, rfl, o3, g_w3⟩
      have s_w3 := Below.size g_w3; (try simp at s_w3)
      clear mg_0 mg_1 mg_2 mg_l mg_f
      replace mg := mg.grows (w' := w3) (by exact bel1 g_w3)
      have mg_0 := mg.c0; have mg_1 := mg.c1; have mg_2 := mg.c2; have mg_l := mg.lt; have mg_f := mg.fz
      replace ha1 := ha1.grows (w' := w3) (by exact bel1 g_w3)
      replace ht1 := ht1.grows (w' := w3) (by exact bel1 g_w3)
      replace hr2 := hr2.grows (w' := w3) (by exact bel1 g_w3)
      have mG : MBox w3 (w2.heap.size) (oM GO).r (oM GO).c (.slice A2 (oM GO).l.length c2) := MBox.grows (MBox.new_ w2 (oM GO).r (oM GO).c (.slice A2 (oM GO).l.length c2) 28 (by simp)) (w' := w3) (by exact bel1 g_w3)
      have mG_0 := mG.c0; have mG_1 := mG.c1; have mG_2 := mG.c2; have mG_l := mG.lt; have mG_f := mG.fz
      replace HG : Grows w w3 := by exact bel2 g_w3 HG
      have h_w3 := Below.size HG
      obtain ⟨A3, c3, rfl, hr3, _⟩ := o3.val
      cases hao : AO.isSome
      · obtain rfl : RES = none := by rw [HR1.out, hao]; simp
        clear hao
        go_wp2_with fail
        go_ret2
        exact ⟨_, rfl, OwnQ.new_ _ (by simp) (by first | omega | (simp; omega)), by exact bel1 HG⟩
      · have HR2 := Lib.hid (HR1.out.trans (by rw [hao]))
        clear hao
        go_wp2_with fail
        refine (CF'.out _ _ _ hcp2.2.1 hcp2.2.2 (by exact Rd.grows hr2 (by exact bel0))).mono ?_; rintro e w4 ⟨rfl, g_w4⟩
        have s_w4 := Below.size g_w4; (try simp at s_w4)
        clear mg_0 mg_1 mg_2 mg_l mg_f
        replace mg := mg.grows (w' := w4) (by exact bel1 g_w4)
        have mg_0 := mg.c0; have mg_1 := mg.c1; have mg_2 := mg.c2; have mg_l := mg.lt; have mg_f := mg.fz
        replace ha1 := ha1.grows (w' := w4) (by exact bel1 g_w4)
        replace ht1 := ht1.grows (w' := w4) (by exact bel1 g_w4)
        replace hr2 := hr2.grows (w' := w4) (by exact bel1 g_w4)
        clear mG_0 mG_1 mG_2 mG_l mG_f
        replace mG := mG.grows (w' := w4) (by exact bel1 g_w4)
        have mG_0 := mG.c0; have mG_1 := mG.c1; have mG_2 := mG.c2; have mG_l := mG.lt; have mG_f := mG.fz
        replace hr3 := hr3.grows (w' := w4) (by exact bel1 g_w4)
        have mA : MBox w4 (w3.heap.size) (oM AO).r (oM AO).c (.slice A3 (oM AO).l.length c3) := MBox.grows (MBox.new_ w3 (oM AO).r (oM AO).c (.slice A3 (oM AO).l.length c3) 28 (by simp)) (w' := w4) (by exact bel1 g_w4)
        have mA_0 := mA.c0; have mA_1 := mA.c1; have mA_2 := mA.c2; have mA_l := mA.lt; have mA_f := mA.fz
        replace HG : Grows w w4 := by exact bel2 g_w4 HG
        have h_w4 := Below.size HG
        cases DF
        · obtain rfl : RES = none := by rw [HR2.out]; simp
          go_wp2_with fail
          go_ret2
          exact ⟨_, rfl, OwnQ.new_ _ (by simp) (by first | omega | (simp; omega)), by exact bel1 HG⟩
        · have HR3 := Lib.hid (show RES = PO.bind fun p => (mulO (oM AO) p).map fun q => qsP D q.l q.l.length from HR2.out)
          clear o2 o3
          go_wp2_with fail
          go_upto_region 7 with fail
          go_cut [10, 11] (fun s10 s11 wx => ∃ (g : Nat) (A7 : Option Addr) (c7 : Nat), s10 = .pointer (some ⟨g, 0, none⟩) ∧ s11 = .bool PO.isSome ∧ Own wx w4.heap.size (.slice A7 (oM PO).l.length c7) (oM PO).l ∧ Grows w4 wx ∧ MBox wx g (oM PO).r (oM PO).c (.slice A7 (oM PO).l.length c7))
          case first =>
            go_region_held3 (fun W => W.cell? ⟨w.heap.size, 0, none⟩ = some (.int .i64 r) ∧ W.cell? ⟨w.heap.size, 1, none⟩ = some (.int .i64 c) ∧ W.cell? ⟨w.heap.size, 2, none⟩ = some (.slice A n cap)) ((refine MBox.cells (mg.grows ?_); first | exact bel2 g7 g6 | exact bel1 g6 | exact bel0))
              (first
               | (go_at_call 114; refine (CO.out _ (by exact Rd.grows ht1 (by exact bel0))).mono ?_; rintro e w6 ⟨v6, rfl, o6, g6⟩; obtain ⟨A6, c6, rfl, hr6, _⟩ := o6.val; rw [HT.out]; have z6 := Below.size g6; (try simp at z6); (try (have q := (MBox.mk_ w4 0 0 (.slice none 0 0) 28).grows (w' := w6) (Grows.trans (show Grows _ _ from (Below.refl _ _).drew) g6))))
               | (go_at_call 72; refine (CM'.out _ _ _ (by exact (Rd.grows ha1 (by exact bel1 g6))) (by exact (Rd.grows hr6 (by exact bel0)))).mono ?_; rintro e w7 ⟨v7, rfl, o7, g7⟩; obtain ⟨A7, c7, rfl, _, _⟩ := o7.val; have z7 := Below.size g7; (try simp at z7); (first | (replace q := q.grows g7) | (have q := MBox.grows (MBox.mk_ w6 0 0 (.slice none 0 0) 28) g7) | skip); (try (obtain ⟨q0, q1, q2⟩ := q.cells; have qf := q.fz; have ql := q.lt))))
            all_goals
              go_wp2_with fail
              go_meet
              exact ⟨_, _, _, rfl, rfl, by (have hb_ := fun k hk => World.ownsRow.lt o7 k hk; have ho_ := Own.less o7 (show w4.heap.size ≤ _ by (try simp); omega); (repeat' (first | with_reducible exact ho_ | with_reducible refine Own.alloc ?_ _ | with_reducible refine Own.drew ?_ | with_reducible refine Own.far ?_ ?_ _)); all_goals first | (intro k hk; have := hb_ k hk; (try simp at this); (try simp); omega) | omega | (simp; done) | (simp; omega)), by exact bel2 g7 g6, by first | exact MBox.put q _ _ _ | exact MBox.mk_ _ _ _ _ _ | exact MBox.put (MBox.mk_ _ _ _ _ _) _ _ _⟩
          case rest =>
            obtain ⟨g, A7, c7, rfl, rfl, o7, g_wc, mP⟩ := hcut
            have hr7 := o7.rd'
            have s_wc := Below.size g_wc; (try simp at s_wc)
            clear mg_0 mg_1 mg_2 mg_l mg_f
            replace mg := mg.grows (w' := wc) (by exact bel1 g_wc)
            have mg_0 := mg.c0; have mg_1 := mg.c1; have mg_2 := mg.c2; have mg_l := mg.lt; have mg_f := mg.fz
            replace ha1 := ha1.grows (w' := wc) (by exact bel1 g_wc)
            replace ht1 := ht1.grows (w' := wc) (by exact bel1 g_wc)
            replace hr2 := hr2.grows (w' := wc) (by exact bel1 g_wc)
            clear mG_0 mG_1 mG_2 mG_l mG_f
            replace mG := mG.grows (w' := wc) (by exact bel1 g_wc)
            have mG_0 := mG.c0; have mG_1 := mG.c1; have mG_2 := mG.c2; have mG_l := mG.lt; have mG_f := mG.fz
            replace hr3 := hr3.grows (w' := wc) (by exact bel1 g_wc)
            clear mA_0 mA_1 mA_2 mA_l mA_f
            replace mA := mA.grows (w' := wc) (by exact bel1 g_wc)
            have mA_0 := mA.c0; have mA_1 := mA.c1; have mA_2 := mA.c2; have mA_l := mA.lt; have mA_f := mA.fz
            replace HG : Grows w wc := by exact bel2 g_wc HG
            have h_wc := Below.size HG
            have mP_0 := mP.c0; have mP_1 := mP.c1; have mP_2 := mP.c2; have mP_l := mP.lt; have mP_f := mP.fz
            cases PO with
            | none =>
              obtain rfl : RES = none := HR3.out
              go_wp2_with fail
              go_ret2
              exact ⟨_, rfl, OwnQ.new_ _ (by simp) (by first | omega | (simp; omega)), by exact bel1 HG⟩
            | some p =>
              have hpl := HML.out p rfl
              have HR4 := Lib.hid (show RES = (mulO (oM AO) p).map fun q => qsP D q.l q.l.length from HR3.out)
              have C7 := fun W A cp B cb h h' => CQ'.out W A cp p B cb h h' hpl
              have hql : ∀ q, mulO (oM AO) p = some q → q.l.length ≤ 576 := fun q hq => oM_length (o := some q) fun m h2 => by cases h2; exact mulO_ok hq
              have hr7' : Rd wc A7 p.l := hr7
              clear o7
              generalize mulO (oM AO) p = QO at *
              have C7' := Lib.hid C7
              have HQL := Lib.hid hql
              clear C7 hql
              simp only [oM_some] at mP mP_0 mP_1 mP_2 ⊢
              go_wp2_with fail
              refine (C7'.out _ _ _ _ _ (by exact Rd.grows hr3 (by exact bel0)) (by exact Rd.grows hr7' (by exact bel0))).mono ?_; rintro e w8 ⟨v8, rfl, o8, g_w8⟩
              have s_w8 := Below.size g_w8; (try simp at s_w8)
              clear mg_0 mg_1 mg_2 mg_l mg_f
              replace mg := mg.grows (w' := w8) (by exact bel1 g_w8)
              have mg_0 := mg.c0; have mg_1 := mg.c1; have mg_2 := mg.c2; have mg_l := mg.lt; have mg_f := mg.fz
              replace ha1 := ha1.grows (w' := w8) (by exact bel1 g_w8)
              replace ht1 := ht1.grows (w' := w8) (by exact bel1 g_w8)
              replace hr2 := hr2.grows (w' := w8) (by exact bel1 g_w8)
              clear mG_0 mG_1 mG_2 mG_l mG_f
              replace mG := mG.grows (w' := w8) (by exact bel1 g_w8)
              have mG_0 := mG.c0; have mG_1 := mG.c1; have mG_2 := mG.c2; have mG_l := mG.lt; have mG_f := mG.fz
              replace hr3 := hr3.grows (w' := w8) (by exact bel1 g_w8)
              clear mA_0 mA_1 mA_2 mA_l mA_f
              replace mA := mA.grows (w' := w8) (by exact bel1 g_w8)
              have mA_0 := mA.c0; have mA_1 := mA.c1; have mA_2 := mA.c2; have mA_l := mA.lt; have mA_f := mA.fz
              clear mP_0 mP_1 mP_2 mP_l mP_f
              replace mP := mP.grows (w' := w8) (by exact bel1 g_w8)
              have mP_0 := mP.c0; have mP_1 := mP.c1; have mP_2 := mP.c2; have mP_l := mP.lt; have mP_f := mP.fz
              replace hr7' := hr7'.grows (w' := w8) (by exact bel1 g_w8)
              replace HG : Grows w w8 := by exact bel2 g_w8 HG
              have h_w8 := Below.size HG
              obtain ⟨A8, c8, rfl, hr8, _⟩ := o8.val
              cases QO with
              | none =>
                obtain rfl : RES = none := HR4.out
                go_wp2_with fail
                go_ret2
                exact ⟨_, rfl, OwnQ.new_ _ (by simp) (by first | omega | (simp; omega)), by exact bel1 HG⟩
              | some q =>
                obtain rfl : RES = some (qsP D q.l q.l.length) := HR4.out
                have hqb := HQL.out q rfl
                have hr8' : Rd w8 A8 q.l := hr8
                clear o8
                simp only [oM_some]
                go_wp2_with fail
                refine (CD'.out _ _ _ (by exact Rd.grows hr2 (by exact bel0))).mono ?_; rintro e w9 ⟨rfl, g_w9⟩
                have s_w9 := Below.size g_w9; (try simp at s_w9)
                clear mg_0 mg_1 mg_2 mg_l mg_f
                replace mg := mg.grows (w' := w9) (by exact bel1 g_w9)
                have mg_0 := mg.c0; have mg_1 := mg.c1; have mg_2 := mg.c2; have mg_l := mg.lt; have mg_f := mg.fz
                replace ha1 := ha1.grows (w' := w9) (by exact bel1 g_w9)
                replace ht1 := ht1.grows (w' := w9) (by exact bel1 g_w9)
                replace hr2 := hr2.grows (w' := w9) (by exact bel1 g_w9)
                clear mG_0 mG_1 mG_2 mG_l mG_f
                replace mG := mG.grows (w' := w9) (by exact bel1 g_w9)
                have mG_0 := mG.c0; have mG_1 := mG.c1; have mG_2 := mG.c2; have mG_l := mG.lt; have mG_f := mG.fz
                replace hr3 := hr3.grows (w' := w9) (by exact bel1 g_w9)
                clear mA_0 mA_1 mA_2 mA_l mA_f
                replace mA := mA.grows (w' := w9) (by exact bel1 g_w9)
                have mA_0 := mA.c0; have mA_1 := mA.c1; have mA_2 := mA.c2; have mA_l := mA.lt; have mA_f := mA.fz
                clear mP_0 mP_1 mP_2 mP_l mP_f
                replace mP := mP.grows (w' := w9) (by exact bel1 g_w9)
                have mP_0 := mP.c0; have mP_1 := mP.c1; have mP_2 := mP.c2; have mP_l := mP.lt; have mP_f := mP.fz
                replace hr7' := hr7'.grows (w' := w9) (by exact bel1 g_w9)
                replace hr8' := hr8'.grows (w' := w9) (by exact bel1 g_w9)
                have mQ : MBox w9 (w8.heap.size) q.r q.c (.slice A8 q.l.length c8) := MBox.grows (MBox.new_ w8 q.r q.c (.slice A8 q.l.length c8) 28 (by simp)) (w' := w9) (by exact bel1 g_w9)
                have mQ_0 := mQ.c0; have mQ_1 := mQ.c1; have mQ_2 := mQ.c2; have mQ_l := mQ.lt; have mQ_f := mQ.fz
                replace HG : Grows w w9 := by exact bel2 g_w9 HG
                have h_w9 := Below.size HG
                clear mg_0 mg_1 mg_2 mg_l mg_f
                clear mG_0 mG_1 mG_2 mG_l mG_f
                clear mA_0 mA_1 mA_2 mA_l mA_f
                clear mP_0 mP_1 mP_2 mP_l mP_f
                generalize q.l = L at *
                go_wp2_with fail
                go_loopw [16, 75] (fun o i wr => ∃ (I : Nat), i = .int .i64 I ∧ I ≤ L.length ∧ OwnQ wr w9.heap.size o (qsP D L I) ∧ Grows w9 wr) (fun _ i _ => L.length - (intOf i).toNat)
                case atStart => exact ⟨0, rfl, Nat.zero_le _, OwnQ.new_ _ rfl (Nat.le_refl _), by exact bel0⟩
                case round =>
                  obtain ⟨I, rfl, hI, ho, hg⟩ := hrel
                  obtain ⟨A4, c4, rfl, _, _⟩ := ho.val
                  have hsl := qsP_length D L I
                  have hsw := Below.size hg
                  by_cases hlt : I < L.length
                  · have hd := hr8'.grows hg
                    obtain ⟨ab, off, rfl, hbs, hcell⟩ := hd.at_ I hlt
                    have i1 : (I : Int) < (L.length : Int) := by omega
                    have CK := Lib.hid fun W => iMake_c (nth L I) D W
                    have HNX := Lib.hid (show qsP D L (I + 1) = qsP D L I ++ [makeQ (nth L I) D] from rfl)
                    generalize makeQ (nth L I) D = z at *
                    generalize nth L I = x at *
                    have HSL := Lib.hid hsl
                    clear hsl
                    go_wp2_with fail
                    refine (CK.out _).mono ?_; rintro e wa ⟨rfl, ga⟩
                    have hoa := ho.grows ga
                    have hsa := Below.size (show Grows w9 wa by exact bel2 ga hg)
                    go_wp2_with (at_builtin; refine wpList_appQ1 rfl (.tmp 79) (.tmp 83) rfl _ z w9.heap.size _ (qsP D L I) (by rfl) hoa (by rfl) (by have := HSL.out; omega) (by omega) ?_; intro vb wb hob hgb hvb)
                    have hbb := below_appR hoa (by omega) hgb
                    clear hgb
                    go_wp2_with fail
                    go_round
                    case rel => exact ⟨I + 1, by go_num, by omega, by rw [HNX.out]; exact hob, Below.trans (show Grows w9 wa by exact bel2 ga hg) hbb⟩
                    case measure => simp [intOf]; omega
                  · obtain rfl : I = L.length := by omega
                    go_wp2_with fail
                    go_ret2
                    have ho' := ho.less (B' := w.heap.size) (by omega)
                    exact ⟨_, rfl, ho', by exact bel2 hg HG⟩
    · have hkc' : ((k : Int) != c) = true := by simpa using hkc
      obtain rfl : RES = none := by rw [HR.out, decide_eq_false hkc]; simp
      clear hkc hgo
      go_wp2_with fail
      go_ret2
      exact ⟨_, rfl, OwnQ.new_ _ (by simp) (by first | omega | (simp; omega)), by exact bel1 HG⟩
end
end Go.Proofs.Ytpgoefdeodoacaa

/- Contracts: fractions rounded down and to the nearest number, the diagonal of a matrix. -/
namespace Go.Proofs.Ytpgoefdeodoacaa
set_option linter.unusedSimpArgs false
set_option linter.unusedVariables false
open Go.RowKit

section
set_option maxHeartbeats 2000000
theorem iFloorQ_c (q : Q2) (w : World) : Calls Try.prog 98 #[.agg #[.int .i64 q.1, .int .i64 q.2]] w fun e w' => e = .returned (.int .i64 (floorQ q)) ∧ Grows w w' := by
  have CI := fun W => iIsRatio_c q.1 q.2 W
  change ∀ W, Calls Try.prog 117 #[.agg #[.int .i64 q.1, .int .i64 q.2]] W (fun e w' => e = .returned (.bool (okQ q)) ∧ Grows W w') at CI
  obtain ⟨w1, hw1⟩ : ∃ w1, w1 = w.alloc (.cells #[.int .i64 q.1, .int .i64 q.2] 62) := ⟨_, rfl⟩
  have mq : QBox w1 w.heap.size q := by rw [hw1]; exact QBox.new_ _ _ _ rfl
  have HG : Grows w w1 := by rw [hw1]; exact bel0
  have HW1 := Lib.hid hw1
  obtain ⟨RES, hRES⟩ : ∃ x, x = floorQ q := ⟨_, rfl⟩
  rw [← hRES]
  unfold floorQ at hRES
  cases hok : okQ q
  · rw [hok] at CI hRES
    have CI' := Lib.hid CI
    have HR := Lib.hid hRES
    clear CI hok hRES hw1
    go_enter Try.func98, Try.ntmps98
    go_wp2_with fail
    rw [← HW1.out]
    refine (CI'.out _).mono ?_; rintro e w2 ⟨rfl, g2⟩
    go_wp2_with fail
    go_ret
    exact ⟨by rw [HR.out]; rfl, by exact bel2 g2 HG⟩
  · have hb := okQ_bd hok
    rw [hok] at CI hRES
    have CI' := Lib.hid CI
    have HR := Lib.hid hRES
    have CD := Lib.hid fun W => floorDiv_c q.1 q.2 W (by omega) (by omega) (by omega) (by omega)
    clear CI hok hRES hw1
    go_enter Try.func98, Try.ntmps98
    go_wp2_with fail
    rw [← HW1.out]
    refine (CI'.out _).mono ?_; rintro e w2 ⟨rfl, g2⟩
    obtain ⟨q0, q1⟩ := (mq.grows g2).cells
    go_wp2_with fail
    refine (CD.out _).mono ?_; rintro e w3 ⟨rfl, rfl⟩
    go_wp2_with fail
    go_ret
    exact ⟨by rw [HR.out]; rfl, by exact bel2 g2 HG⟩
theorem iRoundQ_c (q : Q2) (w : World) : Calls Try.prog 55 #[.agg #[.int .i64 q.1, .int .i64 q.2]] w fun e w' => e = .returned (.int .i64 (roundQ q)) ∧ Grows w w' := by
  have CI := fun W => iIsRatio_c q.1 q.2 W
  change ∀ W, Calls Try.prog 117 #[.agg #[.int .i64 q.1, .int .i64 q.2]] W (fun e w' => e = .returned (.bool (okQ q)) ∧ Grows W w') at CI
  obtain ⟨w1, hw1⟩ : ∃ w1, w1 = w.alloc (.cells #[.int .i64 q.1, .int .i64 q.2] 62) := ⟨_, rfl⟩
  have mq : QBox w1 w.heap.size q := by rw [hw1]; exact QBox.new_ _ _ _ rfl
  have HG : Grows w w1 := by rw [hw1]; exact bel0
  have HW1 := Lib.hid hw1
  obtain ⟨RES, hRES⟩ : ∃ x, x = roundQ q := ⟨_, rfl⟩
  rw [← hRES]
  unfold roundQ at hRES
  cases hok : okQ q
  · rw [hok] at CI hRES
    have CI' := Lib.hid CI
    have HR := Lib.hid hRES
    clear CI hok hRES hw1
    go_enter Try.func55, Try.ntmps55
    go_wp2_with fail
    rw [← HW1.out]
    refine (CI'.out _).mono ?_; rintro e w2 ⟨rfl, g2⟩
    go_wp2_with fail
    go_ret
    exact ⟨by rw [HR.out]; rfl, by exact bel2 g2 HG⟩
  · have hb := okQ_bd hok
    rw [hok] at CI hRES
    have CI' := Lib.hid CI
    have HR := Lib.hid hRES
    have CD := Lib.hid fun W => floorDiv_c (2 * q.1 + q.2) (2 * q.2) W (by omega) (by omega) (by omega) (by omega)
    have k1 : IntKind.i64.wrap (2 * q.1) = 2 * q.1 := IntWalk.i64_in _ (by omega)
    have k2 : IntKind.i64.wrap (2 * q.1 + q.2) = 2 * q.1 + q.2 := IntWalk.i64_in _ (by omega)
    have k3 : IntKind.i64.wrap (2 * q.2) = 2 * q.2 := IntWalk.i64_in _ (by omega)
    clear CI hok hRES hw1
    go_enter Try.func55, Try.ntmps55
    go_wp2_with fail
    rw [← HW1.out]
    refine (CI'.out _).mono ?_; rintro e w2 ⟨rfl, g2⟩
    obtain ⟨q0, q1⟩ := (mq.grows g2).cells
    go_wp2_with fail
    refine (CD.out _).mono ?_; rintro e w3 ⟨rfl, rfl⟩
    go_wp2_with fail
    go_ret
    exact ⟨by rw [HR.out]; rfl, by exact bel2 g2 HG⟩
theorem sFloorQ_c (q : Q2) (w : World) : Calls Try.prog 93 #[.agg #[.int .i64 q.1, .int .i64 q.2]] w fun e w' => e = .returned (.int .i64 (floorQ q)) ∧ Grows w w' := by
  have CI := fun W => sIsRatio_c q.1 q.2 W
  change ∀ W, Calls Try.prog 82 #[.agg #[.int .i64 q.1, .int .i64 q.2]] W (fun e w' => e = .returned (.bool (okQ q)) ∧ Grows W w') at CI
  obtain ⟨w1, hw1⟩ : ∃ w1, w1 = w.alloc (.cells #[.int .i64 q.1, .int .i64 q.2] 62) := ⟨_, rfl⟩
  have mq : QBox w1 w.heap.size q := by rw [hw1]; exact QBox.new_ _ _ _ rfl
  have HG : Grows w w1 := by rw [hw1]; exact bel0
  have HW1 := Lib.hid hw1
  obtain ⟨RES, hRES⟩ : ∃ x, x = floorQ q := ⟨_, rfl⟩
  rw [← hRES]
  unfold floorQ at hRES
  cases hok : okQ q
  · rw [hok] at CI hRES
    have CI' := Lib.hid CI
    have HR := Lib.hid hRES
    clear CI hok hRES hw1
    go_enter Try.func93, Try.ntmps93
    go_wp2_with fail
    rw [← HW1.out]
    refine (CI'.out _).mono ?_; rintro e w2 ⟨rfl, g2⟩
    go_wp2_with fail
    go_ret
    exact ⟨by rw [HR.out]; rfl, by exact bel2 g2 HG⟩
  · have hb := okQ_bd hok
    rw [hok] at CI hRES
    have CI' := Lib.hid CI
    have HR := Lib.hid hRES
    have CD := Lib.hid fun W => l1Floor_c q.1 q.2 W (by omega) (by omega) (by omega) (by omega)
    clear CI hok hRES hw1
    go_enter Try.func93, Try.ntmps93
    go_wp2_with fail
    rw [← HW1.out]
    refine (CI'.out _).mono ?_; rintro e w2 ⟨rfl, g2⟩
    obtain ⟨q0, q1⟩ := (mq.grows g2).cells
    go_wp2_with fail
    refine (CD.out _).mono ?_; rintro e w3 ⟨rfl, rfl⟩
    go_wp2_with fail
    go_ret
    exact ⟨by rw [HR.out]; rfl, by exact bel2 g2 HG⟩
theorem sRoundQ_c (q : Q2) (w : World) : Calls Try.prog 53 #[.agg #[.int .i64 q.1, .int .i64 q.2]] w fun e w' => e = .returned (.int .i64 (roundQ q)) ∧ Grows w w' := by
  have CI := fun W => sIsRatio_c q.1 q.2 W
  change ∀ W, Calls Try.prog 82 #[.agg #[.int .i64 q.1, .int .i64 q.2]] W (fun e w' => e = .returned (.bool (okQ q)) ∧ Grows W w') at CI
  obtain ⟨w1, hw1⟩ : ∃ w1, w1 = w.alloc (.cells #[.int .i64 q.1, .int .i64 q.2] 62) := ⟨_, rfl⟩
  have mq : QBox w1 w.heap.size q := by rw [hw1]; exact QBox.new_ _ _ _ rfl
  have HG : Grows w w1 := by rw [hw1]; exact bel0
  have HW1 := Lib.hid hw1
  obtain ⟨RES, hRES⟩ : ∃ x, x = roundQ q := ⟨_, rfl⟩
  rw [← hRES]
  unfold roundQ at hRES
  cases hok : okQ q
  · rw [hok] at CI hRES
    have CI' := Lib.hid CI
    have HR := Lib.hid hRES
    clear CI hok hRES hw1
    go_enter Try.func53, Try.ntmps53
    go_wp2_with fail
    rw [← HW1.out]
    refine (CI'.out _).mono ?_; rintro e w2 ⟨rfl, g2⟩
    go_wp2_with fail
    go_ret
    exact ⟨by rw [HR.out]; rfl, by exact bel2 g2 HG⟩
  · have hb := okQ_bd hok
    rw [hok] at CI hRES
    have CI' := Lib.hid CI
    have HR := Lib.hid hRES
    have CD := Lib.hid fun W => l1Floor_c (2 * q.1 + q.2) (2 * q.2) W (by omega) (by omega) (by omega) (by omega)
    have k1 : IntKind.i64.wrap (2 * q.1) = 2 * q.1 := IntWalk.i64_in _ (by omega)
    have k2 : IntKind.i64.wrap (2 * q.1 + q.2) = 2 * q.1 + q.2 := IntWalk.i64_in _ (by omega)
    have k3 : IntKind.i64.wrap (2 * q.2) = 2 * q.2 := IntWalk.i64_in _ (by omega)
    clear CI hok hRES hw1
    go_enter Try.func53, Try.ntmps53
    go_wp2_with fail
    rw [← HW1.out]
    refine (CI'.out _).mono ?_; rintro e w2 ⟨rfl, g2⟩
    obtain ⟨q0, q1⟩ := (mq.grows g2).cells
    go_wp2_with fail
    refine (CD.out _).mono ?_; rintro e w3 ⟨rfl, rfl⟩
    go_wp2_with fail
    go_ret
    exact ⟨by rw [HR.out]; rfl, by exact bel2 g2 HG⟩
theorem diag_c (R C : Nat) (A : Option Addr) (l : List Int) (n cap i : Nat) (w : World) (hn : l.length = n) (hlen : l.length = R * C) (hR : R ≤ 24) (hC : C ≤ 24) (hi : i < R) (hi2 : i < C) (ha : Rd w A l) :
    Calls Try.prog 62 #[.agg #[.int .i64 R, .int .i64 C, .slice A n cap], .int .i64 i] w fun e w' => e = .returned (.int .i64 (nth l (i * C + i))) ∧ Grows w w' := by
  have hRC : R * C ≤ 576 := Nat.mul_le_mul hR hC
  have hb : i * C ≤ 576 := by have := Nat.mul_le_mul_right C (Nat.le_of_lt hi); omega
  have CC := fun W h => at_c R C A l n cap i i W hn h (castMul i C) (by have := castMulLe hb; omega) (castPos i C i) (castLt (by rw [hlen]; exact idx_lt hi hi2)) (by omega)
  rw [castIdx] at CC
  have CC' := Lib.hid CC
  obtain ⟨w1, hw1⟩ : ∃ w1, w1 = w.alloc (.cells #[.int .i64 R, .int .i64 C, .slice A n cap] 28) := ⟨_, rfl⟩
  have mg : MBox w1 w.heap.size R C (.slice A n cap) := by rw [hw1]; exact MBox.mk_ _ _ _ _ _
  have HG : Grows w w1 := by rw [hw1]; exact bel0
  have HW1 := Lib.hid hw1
  have ha1 := ha.grows HG
  have i1 : (i : Int) < (R : Int) := by omega
  have i2 : (i : Int) < (C : Int) := by omega
  have i3 : ¬ (R : Int) ≤ (i : Int) := by omega
  have i4 : ¬ (C : Int) ≤ (i : Int) := by omega
  obtain ⟨b0, b1, b2⟩ := mg.cells
  clear CC hw1 hn hlen
  go_enter Try.func62, Try.ntmps62
  go_upto_region 1 with fail
  rw [← HW1.out]
  go_wp2_with fail
  refine (CC'.out _ ha1).mono ?_; rintro e w2 ⟨rfl, g2⟩
  go_wp2_with fail
  go_ret
  exact ⟨rfl, by exact bel2 g2 HG⟩
end
end Go.Proofs.Ytpgoefdeodoacaa
