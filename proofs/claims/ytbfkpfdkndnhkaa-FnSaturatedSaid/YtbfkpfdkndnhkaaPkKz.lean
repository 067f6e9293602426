/- Contracts and lemmas, put together. -/
import Derived.Test.YtbfkpfdkndnhkaaPkI
import Derived.Test.YtbfkpfdkndnhkaaPkKe
import Derived.Test.YtbfkpfdkndnhkaaPkT
import Derived.Test.YtbfkpfdkndnhkaaQCB
/- Contracts: zeros and saturations of a matrix, both; whether it is saturated, the program's. -/
namespace Go.Proofs.Ytbfkpfdkndnhkaa
set_option linter.unusedSimpArgs false
set_option linter.unusedVariables false
open Go.RowKit
set_option linter.unusedVariables false

theorem zerO_ok {a m : MX} (h : zerO a = some m) : m.ok = true := by
  unfold zerO at h
  obtain ⟨_, _, h2⟩ := Option.bind_eq_some_iff.1 h
  exact kerO_ok h2
theorem satO_ok {a m : MX} (h : satO a = some m) : m.ok = true := by
  unfold satO at h
  obtain ⟨_, _, h2⟩ := Option.bind_eq_some_iff.1 h
  exact zerO_ok h2
def isSatO (m : MX) : Option Bool := (satO m).bind fun s => (basO m).map fun b => eqMat s.r s.c s.l b.r b.c b.l
section
set_option maxHeartbeats 4000000
set_option maxRecDepth 100000
theorem iZer_c (r c : Int) (A : Option Addr) (l : List Int) (n cap : Nat) (w : World) (hn : l.length = n) (ha : Rd w A l) (hl : n ≤ 1099511627776) :
    Calls Try.prog 67 #[.agg #[.int .i64 r, .int .i64 c, .slice A n cap]] w (MatRet (zerO ⟨r, c, l⟩) w) := by
  have CT := Lib.hid fun W h => (iTr_m r c A l n cap W hn h hl).mono fun _ _ h => matRet_out h
  obtain ⟨w1, hw1, mg, mr, hs1, g01⟩ := one_mat w r c (.slice A n cap)
  have HW1 := Lib.hid hw1
  have ha1 := ha.grows g01
  have h_w1 := Below.size g01
  have HG : Grows w w1 := g01
  obtain ⟨RES, hRES⟩ : ∃ x, x = zerO ⟨r, c, l⟩ := ⟨_, rfl⟩
  rw [← hRES]
  unfold zerO at hRES
  have htl : (oM (trO ⟨r, c, l⟩)).l.length ≤ 576 := by
    cases h : trO ⟨r, c, l⟩ with
    | none => simp [oM, MX.nil]
    | some t =>
      unfold trO at h
      split at h
      · rename_i hk
        cases h
        obtain ⟨R, C, e1, e2, hR, hC, hl, _⟩ := isMat_ok hk
        show (trL _ _ _).length ≤ 576
        unfold trL
        rw [tab_length]
        simp only at e1 e2
        subst e1 e2
        simp only [Int.toNat_natCast]
        have := Nat.mul_le_mul hC hR
        omega
      · cases h
  have hok0 : (trO ⟨r, c, l⟩).isSome = false → RES = none := fun h => by rw [hRES]; cases e : trO ⟨r, c, l⟩ with | none => rfl | some t => rw [e] at h; cases h
  have hok1 : (trO ⟨r, c, l⟩).isSome = true → RES = kerO (oM (trO ⟨r, c, l⟩)) := fun h => by rw [hRES]; cases e : trO ⟨r, c, l⟩ with | none => rw [e] at h; cases h | some t => rfl
  generalize (trO ⟨r, c, l⟩).isSome = ok at *
  generalize oM (trO ⟨r, c, l⟩) = t at *
  have H0 := Lib.hid hok0
  have H1 := Lib.hid hok1
  clear hw1 hRES hn hok0 hok1
  go_enter Try.func67, Try.ntmps67
  go_wp2_with fail
  rw [← HW1.out]
  have mg_0 := mg.c0; have mg_1 := mg.c1; have mg_2 := mg.c2; have mg_l := mg.lt; have mg_f := mg.fz
  have mr_0 := mr.c0; have mr_1 := mr.c1; have mr_2 := mr.c2; have mr_l := mr.lt; have mr_f := mr.fz
  refine (CT.out _ (by exact Rd.grows ha1 (by exact bel0))).mono ?_; rintro e w2 ⟨v2, rfl, o2, g_w2⟩
  have s_w2 := Below.size g_w2; (try simp at s_w2)
  clear mg_0 mg_1 mg_2 mg_l mg_f
  replace mg := mg.grows (w' := w2) (by exact bel1 g_w2)
  have mg_0 := mg.c0; have mg_1 := mg.c1; have mg_2 := mg.c2; have mg_l := mg.lt; have mg_f := mg.fz
  clear mr_0 mr_1 mr_2 mr_l mr_f
  replace mr := mr.grows (w' := w2) (by exact bel1 g_w2)
  have mr_0 := mr.c0; have mr_1 := mr.c1; have mr_2 := mr.c2; have mr_l := mr.lt; have mr_f := mr.fz
  replace ha1 := ha1.grows (w' := w2) (by exact bel1 g_w2)
  replace HG : Grows w w2 := by exact bel2 g_w2 HG
  have h_w2 := Below.size HG
  obtain ⟨A2, c2, rfl, hr2, _⟩ := o2.val
  cases ok
  · obtain rfl : RES = none := H0.out rfl
    clear H0 H1
    go_wp2_with fail
    refine bodyPost_ret (v := .tuple #[.agg #[.int .i64 0, .int .i64 0, .slice none 0 0], .bool false]) ?_ rfl ?_
    · simp [results, Try.results67, go_sem, mr_0, mr_1, mr_2, mr_f, mr_l]
    · exact ⟨_, rfl, Own.nil _ _, by exact bel1 HG⟩
  · have hRK := H1.out rfl
    have CK := fun W A cp h => (iKer_c t.r t.c A t.l t.l.length cp W rfl h (by omega)).mono fun _ _ h => matRet_out h
    rw [← show RES = kerO ⟨t.r, t.c, t.l⟩ from hRK] at CK
    have CK' := Lib.hid CK
    clear CK hRK H0 H1
    go_wp2_with fail
    refine (CK'.out _ _ _ (by exact Rd.grows hr2 (by exact bel0))).mono ?_; rintro e w3 ⟨v3, rfl, o3, g_w3⟩
    have s_w3 := Below.size g_w3; (try simp at s_w3)
    clear mg_0 mg_1 mg_2 mg_l mg_f
    replace mg := mg.grows (w' := w3) (by exact bel1 g_w3)
    have mg_0 := mg.c0; have mg_1 := mg.c1; have mg_2 := mg.c2; have mg_l := mg.lt; have mg_f := mg.fz
    clear mr_0 mr_1 mr_2 mr_l mr_f
    replace mr := mr.grows (w' := w3) (by exact bel1 g_w3)
    have mr_0 := mr.c0; have mr_1 := mr.c1; have mr_2 := mr.c2; have mr_l := mr.lt; have mr_f := mr.fz
    replace ha1 := ha1.grows (w' := w3) (by exact bel1 g_w3)
    replace hr2 := hr2.grows (w' := w3) (by exact bel1 g_w3)
    have mt : MBox w3 (w2.heap.size) t.r t.c (.slice A2 t.l.length c2) := MBox.grows (MBox.new_ w2 t.r t.c (.slice A2 t.l.length c2) 26 (by simp)) (w' := w3) (by exact bel1 g_w3)
    have mt_0 := mt.c0; have mt_1 := mt.c1; have mt_2 := mt.c2; have mt_l := mt.lt; have mt_f := mt.fz
    replace HG : Grows w w3 := by exact bel2 g_w3 HG
    have h_w3 := Below.size HG
    obtain ⟨A3, c3, rfl, _, _⟩ := o3.val
    go_wp2_with fail
    refine bodyPost_ret (v := .tuple #[.agg #[.int .i64 (oM RES).r, .int .i64 (oM RES).c, .slice A3 (oM RES).l.length c3], .bool RES.isSome]) ?_ rfl ?_
    · simp [results, Try.results67, go_sem, mr_0, mr_1, mr_2, mr_f, mr_l]
    · exact ⟨_, rfl, by exact ownl o3, by exact bel1 HG⟩
theorem sZer_c (r c : Int) (A : Option Addr) (l : List Int) (n cap : Nat) (w : World) (hn : l.length = n) (ha : Rd w A l) (hl : n ≤ 1099511627776) :
    Calls Try.prog 68 #[.agg #[.int .i64 r, .int .i64 c, .slice A n cap]] w (MatRet (zerO ⟨r, c, l⟩) w) := by
  have CM := fun W h => sIsMatrix_c r c A l n cap W hn h hl
  obtain ⟨w1, hw1, mg, mr, hs1, g01⟩ := one_mat w r c (.slice A n cap)
  have HW1 := Lib.hid hw1
  have ha1 := ha.grows g01
  have h_w1 := Below.size g01
  have HG : Grows w w1 := g01
  obtain ⟨RES, hRES⟩ : ∃ x, x = zerO ⟨r, c, l⟩ := ⟨_, rfl⟩
  rw [← hRES]
  unfold zerO trO MX.ok at hRES
  simp only at hRES
  obtain ⟨q, hq⟩ : ∃ q, q = isMat r c l := ⟨_, rfl⟩
  rw [← hq] at CM hRES
  have CM' := Lib.hid CM
  have HQ := Lib.hid hq
  have HRES := Lib.hid hRES
  clear hw1 CM hq hRES
  go_enter Try.func68, Try.ntmps68
  go_wp2_with fail
  rw [← HW1.out]
  have mg_0 := mg.c0; have mg_1 := mg.c1; have mg_2 := mg.c2; have mg_l := mg.lt; have mg_f := mg.fz
  have mr_0 := mr.c0; have mr_1 := mr.c1; have mr_2 := mr.c2; have mr_l := mr.lt; have mr_f := mr.fz
  refine (CM'.out _ (by exact Rd.grows ha1 (by exact bel0))).mono ?_; rintro e w2 ⟨rfl, g_w2⟩
  have s_w2 := Below.size g_w2; (try simp at s_w2)
  clear mg_0 mg_1 mg_2 mg_l mg_f
  replace mg := mg.grows (w' := w2) (by exact bel1 g_w2)
  have mg_0 := mg.c0; have mg_1 := mg.c1; have mg_2 := mg.c2; have mg_l := mg.lt; have mg_f := mg.fz
  clear mr_0 mr_1 mr_2 mr_l mr_f
  replace mr := mr.grows (w' := w2) (by exact bel1 g_w2)
  have mr_0 := mr.c0; have mr_1 := mr.c1; have mr_2 := mr.c2; have mr_l := mr.lt; have mr_f := mr.fz
  replace ha1 := ha1.grows (w' := w2) (by exact bel1 g_w2)
  replace HG : Grows w w2 := by exact bel2 g_w2 HG
  have h_w2 := Below.size HG
  cases q
  · obtain rfl : RES = none := HRES.out
    go_wp2_with fail
    refine bodyPost_ret (v := .tuple #[.agg #[.int .i64 0, .int .i64 0, .slice none 0 0], .bool false]) ?_ rfl ?_
    · simp [results, Try.results68, go_sem, mr_0, mr_1, mr_2, mr_f, mr_l]
    · exact ⟨_, rfl, Own.nil _ _, by exact bel1 HG⟩
  · obtain ⟨R, C, hR0, hC0, hR, hC, hlen, hnum⟩ := isMat_nat HQ.out.symm
    subst hR0 hC0
    have hRES' : RES = kerO ⟨C, R, trL R C l⟩ := HRES.out
    have htl : (trL R C l).length = C * R := tab_length _ _ _
    have hCR : C * R ≤ 576 := Nat.mul_le_mul hC hR
    have CT := Lib.hid fun W h => l3Turn_c R C A l n cap W hn h hlen hR hC
    have CK := fun W A cp h => (sKer_c C R A (trL R C l) (trL R C l).length cp W rfl h (by omega)).mono fun _ _ h => matRet_out h
    rw [← hRES'] at CK
    have CK' := Lib.hid CK
    generalize trL R C l = tl at *
    clear HRES hRES' hlen hnum CK CM' HQ hn htl
    go_wp2_with fail
    refine (CT.out _ (by exact Rd.grows ha1 (by exact bel0))).mono ?_; rintro e w3 ⟨v3, rfl, o3, g_w3⟩
    have s_w3 := Below.size g_w3; (try simp at s_w3)
    clear mg_0 mg_1 mg_2 mg_l mg_f
    replace mg := mg.grows (w' := w3) (by exact bel1 g_w3)
    have mg_0 := mg.c0; have mg_1 := mg.c1; have mg_2 := mg.c2; have mg_l := mg.lt; have mg_f := mg.fz
    clear mr_0 mr_1 mr_2 mr_l mr_f
    replace mr := mr.grows (w' := w3) (by exact bel1 g_w3)
    have mr_0 := mr.c0; have mr_1 := mr.c1; have mr_2 := mr.c2; have mr_l := mr.lt; have mr_f := mr.fz
    replace ha1 := ha1.grows (w' := w3) (by exact bel1 g_w3)
    replace HG : Grows w w3 := by exact bel2 g_w3 HG
    have h_w3 := Below.size HG
    obtain ⟨A3, c3, rfl, hr3, _⟩ := o3.val
    go_wp2_with fail
    refine (CK'.out _ _ _ (by exact Rd.grows hr3 (by exact bel0))).mono ?_; rintro e w4 ⟨v4, rfl, o4, g_w4⟩
    have s_w4 := Below.size g_w4; (try simp at s_w4)
    clear mg_0 mg_1 mg_2 mg_l mg_f
    replace mg := mg.grows (w' := w4) (by exact bel1 g_w4)
    have mg_0 := mg.c0; have mg_1 := mg.c1; have mg_2 := mg.c2; have mg_l := mg.lt; have mg_f := mg.fz
    clear mr_0 mr_1 mr_2 mr_l mr_f
    replace mr := mr.grows (w' := w4) (by exact bel1 g_w4)
    have mr_0 := mr.c0; have mr_1 := mr.c1; have mr_2 := mr.c2; have mr_l := mr.lt; have mr_f := mr.fz
    replace ha1 := ha1.grows (w' := w4) (by exact bel1 g_w4)
    replace hr3 := hr3.grows (w' := w4) (by exact bel1 g_w4)
    replace HG : Grows w w4 := by exact bel2 g_w4 HG
    have h_w4 := Below.size HG
    obtain ⟨A4, c4, rfl, hr4, _⟩ := o4.val
    go_wp2_with fail
    refine bodyPost_ret (v := .tuple #[.agg #[.int .i64 (oM RES).r, .int .i64 (oM RES).c, .slice A4 (oM RES).l.length c4], .bool RES.isSome]) ?_ rfl ?_
    · simp [results, Try.results68, go_sem, mr_0, mr_1, mr_2, mr_f, mr_l]
    · exact ⟨_, rfl, by exact ownl o4, by exact bel1 HG⟩
end
end Go.Proofs.Ytbfkpfdkndnhkaa

/- Contracts: the saturation of a matrix, both; whether it is saturated, its rank, whether two have one space, the program's. -/
namespace Go.Proofs.Ytbfkpfdkndnhkaa
set_option linter.unusedSimpArgs false
set_option linter.unusedVariables false
open Go.RowKit
set_option linter.unusedVariables false

section
set_option maxHeartbeats 4000000
set_option maxRecDepth 100000
theorem iSat_c (r c : Int) (A : Option Addr) (l : List Int) (n cap : Nat) (w : World) (hn : l.length = n) (ha : Rd w A l) (hl : n ≤ 1099511627776) :
    Calls Try.prog 26 #[.agg #[.int .i64 r, .int .i64 c, .slice A n cap]] w (MatRet (satO ⟨r, c, l⟩) w) := by
  have CT := Lib.hid fun W h => (iZer_c r c A l n cap W hn h hl).mono fun _ _ h => matRet_out h
  obtain ⟨w1, hw1, mg, mr, hs1, g01⟩ := one_mat w r c (.slice A n cap)
  have HW1 := Lib.hid hw1
  have ha1 := ha.grows g01
  have h_w1 := Below.size g01
  have HG : Grows w w1 := g01
  obtain ⟨RES, hRES⟩ : ∃ x, x = satO ⟨r, c, l⟩ := ⟨_, rfl⟩
  rw [← hRES]
  unfold satO at hRES
  have htl : (oM (zerO ⟨r, c, l⟩)).l.length ≤ 576 := oM_length fun m h => zerO_ok h
  have hok0 : (zerO ⟨r, c, l⟩).isSome = false → RES = none := fun h => by rw [hRES]; cases e : zerO ⟨r, c, l⟩ with | none => rfl | some t => rw [e] at h; cases h
  have hok1 : (zerO ⟨r, c, l⟩).isSome = true → RES = zerO (oM (zerO ⟨r, c, l⟩)) := fun h => by rw [hRES]; cases e : zerO ⟨r, c, l⟩ with | none => rw [e] at h; cases h | some t => rfl
  generalize (zerO ⟨r, c, l⟩).isSome = ok at *
  generalize oM (zerO ⟨r, c, l⟩) = t at *
  have H0 := Lib.hid hok0
  have H1 := Lib.hid hok1
  clear hw1 hRES hn hok0 hok1
  go_enter Try.func26, Try.ntmps26
  go_wp2_with fail
  rw [← HW1.out]
  have mg_0 := mg.c0; have mg_1 := mg.c1; have mg_2 := mg.c2; have mg_l := mg.lt; have mg_f := mg.fz
  have mr_0 := mr.c0; have mr_1 := mr.c1; have mr_2 := mr.c2; have mr_l := mr.lt; have mr_f := mr.fz
  refine (CT.out _ (by exact Rd.grows ha1 (by exact bel0))).mono ?_; rintro e w2 ⟨v2, rfl, o2, g_w2⟩
  have s_w2 := Below.size g_w2; (try simp at s_w2)
  clear mg_0 mg_1 mg_2 mg_l mg_f
  replace mg := mg.grows (w' := w2) (by exact bel1 g_w2)
  have mg_0 := mg.c0; have mg_1 := mg.c1; have mg_2 := mg.c2; have mg_l := mg.lt; have mg_f := mg.fz
  clear mr_0 mr_1 mr_2 mr_l mr_f
  replace mr := mr.grows (w' := w2) (by exact bel1 g_w2)
  have mr_0 := mr.c0; have mr_1 := mr.c1; have mr_2 := mr.c2; have mr_l := mr.lt; have mr_f := mr.fz
  replace ha1 := ha1.grows (w' := w2) (by exact bel1 g_w2)
  replace HG : Grows w w2 := by exact bel2 g_w2 HG
  have h_w2 := Below.size HG
  obtain ⟨A2, c2, rfl, hr2, _⟩ := o2.val
  cases ok
  · obtain rfl : RES = none := H0.out rfl
    clear H0 H1
    go_wp2_with fail
    refine bodyPost_ret (v := .tuple #[.agg #[.int .i64 0, .int .i64 0, .slice none 0 0], .bool false]) ?_ rfl ?_
    · simp [results, Try.results26, go_sem, mr_0, mr_1, mr_2, mr_f, mr_l]
    · exact ⟨_, rfl, Own.nil _ _, by exact bel1 HG⟩
  · have hRK := H1.out rfl
    have CK := fun W A cp h => (iZer_c t.r t.c A t.l t.l.length cp W rfl h (by omega)).mono fun _ _ h => matRet_out h
    rw [← show RES = zerO ⟨t.r, t.c, t.l⟩ from hRK] at CK
    have CK' := Lib.hid CK
    clear CK hRK H0 H1
    go_wp2_with fail
    refine (CK'.out _ _ _ (by exact Rd.grows hr2 (by exact bel0))).mono ?_; rintro e w3 ⟨v3, rfl, o3, g_w3⟩
    have s_w3 := Below.size g_w3; (try simp at s_w3)
    clear mg_0 mg_1 mg_2 mg_l mg_f
    replace mg := mg.grows (w' := w3) (by exact bel1 g_w3)
    have mg_0 := mg.c0; have mg_1 := mg.c1; have mg_2 := mg.c2; have mg_l := mg.lt; have mg_f := mg.fz
    clear mr_0 mr_1 mr_2 mr_l mr_f
    replace mr := mr.grows (w' := w3) (by exact bel1 g_w3)
    have mr_0 := mr.c0; have mr_1 := mr.c1; have mr_2 := mr.c2; have mr_l := mr.lt; have mr_f := mr.fz
    replace ha1 := ha1.grows (w' := w3) (by exact bel1 g_w3)
    replace hr2 := hr2.grows (w' := w3) (by exact bel1 g_w3)
    have mt : MBox w3 (w2.heap.size) t.r t.c (.slice A2 t.l.length c2) := MBox.grows (MBox.new_ w2 t.r t.c (.slice A2 t.l.length c2) 26 (by simp)) (w' := w3) (by exact bel1 g_w3)
    have mt_0 := mt.c0; have mt_1 := mt.c1; have mt_2 := mt.c2; have mt_l := mt.lt; have mt_f := mt.fz
    replace HG : Grows w w3 := by exact bel2 g_w3 HG
    have h_w3 := Below.size HG
    obtain ⟨A3, c3, rfl, _, _⟩ := o3.val
    go_wp2_with fail
    refine bodyPost_ret (v := .tuple #[.agg #[.int .i64 (oM RES).r, .int .i64 (oM RES).c, .slice A3 (oM RES).l.length c3], .bool RES.isSome]) ?_ rfl ?_
    · simp [results, Try.results26, go_sem, mr_0, mr_1, mr_2, mr_f, mr_l]
    · exact ⟨_, rfl, by exact ownl o3, by exact bel1 HG⟩
theorem sSat_c (r c : Int) (A : Option Addr) (l : List Int) (n cap : Nat) (w : World) (hn : l.length = n) (ha : Rd w A l) (hl : n ≤ 1099511627776) :
    Calls Try.prog 27 #[.agg #[.int .i64 r, .int .i64 c, .slice A n cap]] w (MatRet (satO ⟨r, c, l⟩) w) := by
  have CT := Lib.hid fun W h => (sZer_c r c A l n cap W hn h hl).mono fun _ _ h => matRet_out h
  obtain ⟨w1, hw1, mg, mr, hs1, g01⟩ := one_mat w r c (.slice A n cap)
  have HW1 := Lib.hid hw1
  have ha1 := ha.grows g01
  have h_w1 := Below.size g01
  have HG : Grows w w1 := g01
  obtain ⟨RES, hRES⟩ : ∃ x, x = satO ⟨r, c, l⟩ := ⟨_, rfl⟩
  rw [← hRES]
  unfold satO at hRES
  have htl : (oM (zerO ⟨r, c, l⟩)).l.length ≤ 576 := oM_length fun m h => zerO_ok h
  have hok0 : (zerO ⟨r, c, l⟩).isSome = false → RES = none := fun h => by rw [hRES]; cases e : zerO ⟨r, c, l⟩ with | none => rfl | some t => rw [e] at h; cases h
  have hok1 : (zerO ⟨r, c, l⟩).isSome = true → RES = zerO (oM (zerO ⟨r, c, l⟩)) := fun h => by rw [hRES]; cases e : zerO ⟨r, c, l⟩ with | none => rw [e] at h; cases h | some t => rfl
  generalize (zerO ⟨r, c, l⟩).isSome = ok at *
  generalize oM (zerO ⟨r, c, l⟩) = t at *
  have H0 := Lib.hid hok0
  have H1 := Lib.hid hok1
  clear hw1 hRES hn hok0 hok1
  go_enter Try.func27, Try.ntmps27
  go_wp2_with fail
  rw [← HW1.out]
  have mg_0 := mg.c0; have mg_1 := mg.c1; have mg_2 := mg.c2; have mg_l := mg.lt; have mg_f := mg.fz
  have mr_0 := mr.c0; have mr_1 := mr.c1; have mr_2 := mr.c2; have mr_l := mr.lt; have mr_f := mr.fz
  refine (CT.out _ (by exact Rd.grows ha1 (by exact bel0))).mono ?_; rintro e w2 ⟨v2, rfl, o2, g_w2⟩
  have s_w2 := Below.size g_w2; (try simp at s_w2)
  clear mg_0 mg_1 mg_2 mg_l mg_f
  replace mg := mg.grows (w' := w2) (by exact bel1 g_w2)
  have mg_0 := mg.c0; have mg_1 := mg.c1; have mg_2 := mg.c2; have mg_l := mg.lt; have mg_f := mg.fz
  clear mr_0 mr_1 mr_2 mr_l mr_f
  replace mr := mr.grows (w' := w2) (by exact bel1 g_w2)
  have mr_0 := mr.c0; have mr_1 := mr.c1; have mr_2 := mr.c2; have mr_l := mr.lt; have mr_f := mr.fz
  replace ha1 := ha1.grows (w' := w2) (by exact bel1 g_w2)
  replace HG : Grows w w2 := by exact bel2 g_w2 HG
  have h_w2 := Below.size HG
  obtain ⟨A2, c2, rfl, hr2, _⟩ := o2.val
  cases ok
  · obtain rfl : RES = none := H0.out rfl
    clear H0 H1
    go_wp2_with fail
    refine bodyPost_ret (v := .tuple #[.agg #[.int .i64 0, .int .i64 0, .slice none 0 0], .bool false]) ?_ rfl ?_
    · simp [results, Try.results27, go_sem, mr_0, mr_1, mr_2, mr_f, mr_l]
    · exact ⟨_, rfl, Own.nil _ _, by exact bel1 HG⟩
  · have hRK := H1.out rfl
    have CK := fun W A cp h => (sZer_c t.r t.c A t.l t.l.length cp W rfl h (by omega)).mono fun _ _ h => matRet_out h
    rw [← show RES = zerO ⟨t.r, t.c, t.l⟩ from hRK] at CK
    have CK' := Lib.hid CK
    clear CK hRK H0 H1
    go_wp2_with fail
    refine (CK'.out _ _ _ (by exact Rd.grows hr2 (by exact bel0))).mono ?_; rintro e w3 ⟨v3, rfl, o3, g_w3⟩
    have s_w3 := Below.size g_w3; (try simp at s_w3)
    clear mg_0 mg_1 mg_2 mg_l mg_f
    replace mg := mg.grows (w' := w3) (by exact bel1 g_w3)
    have mg_0 := mg.c0; have mg_1 := mg.c1; have mg_2 := mg.c2; have mg_l := mg.lt; have mg_f := mg.fz
    clear mr_0 mr_1 mr_2 mr_l mr_f
    replace mr := mr.grows (w' := w3) (by exact bel1 g_w3)
    have mr_0 := mr.c0; have mr_1 := mr.c1; have mr_2 := mr.c2; have mr_l := mr.lt; have mr_f := mr.fz
    replace ha1 := ha1.grows (w' := w3) (by exact bel1 g_w3)
    replace hr2 := hr2.grows (w' := w3) (by exact bel1 g_w3)
    have mt : MBox w3 (w2.heap.size) t.r t.c (.slice A2 t.l.length c2) := MBox.grows (MBox.new_ w2 t.r t.c (.slice A2 t.l.length c2) 26 (by simp)) (w' := w3) (by exact bel1 g_w3)
    have mt_0 := mt.c0; have mt_1 := mt.c1; have mt_2 := mt.c2; have mt_l := mt.lt; have mt_f := mt.fz
    replace HG : Grows w w3 := by exact bel2 g_w3 HG
    have h_w3 := Below.size HG
    obtain ⟨A3, c3, rfl, _, _⟩ := o3.val
    go_wp2_with fail
    refine bodyPost_ret (v := .tuple #[.agg #[.int .i64 (oM RES).r, .int .i64 (oM RES).c, .slice A3 (oM RES).l.length c3], .bool RES.isSome]) ?_ rfl ?_
    · simp [results, Try.results27, go_sem, mr_0, mr_1, mr_2, mr_f, mr_l]
    · exact ⟨_, rfl, by exact ownl o3, by exact bel1 HG⟩
theorem iIsSat_c (r c : Int) (A : Option Addr) (l : List Int) (n cap : Nat) (w : World) (hn : l.length = n) (ha : Rd w A l) (hl : n ≤ 1099511627776) :
    Calls Try.prog 15 #[.agg #[.int .i64 r, .int .i64 c, .slice A n cap]] w fun e w' => e = .returned (.tuple #[.bool ((isSatO ⟨r, c, l⟩).getD false), .bool (isSatO ⟨r, c, l⟩).isSome]) ∧ Grows w w' := by
  have CS := Lib.hid fun W h => (iSat_c r c A l n cap W hn h hl).mono fun _ _ h => matRet_out h
  have CB := Lib.hid fun W h => (iBas_c r c A l n cap W hn h hl).mono fun _ _ h => matRet_out h
  obtain ⟨w1, hw1⟩ : ∃ w1, w1 = w.alloc (.cells #[.int .i64 r, .int .i64 c, .slice A n cap] 26) := ⟨_, rfl⟩
  have mg : MBox w1 w.heap.size r c (.slice A n cap) := by rw [hw1]; exact MBox.mk_ _ _ _ _ _
  have HG : Grows w w1 := by rw [hw1]; exact bel0
  have HW1 := Lib.hid hw1
  have ha1 := ha.grows HG
  have h_w1 := Below.size HG
  obtain ⟨RES, hRES⟩ : ∃ x, x = isSatO ⟨r, c, l⟩ := ⟨_, rfl⟩
  rw [← hRES]
  unfold isSatO at hRES
  have hsl : (oM (satO ⟨r, c, l⟩)).l.length ≤ 576 := oM_length fun m h => satO_ok h
  have hbl : (oM (basO ⟨r, c, l⟩)).l.length ≤ 576 := oM_length fun m h => basO_ok h
  have h0 : (satO ⟨r, c, l⟩).isSome = false ∨ (basO ⟨r, c, l⟩).isSome = false → RES = none := fun h => by
    rw [hRES]
    cases e : satO ⟨r, c, l⟩ with
    | none => rfl
    | some s => cases e2 : basO ⟨r, c, l⟩ with
      | none => rfl
      | some b => rw [e, e2] at h; rcases h with h | h <;> cases h
  have h1 : (satO ⟨r, c, l⟩).isSome = true → (basO ⟨r, c, l⟩).isSome = true → RES = some (eqMat (oM (satO ⟨r, c, l⟩)).r (oM (satO ⟨r, c, l⟩)).c (oM (satO ⟨r, c, l⟩)).l (oM (basO ⟨r, c, l⟩)).r (oM (basO ⟨r, c, l⟩)).c (oM (basO ⟨r, c, l⟩)).l) := fun hs hb => by
    rw [hRES]
    cases e : satO ⟨r, c, l⟩ with
    | none => rw [e] at hs; cases hs
    | some s => cases e2 : basO ⟨r, c, l⟩ with
      | none => rw [e2] at hb; cases hb
      | some b => rfl
  generalize (satO ⟨r, c, l⟩).isSome = ok1 at *
  generalize (basO ⟨r, c, l⟩).isSome = ok2 at *
  generalize oM (satO ⟨r, c, l⟩) = s at *
  generalize oM (basO ⟨r, c, l⟩) = b at *
  have H0 := Lib.hid h0
  have H1 := Lib.hid h1
  have CQ := fun W A B ca cb h h' => sameMatrix_c s.r s.c b.r b.c A B s.l b.l s.l.length b.l.length ca cb W rfl rfl h h' (by omega) (by omega)
  generalize eqMat s.r s.c s.l b.r b.c b.l = eq at *
  have CQ' := Lib.hid CQ
  clear hw1 hRES h0 h1 CQ
  go_enter Try.func15, Try.ntmps15
  go_wp2_with fail
  rw [← HW1.out]
  have mg_0 := mg.c0; have mg_1 := mg.c1; have mg_2 := mg.c2; have mg_l := mg.lt; have mg_f := mg.fz
  refine (CS.out _ (by exact Rd.grows ha1 (by exact bel0))).mono ?_; rintro e w2 ⟨v2, rfl, o2, g_w2⟩
  have s_w2 := Below.size g_w2; (try simp at s_w2)
  clear mg_0 mg_1 mg_2 mg_l mg_f
  replace mg := mg.grows (w' := w2) (by exact bel1 g_w2)
  have mg_0 := mg.c0; have mg_1 := mg.c1; have mg_2 := mg.c2; have mg_l := mg.lt; have mg_f := mg.fz
  replace ha1 := ha1.grows (w' := w2) (by exact bel1 g_w2)
  replace HG : Grows w w2 := by exact bel2 g_w2 HG
  have h_w2 := Below.size HG
  obtain ⟨A2, c2, rfl, hr2, _⟩ := o2.val
  go_wp2_with fail
  refine (CB.out _ (by exact Rd.grows ha1 (by exact bel0))).mono ?_; rintro e w3 ⟨v3, rfl, o3, g_w3⟩
  have s_w3 := Below.size g_w3; (try simp at s_w3)
  clear mg_0 mg_1 mg_2 mg_l mg_f
  replace mg := mg.grows (w' := w3) (by exact bel1 g_w3)
  have mg_0 := mg.c0; have mg_1 := mg.c1; have mg_2 := mg.c2; have mg_l := mg.lt; have mg_f := mg.fz
  replace ha1 := ha1.grows (w' := w3) (by exact bel1 g_w3)
  replace hr2 := hr2.grows (w' := w3) (by exact bel1 g_w3)
  have ms : MBox w3 (w2.heap.size) s.r s.c (.slice A2 s.l.length c2) := MBox.grows (MBox.new_ w2 s.r s.c (.slice A2 s.l.length c2) 26 (by simp)) (w' := w3) (by exact bel1 g_w3)
  have ms_0 := ms.c0; have ms_1 := ms.c1; have ms_2 := ms.c2; have ms_l := ms.lt; have ms_f := ms.fz
  replace HG : Grows w w3 := by exact bel2 g_w3 HG
  have h_w3 := Below.size HG
  obtain ⟨A3, c3, rfl, hr3, _⟩ := o3.val
  cases ok1
  · obtain rfl : RES = none := H0.out (.inl rfl)
    go_wp2_with fail
    go_ret2
    exact ⟨rfl, by exact bel1 HG⟩
  · cases ok2
    · obtain rfl : RES = none := H0.out (.inr rfl)
      go_wp2_with fail
      go_ret2
      exact ⟨rfl, by exact bel1 HG⟩
    · obtain rfl : RES = some eq := H1.out rfl rfl
      go_wp2_with fail
      refine (CQ'.out _ _ _ _ _ (by exact Rd.grows hr2 (by exact bel0)) (by exact Rd.grows hr3 (by exact bel0))).mono ?_; rintro e w4 ⟨rfl, g_w4⟩
      have s_w4 := Below.size g_w4; (try simp at s_w4)
      clear mg_0 mg_1 mg_2 mg_l mg_f
      replace mg := mg.grows (w' := w4) (by exact bel1 g_w4)
      have mg_0 := mg.c0; have mg_1 := mg.c1; have mg_2 := mg.c2; have mg_l := mg.lt; have mg_f := mg.fz
      replace ha1 := ha1.grows (w' := w4) (by exact bel1 g_w4)
      replace hr2 := hr2.grows (w' := w4) (by exact bel1 g_w4)
      clear ms_0 ms_1 ms_2 ms_l ms_f
      replace ms := ms.grows (w' := w4) (by exact bel1 g_w4)
      have ms_0 := ms.c0; have ms_1 := ms.c1; have ms_2 := ms.c2; have ms_l := ms.lt; have ms_f := ms.fz
      replace hr3 := hr3.grows (w' := w4) (by exact bel1 g_w4)
      have mb : MBox w4 (w3.heap.size) b.r b.c (.slice A3 b.l.length c3) := MBox.grows (MBox.new_ w3 b.r b.c (.slice A3 b.l.length c3) 26 (by simp)) (w' := w4) (by exact bel1 g_w4)
      have mb_0 := mb.c0; have mb_1 := mb.c1; have mb_2 := mb.c2; have mb_l := mb.lt; have mb_f := mb.fz
      replace HG : Grows w w4 := by exact bel2 g_w4 HG
      have h_w4 := Below.size HG
      go_wp2_with fail
      go_ret2
      exact ⟨rfl, by exact bel1 HG⟩
theorem iRank_c (r c : Int) (A : Option Addr) (l : List Int) (n cap : Nat) (w : World) (hn : l.length = n) (ha : Rd w A l) (hl : n ≤ 1099511627776) :
    Calls Try.prog 13 #[.agg #[.int .i64 r, .int .i64 c, .slice A n cap]] w fun e w' => ∃ (t : Nat) (ok : Bool), e = .returned (.tuple #[.int .i64 (t : Nat), .bool ok]) ∧ (ok = true → ∃ a, EchO ⟨r, c, l⟩ t a) ∧ t ≤ 24 ∧ Grows w w' := by
  have CE := Lib.hid fun W h => iEch_c r c A l n cap W hn h hl
  obtain ⟨w1, hw1⟩ : ∃ w1, w1 = w.alloc (.cells #[.int .i64 r, .int .i64 c, .slice A n cap] 26) := ⟨_, rfl⟩
  have mg : MBox w1 w.heap.size r c (.slice A n cap) := by rw [hw1]; exact MBox.mk_ _ _ _ _ _
  have HG : Grows w w1 := by rw [hw1]; exact bel0
  have HW1 := Lib.hid hw1
  have ha1 := ha.grows HG
  have h_w1 := Below.size HG
  clear hw1
  go_enter Try.func13, Try.ntmps13
  go_wp2_with fail
  rw [← HW1.out]
  have mg_0 := mg.c0; have mg_1 := mg.c1; have mg_2 := mg.c2; have mg_l := mg.lt; have mg_f := mg.fz
  refine (CE.out _ (by exact Rd.grows ha1 (by exact bel0))).mono ?_; rintro e w2 ⟨ok, t, r', c', V, cv, a, P, cp, rfl, hE, _, _, _, _, ht, g_w2⟩
  have s_w2 := Below.size g_w2; (try simp at s_w2)
  clear mg_0 mg_1 mg_2 mg_l mg_f
  replace mg := mg.grows (w' := w2) (by exact bel1 g_w2)
  have mg_0 := mg.c0; have mg_1 := mg.c1; have mg_2 := mg.c2; have mg_l := mg.lt; have mg_f := mg.fz
  replace ha1 := ha1.grows (w' := w2) (by exact bel1 g_w2)
  replace HG : Grows w w2 := by exact bel2 g_w2 HG
  have h_w2 := Below.size HG
  have HE := Lib.hid fun h => (hE h).1
  clear hE
  go_wp2_with fail
  go_ret2
  exact ⟨t, ok, rfl, fun h => ⟨a, HE.out h⟩, ht, by exact bel1 HG⟩
theorem iSpc_c (R C R' : Nat) (A A' : Option Addr) (l l' : List Int) (n n' cap cap' : Nat) (w : World) (hn : l.length = n) (hn' : l'.length = n') (ha : Rd w A l) (ha' : Rd w A' l') (hl : n ≤ 1099511627776) (hl' : n' ≤ 1099511627776)
    (heq : ∀ t x t' x', EchO ⟨R, C, l⟩ t x → EchO ⟨R', C, l'⟩ t' x' → t = t' ∧ t ≤ R ∧ x.take (t * C) = x'.take (t * C)) :
    Calls Try.prog 29 #[.agg #[.int .i64 R, .int .i64 C, .slice A n cap], .agg #[.int .i64 R', .int .i64 C, .slice A' n' cap']] w fun e w' => ∃ four : Bool, e = .returned (.tuple #[.bool four, .bool four]) ∧ Grows w w' := by
  have CE := Lib.hid fun W h => iEch_c R C A l n cap W hn h hl
  have CF := Lib.hid fun W h => iEch_c R' C A' l' n' cap' W hn' h hl'
  have HEQ := Lib.hid heq
  obtain ⟨w1, hw1⟩ : ∃ w1, w1 = (w.alloc (.cells #[.int .i64 R, .int .i64 C, .slice A n cap] 26)).alloc (.cells #[.int .i64 R', .int .i64 C, .slice A' n' cap'] 26) := ⟨_, rfl⟩
  have mg : MBox w1 w.heap.size R C (.slice A n cap) := by rw [hw1]; exact (MBox.mk_ _ _ _ _ _).alloc _
  have mh : MBox w1 (w.heap.size + 1) R' C (.slice A' n' cap') := by rw [hw1]; exact MBox.new_ _ _ _ _ _ (by simp)
  have HG : Grows w w1 := by rw [hw1]; exact bel0
  have HW1 := Lib.hid hw1
  have ha1 := ha.grows HG
  have ha1' := ha'.grows HG
  have h_w1 := Below.size HG
  clear hw1 heq
  go_enter Try.func29, Try.ntmps29
  go_wp2_with fail
  rw [← HW1.out]
  have mg_0 := mg.c0; have mg_1 := mg.c1; have mg_2 := mg.c2; have mg_l := mg.lt; have mg_f := mg.fz
  have mh_0 := mh.c0; have mh_1 := mh.c1; have mh_2 := mh.c2; have mh_l := mh.lt; have mh_f := mh.fz
  refine (CE.out _ (by exact Rd.grows ha1 (by exact bel0))).mono ?_; rintro e w2 ⟨ok, t, r2, c2, V, cv, a, P, cp, rfl, hE, hra, hcv, hcv2, hal, ht, g_w2⟩
  have s_w2 := Below.size g_w2; (try simp at s_w2)
  clear mg_0 mg_1 mg_2 mg_l mg_f
  replace mg := mg.grows (w' := w2) (by exact bel1 g_w2)
  have mg_0 := mg.c0; have mg_1 := mg.c1; have mg_2 := mg.c2; have mg_l := mg.lt; have mg_f := mg.fz
  clear mh_0 mh_1 mh_2 mh_l mh_f
  replace mh := mh.grows (w' := w2) (by exact bel1 g_w2)
  have mh_0 := mh.c0; have mh_1 := mh.c1; have mh_2 := mh.c2; have mh_l := mh.lt; have mh_f := mh.fz
  replace ha1 := ha1.grows (w' := w2) (by exact bel1 g_w2)
  replace ha1' := ha1'.grows (w' := w2) (by exact bel1 g_w2)
  replace HG : Grows w w2 := by exact bel2 g_w2 HG
  have h_w2 := Below.size HG
  go_wp2_with fail
  refine (CF.out _ (by exact Rd.grows ha1' (by exact bel0))).mono ?_; rintro e w3 ⟨ok', t', r3, c3, V', cv', a', P', cp', rfl, hE', hra', hcv', hcv2', hal', ht', g_w3⟩
  have s_w3 := Below.size g_w3; (try simp at s_w3)
  clear mg_0 mg_1 mg_2 mg_l mg_f
  replace mg := mg.grows (w' := w3) (by exact bel1 g_w3)
  have mg_0 := mg.c0; have mg_1 := mg.c1; have mg_2 := mg.c2; have mg_l := mg.lt; have mg_f := mg.fz
  clear mh_0 mh_1 mh_2 mh_l mh_f
  replace mh := mh.grows (w' := w3) (by exact bel1 g_w3)
  have mh_0 := mh.c0; have mh_1 := mh.c1; have mh_2 := mh.c2; have mh_l := mh.lt; have mh_f := mh.fz
  replace ha1 := ha1.grows (w' := w3) (by exact bel1 g_w3)
  replace ha1' := ha1'.grows (w' := w3) (by exact bel1 g_w3)
  replace hra := hra.grows (w' := w3) (by exact bel1 g_w3)
  have ma : MBox w3 (w2.heap.size) r2 c2 (.slice V a.length cv) := MBox.grows (MBox.new_ w2 r2 c2 (.slice V a.length cv) 26 (by simp)) (w' := w3) (by exact bel1 g_w3)
  have ma_0 := ma.c0; have ma_1 := ma.c1; have ma_2 := ma.c2; have ma_l := ma.lt; have ma_f := ma.fz
  replace HG : Grows w w3 := by exact bel2 g_w3 HG
  have h_w3 := Below.size HG
  have HE := Lib.hid hE
  have HE' := Lib.hid hE'
  clear hE hE'
  cases ok
  · go_wp2_with fail
    go_ret2
    exact ⟨false, rfl, by exact bel1 HG⟩
  · cases ok'
    · go_wp2_with fail
      go_ret2
      exact ⟨false, rfl, by exact bel1 HG⟩
    · obtain ⟨e1, e2, e3⟩ := HE.out rfl
      obtain ⟨e1', e2', e3'⟩ := HE'.out rfl
      have e3 : c2 = (C : Int) := e3
      have e3' : c3 = (C : Int) := e3'
      have e2 : r2 = (R : Int) := e2
      have e2' : r3 = (R' : Int) := e2'
      subst e3 e3' e2 e2'
      have hb : t * C ≤ a.length ∧ t * C ≤ a'.length ∧ C ≤ 24 ∧ t = t' ∧ a.take (t * C) = a'.take (t * C) := by
        obtain ⟨k1, k2, k3⟩ := HEQ.out _ _ _ _ e1 e1'
        obtain ⟨R1, C1, l1, p1, f1, m1, g1, E1⟩ := e1
        obtain ⟨R2, C2, l2, p2, f2, _, g2, E2⟩ := e1'
        obtain ⟨f3, f4, f5⟩ := MX.mk.inj f1
        obtain ⟨f6, f7, f8⟩ := MX.mk.inj f2
        obtain rfl : C = C1 := by omega
        obtain rfl : C = C2 := by omega
        obtain ⟨_, _, _, _, _, q, _⟩ := isMat_nat m1
        have h1 := Nat.mul_le_mul_right C E1.tR
        have h2 := Nat.mul_le_mul_right C E2.tR
        subst k1
        refine ⟨by omega, by omega, by omega, rfl, k3⟩
      obtain ⟨b1, b2, b3, rfl, b5⟩ := hb
      obtain ⟨Q, hQ⟩ : ∃ Q : Nat, Q = t * C := ⟨_, rfl⟩
      rw [← hQ] at b1 b2 b5
      have hQ1 : (t : Int) * (C : Int) = (Q : Int) := by rw [hQ, Int.natCast_mul]
      have hQ2 : (Q : Int) ≤ (cv : Int) := by omega
      have hQ3 : (Q : Int) ≤ (cv' : Int) := by omega
      have hQ4 : Q ≤ cv := by omega
      have hQ5 : Q ≤ cv' := by omega
      have hQ6 : (Q : Int) ≤ 576 := by omega
      have kQ : IntKind.i64.wrap (Q : Int) = (Q : Int) := IntWalk.i64_in _ (by omega)
      have CQ := Lib.hid fun W h h' => slicesEqual_c V V' (a.take Q) (a'.take Q) Q Q cv cv' W (by rw [List.length_take]; omega) (by rw [List.length_take]; omega) h h' (by omega) (by omega)
      have hee : eqL (a.take Q) (a'.take Q) = true := by rw [b5]; unfold eqL; simp
      rw [hee] at CQ
      obtain ⟨w4, hw4⟩ : ∃ w4, w4 = w3.alloc (.cells #[.int .i64 (R' : Int), .int .i64 (C : Int), .slice V' a'.length cv'] 26) := ⟨_, rfl⟩
      have g_w4 : Grows (w3.alloc (.cells #[.int .i64 (R' : Int), .int .i64 (C : Int), .slice V' a'.length cv'] 26)) w4 := by rw [hw4]; exact Grows.refl _
      have HW4 := Lib.hid hw4
      clear hw4
      have s_w4 := Below.size g_w4; (try simp at s_w4)
      clear mg_0 mg_1 mg_2 mg_l mg_f
      replace mg := mg.grows (w' := w4) (by exact bel1 g_w4)
      have mg_0 := mg.c0; have mg_1 := mg.c1; have mg_2 := mg.c2; have mg_l := mg.lt; have mg_f := mg.fz
      clear mh_0 mh_1 mh_2 mh_l mh_f
      replace mh := mh.grows (w' := w4) (by exact bel1 g_w4)
      have mh_0 := mh.c0; have mh_1 := mh.c1; have mh_2 := mh.c2; have mh_l := mh.lt; have mh_f := mh.fz
      replace ha1 := ha1.grows (w' := w4) (by exact bel1 g_w4)
      replace ha1' := ha1'.grows (w' := w4) (by exact bel1 g_w4)
      replace hra := hra.grows (w' := w4) (by exact bel1 g_w4)
      clear ma_0 ma_1 ma_2 ma_l ma_f
      replace ma := ma.grows (w' := w4) (by exact bel1 g_w4)
      have ma_0 := ma.c0; have ma_1 := ma.c1; have ma_2 := ma.c2; have ma_l := ma.lt; have ma_f := ma.fz
      replace hra' := hra'.grows (w' := w4) (by exact bel1 g_w4)
      have mb : MBox w4 (w3.heap.size) (R' : Int) (C : Int) (.slice V' a'.length cv') := MBox.grows (MBox.new_ w3 (R' : Int) (C : Int) (.slice V' a'.length cv') 26 (by simp)) (w' := w4) (by exact bel1 g_w4)
      have mb_0 := mb.c0; have mb_1 := mb.c1; have mb_2 := mb.c2; have mb_l := mb.lt; have mb_f := mb.fz
      replace HG : Grows w w4 := by exact bel2 g_w4 HG
      have h_w4 := Below.size HG
      have rda := hra.take_ Q
      have rdb := hra'.take_ Q
      have y0 := ma.ext.1; have y1 := ma.ext.2.1; have y2 := ma.ext.2.2
      have z0 := mb.ext.1; have z1 := mb.ext.2.1; have z2 := mb.ext.2.2
      clear e1 e1' hQ hee HEQ CE CF b5
      go_upto_region 3 with fail
      rw [← HW4.out]
      go_upto_region 5 with fail
      ((refine wp_region_ext (by kernel_rfl) (by kernel_rfl) ?_); (repeat (go_big_quiet_step ((go_at_call 69; with_reducible exact extC (CQ.out _ (Rd.ext rda _) (Rd.ext rdb _)))))); refine wpQuiet_nil ?_; rintro w5 ⟨w50, hw50⟩; have g5 := grows_of_ext hw50; clear hw50 w50)
      go_wp2_with fail
      go_ret2
      exact ⟨true, rfl, by exact bel2 g5 HG⟩
end
end Go.Proofs.Ytbfkpfdkndnhkaa
