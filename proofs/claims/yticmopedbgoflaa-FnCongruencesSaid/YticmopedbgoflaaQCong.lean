/- Contracts and lemmas, put together. -/
import Derived.Test.YticmopedbgoflaaPkB
import Derived.Test.YticmopedbgoflaaPkE
import Derived.Test.YticmopedbgoflaaPkI
/- Contracts: the lattice of the vectors whose products with a vector are multiples of a number. -/
namespace Go.Proofs.Yticmopedbgoflaa
set_option linter.unusedSimpArgs false
set_option linter.unusedVariables false
open Go.RowKit

/-- the first N columns of a kernel, a basis of their rows -/
def cutO (o : Option MX) (N : Nat) : Option MX := o.bind fun k => basO ⟨k.r, N, fcL k.r.toNat k.c.toNat N k.l⟩
def conO (v : List Int) (n : Int) : Option MX := if 1 ≤ n then cutO (kerO ⟨((v.length + 1 : Nat) : Int), 1, v ++ [n]⟩) v.length else none
theorem cutO_ok {o : Option MX} {N : Nat} {m : MX} (h : cutO o N = some m) : m.ok = true := by
  unfold cutO at h
  obtain ⟨x, _, h2⟩ := Option.bind_eq_some_iff.1 h
  exact basO_ok h2
theorem conO_ok {v : List Int} {n : Int} {m : MX} (h : conO v n = some m) : m.ok = true := by
  unfold conO at h
  split at h
  · exact cutO_ok h
  · cases h
theorem cutO_some {T C N : Nat} {l : List Int} : cutO (some ⟨T, C, l⟩) N = basO ⟨T, N, fcL T C N l⟩ := by
  show basO _ = _
  simp only [Int.toNat_natCast]

section
set_option maxHeartbeats 2000000
theorem iCon_c (V : Option Addr) (v : List Int) (n : Int) (m cv : Nat) (w : World) (hm : v.length = m) (hv : Rd w V v) (hl : m ≤ 1048576) :
    Calls Try.prog 44 #[.slice V m cv, .int .i64 n] w (MatRet (conO v n) w) := by
  obtain ⟨w1, hw1⟩ : ∃ w1, w1 = w.alloc (.cells #[.int .i64 0, .int .i64 0, .slice none 0 0] 26) := ⟨_, rfl⟩
  have mr : MBox w1 w.heap.size 0 0 (.slice none 0 0) := by rw [hw1]; exact MBox.mk_ _ _ _ _ _
  have HG : Grows w w1 := by rw [hw1]; exact bel0
  have hv1 := hv.grows HG
  have h_w1 := Below.size HG
  have HS1 : w1.heap.size = w.heap.size + 1 := by rw [hw1]; simp
  have HW1 := Lib.hid hw1
  obtain ⟨RES, hRES⟩ : ∃ x, x = conO v n := ⟨_, rfl⟩
  rw [← hRES]
  unfold conO at hRES
  by_cases h1 : 1 ≤ n
  · rw [if_pos h1] at hRES
    have hn1 : ¬ n < 1 := by omega
    obtain ⟨K, hK⟩ : ∃ K, K = m + 1 := ⟨_, rfl⟩
    rw [hm, ← hK] at hRES
    have hvk : (v ++ [n]).length = K := by simp [hm, hK]
    have KSH := Lib.hid fun k h => kerO_shape (a := ⟨K, 1, v ++ [n]⟩) (k := k) h
    have CO := Lib.hid fun W A cp h => columnOf_c A (v ++ [n]) K cp W hvk h (by omega)
    have CK := fun W A cp h => (iKer_c K 1 A (v ++ [n]) K cp W hvk h (by omega)).mono fun _ _ h => matRet_out h
    obtain ⟨KO, hKO⟩ : ∃ x, x = kerO ⟨K, 1, v ++ [n]⟩ := ⟨_, rfl⟩
    rw [← hKO] at CK hRES
    have HSH : RowKit.Hid (∀ k, KO = some k → ∃ (T : Nat) (l : List Int), k = ⟨T, K, l⟩ ∧ K ≤ 24 ∧ T ≤ 24 ∧ l.length = T * K) := Lib.hid fun k h => by
      rw [hKO] at h
      obtain ⟨T, C, l, rfl, e, h1, h2, h3, _⟩ := KSH.out k h
      simp only at e
      obtain rfl : K = C := by omega
      exact ⟨T, l, rfl, h2, h1, h3⟩
    have CK' := Lib.hid CK
    have HR := Lib.hid hRES
    have HM := Lib.hid hm
    have HVK := Lib.hid hvk
    have HK := Lib.hid hK
    clear hw1 h1 CK hRES hKO hm hvk hK KSH
    go_enter Try.func44, Try.ntmps44
    go_wp2_with (first | (at_builtin; refine wpList_app1 rfl (.tmp 14) (.tmp 16) rfl _ n (w.heap.size + 1) _ v (by rfl) ho2 (by rfl) (by rw [HM.out]; omega) (by omega) ?_; intro v3 w3 ho3 hg3 _; have g_w3 : Grows w1 w3 := Below.trans g_w2 (below_app (ho2.less (B' := w1.heap.size) (by omega)) (by omega) hg3); obtain ⟨A3, c3, hv3, _, _⟩ := ho3.val; rw [HVK.out] at hv3; subst hv3; clear hg3) | (at_builtin; refine wpList_app rfl (.tmp 12) (.tmp 13) rfl _ (w.heap.size + 1) _ [] (by rfl) (Own.new_ _ (by simp) (by simp)) V v m cv (by rfl) HM.out (by exact (Rd.grows hv (by exact bel0))) (by rw [HM.out]; simp; omega) (by simp) ?_; intro v2 w2 ho2 hg2 _; have hb2 := below_app (Own.new_ (w.alloc (.cells #[.int .i64 0, .int .i64 0, .slice none 0 0] 26)) (B := w.heap.size + 1) (b := w.heap.size + 1) (by simp) (by simp)) (by simp) hg2; have g_w2 : Grows w1 w2 := (by rw [HW1.out]; exact Below.trans (show Below _ (w.alloc (.cells #[.int .i64 0, .int .i64 0, .slice none 0 0] 26)) ((w.alloc (.cells #[.int .i64 0, .int .i64 0, .slice none 0 0] 26)).alloc (.cells #[] 3)) by exact bel0) (hb2.mono (by simp))); rw [List.nil_append] at ho2; obtain ⟨A2, c2, hv2, _, _⟩ := ho2.val; rw [HM.out] at hv2; subst hv2; have s_w2 := Below.size g_w2; clear hg2 hb2))
    have hr3 := ho3.rd'
    clear ho2 ho3 g_w2 s_w2
    have mr_0 := mr.c0; have mr_1 := mr.c1; have mr_2 := mr.c2; have mr_l := mr.lt; have mr_f := mr.fz
    have s_w3 := Below.size g_w3; (try simp at s_w3)
    clear mr_0 mr_1 mr_2 mr_l mr_f
    replace mr := mr.grows (w' := w3) (by exact bel1 g_w3)
    have mr_0 := mr.c0; have mr_1 := mr.c1; have mr_2 := mr.c2; have mr_l := mr.lt; have mr_f := mr.fz
    replace hv1 := hv1.grows (w' := w3) (by exact bel1 g_w3)
    replace HG : Grows w w3 := by exact bel2 g_w3 HG
    have h_w3 := Below.size HG
    refine (CO.out _ _ _ (by exact Rd.grows hr3 (by exact bel0))).mono ?_; rintro e w4 ⟨v4, rfl, o4, g_w4⟩
    have s_w4 := Below.size g_w4; (try simp at s_w4)
    clear mr_0 mr_1 mr_2 mr_l mr_f
    replace mr := mr.grows (w' := w4) (by exact bel1 g_w4)
    have mr_0 := mr.c0; have mr_1 := mr.c1; have mr_2 := mr.c2; have mr_l := mr.lt; have mr_f := mr.fz
    replace hv1 := hv1.grows (w' := w4) (by exact bel1 g_w4)
    replace hr3 := hr3.grows (w' := w4) (by exact bel1 g_w4)
    replace HG : Grows w w4 := by exact bel2 g_w4 HG
    have h_w4 := Below.size HG
    obtain ⟨A4, c4, rfl, hr4, _⟩ := o4.val
    rw [HVK.out]
    go_wp2_with fail
    refine (CK'.out _ _ _ (by exact Rd.grows hr4 (by exact bel0))).mono ?_; rintro e w5 ⟨v5, rfl, o5, g_w5⟩
    have s_w5 := Below.size g_w5; (try simp at s_w5)
    clear mr_0 mr_1 mr_2 mr_l mr_f
    replace mr := mr.grows (w' := w5) (by exact bel1 g_w5)
    have mr_0 := mr.c0; have mr_1 := mr.c1; have mr_2 := mr.c2; have mr_l := mr.lt; have mr_f := mr.fz
    replace hv1 := hv1.grows (w' := w5) (by exact bel1 g_w5)
    replace hr3 := hr3.grows (w' := w5) (by exact bel1 g_w5)
    replace hr4 := hr4.grows (w' := w5) (by exact bel1 g_w5)
    replace HG : Grows w w5 := by exact bel2 g_w5 HG
    have h_w5 := Below.size HG
    obtain ⟨A5, c5, rfl, hr5, _⟩ := o5.val
    cases KO with
    | none =>
      obtain rfl : RES = none := HR.out
      go_wp2_with fail
      refine bodyPost_ret (v := .tuple #[.agg #[.int .i64 0, .int .i64 0, .slice none 0 0], .bool false]) ?_ rfl ?_
      · simp [results, Try.results44, go_sem, mr_0, mr_1, mr_2, mr_f, mr_l]
      · exact ⟨_, rfl, Own.nil _ _, by exact bel1 HG⟩
    | some k =>
      obtain ⟨T, l, rfl, hK24, hT, hll⟩ := HSH.out k rfl
      simp only [oM_some] at o5 hr5 ⊢
      have hcp := o5.caps
      have HLL := Lib.hid hll
      have hmK : m ≤ K := by have := HK.out; omega
      have CF := Lib.hid fun W A cp h1 h2 h => firstCols_c T K m A l l.length cp W rfl HLL.out hT hK24 hmK h1 h2 h
      have hRB : RES = basO ⟨T, m, fcL T K m l⟩ := HR.out.trans cutO_some
      have hTm : T * m ≤ 576 := by have := Nat.mul_le_mul hT (show m ≤ 24 by omega); omega
      have hfl := fcL_length T K m l
      have CB := fun W A cp h => (iBas_c T m A (fcL T K m l) (T * m) cp W hfl h (by omega)).mono fun _ _ h => matRet_out h
      rw [← hRB] at CB
      generalize fcL T K m l = F at *
      have CB' := Lib.hid CB
      have HFL := Lib.hid hfl
      clear CB hRB hll hfl
      go_wp2_with fail
      refine ((CF.out _ _ _ hcp.2.1 hcp.2.2 (by exact Rd.grows hr5 (by exact bel0)))).mono ?_; rintro e w6 hop; obtain ⟨v6, rfl, o6, g_w6⟩ := mat1_out hop; clear hop
      have s_w6 := Below.size g_w6; (try simp at s_w6)
      clear mr_0 mr_1 mr_2 mr_l mr_f
      replace mr := mr.grows (w' := w6) (by exact bel1 g_w6)
      have mr_0 := mr.c0; have mr_1 := mr.c1; have mr_2 := mr.c2; have mr_l := mr.lt; have mr_f := mr.fz
      replace hv1 := hv1.grows (w' := w6) (by exact bel1 g_w6)
      replace hr3 := hr3.grows (w' := w6) (by exact bel1 g_w6)
      replace hr4 := hr4.grows (w' := w6) (by exact bel1 g_w6)
      replace hr5 := hr5.grows (w' := w6) (by exact bel1 g_w6)
      replace o5 := o5.grows (w' := w6) (by exact bel1 g_w6)
      have mk : MBox w6 (w5.heap.size) T K (.slice A5 l.length c5) := MBox.grows (MBox.new_ w5 T K (.slice A5 l.length c5) 26 (by simp)) (w' := w6) (by exact bel1 g_w6)
      have mk_0 := mk.c0; have mk_1 := mk.c1; have mk_2 := mk.c2; have mk_l := mk.lt; have mk_f := mk.fz
      replace HG : Grows w w6 := by exact bel2 g_w6 HG
      have h_w6 := Below.size HG
      obtain ⟨A6, c6, rfl, hr6, _⟩ := o6.val
      simp only at hr6 ⊢
      rw [HFL.out]
      go_wp2_with fail
      refine (CB'.out _ _ _ (by exact Rd.grows hr6 (by exact bel0))).mono ?_; rintro e w7 ⟨v7, rfl, o7, g_w7⟩
      have s_w7 := Below.size g_w7; (try simp at s_w7)
      clear mr_0 mr_1 mr_2 mr_l mr_f
      replace mr := mr.grows (w' := w7) (by exact bel1 g_w7)
      have mr_0 := mr.c0; have mr_1 := mr.c1; have mr_2 := mr.c2; have mr_l := mr.lt; have mr_f := mr.fz
      replace hv1 := hv1.grows (w' := w7) (by exact bel1 g_w7)
      replace hr3 := hr3.grows (w' := w7) (by exact bel1 g_w7)
      replace hr4 := hr4.grows (w' := w7) (by exact bel1 g_w7)
      replace hr5 := hr5.grows (w' := w7) (by exact bel1 g_w7)
      replace o5 := o5.grows (w' := w7) (by exact bel1 g_w7)
      clear mk_0 mk_1 mk_2 mk_l mk_f
      replace mk := mk.grows (w' := w7) (by exact bel1 g_w7)
      have mk_0 := mk.c0; have mk_1 := mk.c1; have mk_2 := mk.c2; have mk_l := mk.lt; have mk_f := mk.fz
      replace hr6 := hr6.grows (w' := w7) (by exact bel1 g_w7)
      replace HG : Grows w w7 := by exact bel2 g_w7 HG
      have h_w7 := Below.size HG
      obtain ⟨A7, c7, rfl, _, _⟩ := o7.val
      go_wp2_with fail
      refine bodyPost_ret (v := .tuple #[.agg #[.int .i64 (oM RES).r, .int .i64 (oM RES).c, .slice A7 (oM RES).l.length c7], .bool RES.isSome]) ?_ rfl ?_
      · simp [results, Try.results44, go_sem, mr_0, mr_1, mr_2, mr_f, mr_l]
      · exact ⟨_, rfl, by exact ownl o7, by exact bel1 HG⟩
  · rw [if_neg h1] at hRES
    subst hRES
    have hn1 : n < 1 := by omega
    clear hw1 h1 hm
    go_enter Try.func44, Try.ntmps44
    go_wp2_with fail
    rw [← HW1.out]
    have mr_0 := mr.c0; have mr_1 := mr.c1; have mr_2 := mr.c2; have mr_l := mr.lt; have mr_f := mr.fz
    go_wp2_with fail
    refine bodyPost_ret (v := .tuple #[.agg #[.int .i64 0, .int .i64 0, .slice none 0 0], .bool false]) ?_ rfl ?_
    · simp [results, Try.results44, go_sem, mr_0, mr_1, mr_2, mr_f, mr_l]
    · exact ⟨_, rfl, Own.nil _ _, by exact bel1 HG⟩
theorem kerO_no {a : MX} (h : a.ok = false) : kerO a = none := by unfold kerO; rw [hermO_no h]; rfl
theorem keep3 {W : World} {b b' : Nat} {r c r' c' : Int} {v v' : Value} (h : MBox W b r c v) (h' : MBox W b' r' c' v') : W.cell? ⟨b, 1, none⟩ = some (.int .i64 c) ∧ W.cell? ⟨b, 2, none⟩ = some v ∧ W.cell? ⟨b', 2, none⟩ = some v' := ⟨h.c1, h.c2, h'.c2⟩
theorem sCon_c (V : Option Addr) (v : List Int) (n : Int) (m cv : Nat) (w : World) (hm : v.length = m) (hv : Rd w V v) (hl : m ≤ 1048576) :
    Calls Try.prog 45 #[.slice V m cv, .int .i64 n] w (MatRet (conO v n) w) := by
  obtain ⟨w1, hw1⟩ : ∃ w1, w1 = w.alloc (.cells #[.int .i64 0, .int .i64 0, .slice none 0 0] 26) := ⟨_, rfl⟩
  have mr : MBox w1 w.heap.size 0 0 (.slice none 0 0) := by rw [hw1]; exact MBox.mk_ _ _ _ _ _
  have HG : Grows w w1 := by rw [hw1]; exact bel0
  have hv1 := hv.grows HG
  have h_w1 := Below.size HG
  have HS1 : w1.heap.size = w.heap.size + 1 := by rw [hw1]; simp
  have HW1 := Lib.hid hw1
  obtain ⟨RES, hRES⟩ : ∃ x, x = conO v n := ⟨_, rfl⟩
  rw [← hRES]
  unfold conO at hRES
  obtain ⟨K, hK⟩ : ∃ K, K = m + 1 := ⟨_, rfl⟩
  have hKi : (m : Int) + 1 = (K : Int) := by omega
  rw [hm, ← hK] at hRES
  have hvk : (v ++ [n]).length = K := by simp [hm, hK]
  have KSH := Lib.hid fun k h => kerO_shape (a := ⟨K, 1, v ++ [n]⟩) (k := k) h
  have KNO := Lib.hid fun (h : isMat K 1 (v ++ [n]) = false) => kerO_no (a := ⟨K, 1, v ++ [n]⟩) h
  have CM := fun W A cp h => sIsMatrix_c K 1 A (v ++ [n]) K cp W hvk h (by omega)
  have CK := fun W A cp h => (sKer_c K 1 A (v ++ [n]) K cp W hvk h (by omega)).mono fun _ _ h => matRet_out h
  obtain ⟨KO, hKO⟩ : ∃ x, x = kerO ⟨K, 1, v ++ [n]⟩ := ⟨_, rfl⟩
  rw [← hKO] at CK hRES KNO
  have HSH : RowKit.Hid (∀ k, KO = some k → ∃ (T : Nat) (l : List Int), k = ⟨T, K, l⟩ ∧ K ≤ 24 ∧ T ≤ 24 ∧ l.length = T * K) := Lib.hid fun k h => by
    rw [hKO] at h
    obtain ⟨T, C, l, rfl, e, h1, h2, h3, _⟩ := KSH.out k h
    simp only at e
    obtain rfl : K = C := by omega
    exact ⟨T, l, rfl, h2, h1, h3⟩
  generalize isMat K 1 (v ++ [n]) = MB at *
  have CM' := Lib.hid CM
  have CK' := Lib.hid CK
  have HR := Lib.hid hRES
  have HM := Lib.hid hm
  have HVK := Lib.hid hvk
  have HK := Lib.hid hK
  have HKI := Lib.hid hKi
  have hwr : IntKind.i64.wrap ((m : Int) + 1) = (K : Int) := by rw [hKi]; exact IntWalk.i64_in _ (by omega)
  clear hw1 CK CM hRES hKO hm hvk hK KSH hKi
  go_enter Try.func45, Try.ntmps45
  go_wp2_with (first | (at_builtin; refine wpList_app1 rfl (.tmp 18) (.tmp 20) rfl _ n (w.heap.size + 1) _ v (by rfl) ho2 (by rfl) (by rw [HM.out]; omega) (by omega) ?_; intro v3 w3 ho3 hg3 _; have g_w3 : Grows w1 w3 := Below.trans g_w2 (below_app (ho2.less (B' := w1.heap.size) (by omega)) (by omega) hg3); obtain ⟨A3, c3, hv3, _, _⟩ := ho3.val; rw [HVK.out] at hv3; subst hv3; clear hg3) | (at_builtin; refine wpList_app rfl (.tmp 16) (.tmp 17) rfl _ (w.heap.size + 1) _ [] (by rfl) (Own.new_ _ (by simp) (by simp)) V v m cv (by rfl) HM.out (by exact (Rd.grows hv (by exact bel0))) (by rw [HM.out]; simp; omega) (by simp) ?_; intro v2 w2 ho2 hg2 _; have hb2 := below_app (Own.new_ (w.alloc (.cells #[.int .i64 0, .int .i64 0, .slice none 0 0] 26)) (B := w.heap.size + 1) (b := w.heap.size + 1) (by simp) (by simp)) (by simp) hg2; have g_w2 : Grows w1 w2 := (by rw [HW1.out]; exact Below.trans (show Below _ (w.alloc (.cells #[.int .i64 0, .int .i64 0, .slice none 0 0] 26)) ((w.alloc (.cells #[.int .i64 0, .int .i64 0, .slice none 0 0] 26)).alloc (.cells #[] 3)) by exact bel0) (hb2.mono (by simp))); rw [List.nil_append] at ho2; obtain ⟨A2, c2, hv2, _, _⟩ := ho2.val; rw [HM.out] at hv2; subst hv2; have s_w2 := Below.size g_w2; clear hg2 hb2))
  have hr3 := ho3.rd'
  clear ho2 ho3 g_w2 s_w2
  have mr_0 := mr.c0; have mr_1 := mr.c1; have mr_2 := mr.c2; have mr_l := mr.lt; have mr_f := mr.fz
  have s_w3 := Below.size g_w3; (try simp at s_w3)
  clear mr_0 mr_1 mr_2 mr_l mr_f
  replace mr := mr.grows (w' := w3) (by exact bel1 g_w3)
  have mr_0 := mr.c0; have mr_1 := mr.c1; have mr_2 := mr.c2; have mr_l := mr.lt; have mr_f := mr.fz
  replace hv1 := hv1.grows (w' := w3) (by exact bel1 g_w3)
  replace HG : Grows w w3 := by exact bel2 g_w3 HG
  have h_w3 := Below.size HG
  refine (CM'.out _ _ _ (by exact Rd.grows hr3 (by exact bel0))).mono ?_; rintro e w4 ⟨rfl, g_w4⟩
  have s_w4 := Below.size g_w4; (try simp at s_w4)
  clear mr_0 mr_1 mr_2 mr_l mr_f
  replace mr := mr.grows (w' := w4) (by exact bel1 g_w4)
  have mr_0 := mr.c0; have mr_1 := mr.c1; have mr_2 := mr.c2; have mr_l := mr.lt; have mr_f := mr.fz
  replace hv1 := hv1.grows (w' := w4) (by exact bel1 g_w4)
  replace hr3 := hr3.grows (w' := w4) (by exact bel1 g_w4)
  have mc : MBox w4 (w3.heap.size) K 1 (.slice A3 K c3) := MBox.grows (MBox.new_ w3 K 1 (.slice A3 K c3) 26 (by simp)) (w' := w4) (by exact bel1 g_w4)
  have mc_0 := mc.c0; have mc_1 := mc.c1; have mc_2 := mc.c2; have mc_l := mc.lt; have mc_f := mc.fz
  replace HG : Grows w w4 := by exact bel2 g_w4 HG
  have h_w4 := Below.size HG
  cases MB
  · obtain rfl : RES = none := by rw [HR.out, KNO.out rfl]; split <;> rfl
    go_wp2_with fail
    refine bodyPost_ret (v := .tuple #[.agg #[.int .i64 0, .int .i64 0, .slice none 0 0], .bool false]) ?_ rfl ?_
    · simp [results, Try.results45, go_sem, mr_0, mr_1, mr_2, mr_f, mr_l]
    · exact ⟨_, rfl, Own.nil _ _, by exact bel1 HG⟩
  · by_cases h1 : 1 ≤ n
    · have hn1 : ¬ n < 1 := by omega
      have hR1 : RES = cutO KO m := HR.out.trans (if_pos h1)
      have HR1 := Lib.hid hR1
      clear h1 hR1
      go_wp2_with fail
      refine (CK'.out _ _ _ (by exact Rd.grows hr3 (by exact bel0))).mono ?_; rintro e w5 ⟨v5, rfl, o5, g_w5⟩
      have s_w5 := Below.size g_w5; (try simp at s_w5)
      clear mr_0 mr_1 mr_2 mr_l mr_f
      replace mr := mr.grows (w' := w5) (by exact bel1 g_w5)
      have mr_0 := mr.c0; have mr_1 := mr.c1; have mr_2 := mr.c2; have mr_l := mr.lt; have mr_f := mr.fz
      replace hv1 := hv1.grows (w' := w5) (by exact bel1 g_w5)
      replace hr3 := hr3.grows (w' := w5) (by exact bel1 g_w5)
      clear mc_0 mc_1 mc_2 mc_l mc_f
      replace mc := mc.grows (w' := w5) (by exact bel1 g_w5)
      have mc_0 := mc.c0; have mc_1 := mc.c1; have mc_2 := mc.c2; have mc_l := mc.lt; have mc_f := mc.fz
      replace HG : Grows w w5 := by exact bel2 g_w5 HG
      have h_w5 := Below.size HG
      obtain ⟨A5, c5, rfl, hr5, _⟩ := o5.val
      cases KO with
      | none =>
        obtain rfl : RES = none := HR1.out
        go_wp2_with fail
        refine bodyPost_ret (v := .tuple #[.agg #[.int .i64 0, .int .i64 0, .slice none 0 0], .bool false]) ?_ rfl ?_
        · simp [results, Try.results45, go_sem, mr_0, mr_1, mr_2, mr_f, mr_l]
        · exact ⟨_, rfl, Own.nil _ _, by exact bel1 HG⟩
      | some k =>
        obtain ⟨T, l, rfl, hK24, hT, hll⟩ := HSH.out k rfl
        simp only [oM_some] at o5 hr5 ⊢
        have hcp := o5.caps
        have hcp1 := hcp.2.1
        have HLL := Lib.hid hll
        have hmK : m + 1 = K := HK.out.symm
        have hRB : RES = basO ⟨T, m, fcL T K m l⟩ := HR1.out.trans cutO_some
        have HRB := Lib.hid hRB
        have hTK : T * K ≤ 576 := Nat.mul_le_mul hT hK24
        have hmr := Below.size HG
        clear hll hRB
        obtain ⟨w6, hw6⟩ : ∃ w6, w6 = (w5.alloc (.cells #[.int .i64 T, .int .i64 K, .slice A5 l.length c5] 26)).alloc (.cells #[.int .i64 T, .int .i64 m, .slice none 0 0] 26) := ⟨_, rfl⟩
        have mk : MBox w6 w5.heap.size T K (.slice A5 l.length c5) := by rw [hw6]; exact (MBox.mk_ _ _ _ _ _).grows (by exact bel0)
        have mo : MBox w6 (w5.heap.size + 1) T m (.slice none 0 0) := by rw [hw6]; exact MBox.new_ _ _ _ _ _ (by simp)
        have g56 : Grows w5 w6 := by rw [hw6]; exact bel0
        have hs6 : w6.heap.size = w5.heap.size + 2 := by rw [hw6]; simp
        have HW6 := Lib.hid hw6
        have HS6 := Lib.hid hs6
        have hr6 := hr5.grows g56
        have mr6 := mr.grows g56
        clear hw6 hs6
        go_wp2_with fail
        rw [← HW6.out]
        go_loopw [10] (fun i wr => ∃ (I : Nat) (u : Value), i = .int .i64 I ∧ I ≤ T ∧ Own wr w6.heap.size u (fcL I K m l) ∧ MBox wr (w5.heap.size + 1) T m u ∧ (∀ g, u.ownBlock = some g → g ≠ w5.heap.size + 1) ∧ Below (w5.heap.size + 1) w6 wr) (fun i _ => T - (intOf i).toNat)
        case atStart => exact ⟨0, _, rfl, Nat.zero_le _, by rw [show fcL 0 K m l = [] from List.eq_nil_of_length_eq_zero (by rw [fcL_length, Nat.zero_mul])]; exact Own.nil _ _, mo, fun g hg => by simp [Value.ownBlock] at hg, by exact bel0⟩
        case round =>
          clear mo
          obtain ⟨I, u, rfl, hI, ho, mo, hv, hg⟩ := hrel
          have HV := Lib.hid hv
          clear hv
          have hs6 := HS6.out
          have hsr := Below.size hg
          have mk' := mk.keep hg (by omega)
          have mol := mo.lt
          have hrr : Rd _ A5 l := hr5.grows (Below.trans g56 (hg.mono (by omega)))
          by_cases hlt : I < T
          · have hlt' : (I : Int) < (T : Int) := by omega
            have HSC := Lib.hid (fcL_succ (I := I) (C := K) (N := m) (l := l) (by omega) (by rw [HLL.out]; exact Nat.mul_le_mul_right K hlt))
            have hIK : (I + 1) * K ≤ T * K := Nat.mul_le_mul_right K hlt
            have hIK2 : (I + 1) * K = I * K + K := by rw [Nat.add_mul, Nat.one_mul]
            have t1 := castMul I K
            have t2 : (I : Int) * (K : Int) ≤ ((576 : Nat) : Int) := castMulLe (by omega)
            have w1' : IntKind.i64.wrap ((I : Int) * (K : Int)) = (I : Int) * (K : Int) := IntWalk.i64_in _ (by omega)
            have w2' : IntKind.i64.wrap ((I : Int) * (K : Int) + (m : Int)) = (I : Int) * (K : Int) + (m : Int) := IntWalk.i64_in _ (by omega)
            have t4 : (I : Int) * (K : Int) + (m : Int) ≤ (c5 : Int) := by rw [← Int.natCast_mul]; have := HLL.out; omega
            have t8 : ((I : Int) * (K : Int)).toNat = I * K := by rw [← Int.natCast_mul, Int.toNat_natCast]
            have t9 : ((I : Int) * (K : Int) + (m : Int)).toNat = I * K + m := by rw [show (I : Int) * (K : Int) + (m : Int) = ((I * K + m : Nat) : Int) by rw [Int.natCast_add, Int.natCast_mul], Int.toNat_natCast]
            have t10 : I * K + m - I * K = m := by omega
            have hsl := hrr.slice (I * K) (I * K + m) (by omega) (by rw [HLL.out]; omega) c5 (by have := hcp.1; omega)
            have hll2 : ((l.take (I * K + m)).drop (I * K)).length = m := by rw [List.length_drop, List.length_take]; have := HLL.out; omega
            rw [Nat.mul_one] at hsl
            have hfl := fcL_length I K m l
            have hIm : I * m ≤ 576 := Nat.le_trans (Nat.mul_le_mul (Nat.le_of_lt hlt) (show m ≤ K by omega)) hTK
            generalize (l.take (I * K + m)).drop (I * K) = SL at *
            generalize fcL I K m l = F at *
            have HL2 := Lib.hid hll2
            have HFL := Lib.hid hfl
            have hif : (if c5 = I * K then A5 else Option.map (fun x => x.add (I * K)) A5) = rowA c5 K A5 I := rfl
            replace hsl : Rd _ (rowA c5 K A5 I) SL := hsl
            generalize rowA c5 K A5 I = dA at *
            have t0 : 0 ≤ (I : Int) * (K : Int) := by omega
            have t00 : 0 ≤ (I : Int) * (K : Int) + (m : Int) := by omega
            have t01 : (I : Int) * (K : Int) ≤ (I : Int) * (K : Int) + (m : Int) := by omega
            clear hIK hIK2 hll2 hfl
            obtain ⟨y0, y1, y2⟩ := mo.cells
            obtain ⟨x0, x1, x2⟩ := mk'.cells
            go_wp2_with fail
            (refine wp_region_held_last 18 (fun W => W.cell? ⟨w5.heap.size, 1, none⟩ = some (.int .i64 K) ∧ W.cell? ⟨w5.heap.size, 2, none⟩ = some (.slice A5 l.length c5) ∧ W.cell? ⟨w5.heap.size + 1, 2, none⟩ = some u) (by rfl) (by kernel_rfl) (by kernel_rfl) (by ((try dsimp only); (first | exact keep3 mk7 mo7 | exact keep3 (mk'.grows (by exact bel0)) (mo.grows (by exact bel0))))) (fun hHeld => ?_); simp only [List.take_succ_cons, List.take_zero]; refine heldL_take (i := 0) (v := _) (by rfl) (by kernel_rfl) (by kernel_rfl) (by kernel_rfl) (fun _ _ _ h => h) (Or.inl ⟨by rfl, fun wS hSw => by ((try dsimp only at hSw); go_simp; (try with_reducible rfl))⟩) (by assumption) ?_; simp only [Act.put, List.setIfInBounds_toArray, List.set_cons_zero, List.set_cons_succ]; refine heldL_take (i := 1) (v := _) (by rfl) (by kernel_rfl) (by kernel_rfl) (by kernel_rfl) (fun _ _ _ h => h) (Or.inl ⟨by rfl, fun wS hSw => by ((try dsimp only at hSw); go_simp; (try with_reducible rfl))⟩) (by assumption) ?_; simp only [Act.put, List.setIfInBounds_toArray, List.set_cons_zero, List.set_cons_succ]; refine heldL_take (i := 2) (v := _) (by rfl) (by kernel_rfl) (by kernel_rfl) (by kernel_rfl) (fun _ _ _ h => h) (Or.inl ⟨by rfl, fun wS hSw => by ((try dsimp only at hSw); go_simp; (try with_reducible rfl))⟩) (by assumption) ?_; simp only [Act.put, List.setIfInBounds_toArray, List.set_cons_zero, List.set_cons_succ]; refine heldL_take (i := 3) (v := _) (by rfl) (by kernel_rfl) (by kernel_rfl) (by kernel_rfl) (fun _ _ _ h => h) (Or.inl ⟨by rfl, fun wS hSw => by ((try dsimp only at hSw); go_simp; (try with_reducible rfl))⟩) (by assumption) ?_; simp only [Act.put, List.setIfInBounds_toArray, List.set_cons_zero, List.set_cons_succ]; refine heldL_take (i := 4) (v := _) (by rfl) (by kernel_rfl) (by kernel_rfl) (by kernel_rfl) (fun _ _ _ h => h) (Or.inl ⟨by rfl, fun wS hSw => by ((try dsimp only at hSw); go_simp; (try with_reducible rfl))⟩) (by assumption) ?_; simp only [Act.put, List.setIfInBounds_toArray, List.set_cons_zero, List.set_cons_succ]; refine heldL_take (i := 5) (v := _) (by rfl) (by kernel_rfl) (by kernel_rfl) (by kernel_rfl) (fun _ _ _ h => h) (Or.inl ⟨by rfl, fun wS hSw => by ((try dsimp only at hSw); go_simp; (try with_reducible rfl))⟩) (by assumption) ?_; simp only [Act.put, List.setIfInBounds_toArray, List.set_cons_zero, List.set_cons_succ]; refine heldL_take (i := 6) (v := _) (by rfl) (by kernel_rfl) (by kernel_rfl) (by kernel_rfl) (fun _ _ _ h => h) (Or.inl ⟨by rfl, fun wS hSw => by ((try dsimp only at hSw); go_simp; (try with_reducible rfl))⟩) (by assumption) ?_; simp only [Act.put, List.setIfInBounds_toArray, List.set_cons_zero, List.set_cons_succ]; refine heldL_take (i := 7) (v := _) (by rfl) (by kernel_rfl) (by kernel_rfl) (by kernel_rfl) (fun _ _ _ h => h) (Or.inl ⟨by rfl, fun wS hSw => by ((try dsimp only at hSw); go_simp; (try with_reducible rfl))⟩) (by assumption) ?_; simp only [Act.put, List.setIfInBounds_toArray, List.set_cons_zero, List.set_cons_succ]; refine heldL_take (i := 8) (v := _) (by rfl) (by kernel_rfl) (by kernel_rfl) (by kernel_rfl) (fun _ _ _ h => h) (Or.inl ⟨by rfl, fun wS hSw => by ((try dsimp only at hSw); go_simp; (try with_reducible rfl))⟩) (by assumption) ?_; simp only [Act.put, List.setIfInBounds_toArray, List.set_cons_zero, List.set_cons_succ]; refine heldL_take (i := 9) (v := _) (by rfl) (by kernel_rfl) (by kernel_rfl) (by kernel_rfl) (fun _ _ _ h => h) (Or.inl ⟨by rfl, fun wS hSw => by ((try dsimp only at hSw); go_simp; (try with_reducible rfl))⟩) (by assumption) ?_; simp only [Act.put, List.setIfInBounds_toArray, List.set_cons_zero, List.set_cons_succ]; refine heldL_take (i := 10) (v := _) (by rfl) (by kernel_rfl) (by kernel_rfl) (by kernel_rfl) (fun _ _ _ h => h) (Or.inl ⟨by rfl, fun wS hSw => by ((try dsimp only at hSw); go_simp; (try with_reducible rfl))⟩) (by assumption) ?_; simp only [Act.put, List.setIfInBounds_toArray, List.set_cons_zero, List.set_cons_succ]; refine heldL_take (i := 11) (v := _) (by rfl) (by kernel_rfl) (by kernel_rfl) (by kernel_rfl) (fun _ _ _ h => h) (Or.inl ⟨by rfl, fun wS hSw => by ((try dsimp only at hSw); go_simp; (try with_reducible rfl))⟩) (by assumption) ?_; simp only [Act.put, List.setIfInBounds_toArray, List.set_cons_zero, List.set_cons_succ]; refine heldL_take (i := 12) (v := _) (by rfl) (by kernel_rfl) (by kernel_rfl) (by kernel_rfl) (fun _ _ _ h => h) (Or.inl ⟨by rfl, fun wS hSw => by ((try dsimp only at hSw); go_simp; (try with_reducible rfl))⟩) (by assumption) ?_; simp only [Act.put, List.setIfInBounds_toArray, List.set_cons_zero, List.set_cons_succ]; refine heldL_take (i := 13) (v := _) (by rfl) (by kernel_rfl) (by kernel_rfl) (by kernel_rfl) (fun _ _ _ h => h) (Or.inl ⟨by rfl, fun wS hSw => by ((try dsimp only at hSw); go_simp; (try with_reducible rfl))⟩) (by assumption) ?_; simp only [Act.put, List.setIfInBounds_toArray, List.set_cons_zero, List.set_cons_succ]; refine heldL_take (i := 14) (v := _) (by rfl) (by kernel_rfl) (by kernel_rfl) (by kernel_rfl) (fun _ _ _ h => h) (Or.inl ⟨by rfl, fun wS hSw => by ((try dsimp only at hSw); go_simp; (try with_reducible rfl))⟩) (by assumption) ?_; simp only [Act.put, List.setIfInBounds_toArray, List.set_cons_zero, List.set_cons_succ]; refine heldL_take (i := 15) (v := _) (by rfl) (by kernel_rfl) (by kernel_rfl) (by kernel_rfl) (fun _ _ _ h => h) (Or.inl ⟨by rfl, fun wS hSw => by ((try dsimp only at hSw); go_simp; (try with_reducible rfl))⟩) (by assumption) ?_; simp only [Act.put, List.setIfInBounds_toArray, List.set_cons_zero, List.set_cons_succ]; refine heldL_step (i := 16) (by kernel_rfl) (by rfl) (fun K hK => ?_); (refine step_app rfl (.tmp 51) (.tmp 65) rfl _ w6.heap.size u F (by rfl) ho.drew _ SL m _ (by rfl) HL2.out (by exact hsl.grows (by exact bel0)) (by rw [HL2.out, HFL.out]; omega) (by simp; omega) ?_; intro v7 w7 ho7 hg7 hv7; have hb7 : Below w6.heap.size _ w7 := below_app ho.drew (by simp; omega) hg7; obtain ⟨A7, c7, rfl, _, _⟩ := ho7.val; have mo7 := mo.drew_.own hg7 HV.out; have mk7 := mk'.drew_.own hg7 (fun g h => by have := (World.ownsRow.lt ho g h).1; omega); clear y0 y1 y2; obtain ⟨y0, y1, y2⟩ := mo7.cells; have yf := mo7.fz) ; refine hK.out _ _ (by ((try dsimp only); (first | exact keep3 mk7 mo7 | exact keep3 (mk'.grows (by exact bel0)) (mo.grows (by exact bel0))))) (fun hHeld => ?_); clear hK K; (try simp only [Act.put, List.setIfInBounds_toArray, List.set_cons_zero, List.set_cons_succ]); refine heldL_take (i := 17) (v := _) (by rfl) (by kernel_rfl) (by kernel_rfl) (by kernel_rfl) (fun _ _ _ h => h) (Or.inl ⟨by rfl, fun wS hSw => by ((try dsimp only at hSw); go_simp; (try with_reducible rfl))⟩) (by assumption) ?_; simp only [Act.put, List.setIfInBounds_toArray, List.set_cons_zero, List.set_cons_succ]; refine wpAnyH_done (by kernel_rfl) ?_ _; refine lastQ_go ?_)
            all_goals
              go_wp2_with fail
              go_round
              case rel =>
                have hne7 : ∀ g, (Value.slice A7 (F ++ SL).length c7).ownBlock = some g → g ≠ w5.heap.size + 1 := by
                  intro g hg'
                  rcases hv7 with h | h
                  · exact HV.out g (by rw [← h]; exact hg')
                  · rw [h] at hg'; cases hg'; simp; omega
                have ho8 := ho7.far (p := ⟨w5.heap.size + 1, 2, none⟩) hne7 (.slice A7 (F ++ SL).length c7)
                have hb8 := (Below.trans (Below.drew hg) (hb7.mono (by omega))).setCell (p := ⟨w5.heap.size + 1, 2, none⟩) (by simp) (.slice A7 (F ++ SL).length c7)
                exact ⟨I + 1, _, by go_num, by omega, by rw [HSC.out]; simpa using ho8, by simpa using mo7.put2 _, by simpa using hne7, by simpa using hb8⟩
              case measure => simp [intOf]; omega
          · obtain rfl : I = T := by omega
            have hfl := fcL_length I K m l
            have hIm : I * m ≤ 576 := Nat.le_trans (Nat.mul_le_mul_left I (show m ≤ K by omega)) hTK
            have CB := fun W A cp h => (sBas_c I m A (fcL I K m l) (fcL I K m l).length cp W rfl h (by rw [hfl]; omega)).mono fun _ _ h => matRet_out h
            rw [← HRB.out] at CB
            have CB' := Lib.hid CB
            clear CB hfl
            obtain ⟨A8, c8, rfl, hr8, _⟩ := ho.val
            have hgw : Grows w5 _ := Below.trans g56 (hg.mono (by omega))
            replace HG : Grows w wr := by exact bel2 hgw HG
            have mr' := mr6.keep hg (by omega)
            have h_wr := Below.size HG
            have mr'_0 := mr'.c0; have mr'_1 := mr'.c1; have mr'_2 := mr'.c2; have mr'_l := mr'.lt; have mr'_f := mr'.fz
            have mo_0 := mo.c0; have mo_1 := mo.c1; have mo_2 := mo.c2; have mo_l := mo.lt; have mo_f := mo.fz
            have mk'_0 := mk'.c0; have mk'_1 := mk'.c1; have mk'_2 := mk'.c2; have mk'_l := mk'.lt; have mk'_f := mk'.fz
            go_wp2_with fail
            refine (CB'.out _ _ _ (by exact Rd.grows hr8 (by exact bel0))).mono ?_; rintro e w9 ⟨v9, rfl, o9, g_w9⟩
            have s_w9 := Below.size g_w9; (try simp at s_w9)
            clear mr'_0 mr'_1 mr'_2 mr'_l mr'_f
            replace mr' := mr'.grows (w' := w9) (by exact bel1 g_w9)
            have mr'_0 := mr'.c0; have mr'_1 := mr'.c1; have mr'_2 := mr'.c2; have mr'_l := mr'.lt; have mr'_f := mr'.fz
            clear mo_0 mo_1 mo_2 mo_l mo_f
            replace mo := mo.grows (w' := w9) (by exact bel1 g_w9)
            have mo_0 := mo.c0; have mo_1 := mo.c1; have mo_2 := mo.c2; have mo_l := mo.lt; have mo_f := mo.fz
            clear mk'_0 mk'_1 mk'_2 mk'_l mk'_f
            replace mk' := mk'.grows (w' := w9) (by exact bel1 g_w9)
            have mk'_0 := mk'.c0; have mk'_1 := mk'.c1; have mk'_2 := mk'.c2; have mk'_l := mk'.lt; have mk'_f := mk'.fz
            replace hr8 := hr8.grows (w' := w9) (by exact bel1 g_w9)
            replace HG : Grows w w9 := by exact bel2 g_w9 HG
            have h_w9 := Below.size HG
            obtain ⟨A9, c9, rfl, _, _⟩ := o9.val
            go_wp2_with fail
            refine bodyPost_ret (v := .tuple #[.agg #[.int .i64 (oM RES).r, .int .i64 (oM RES).c, .slice A9 (oM RES).l.length c9], .bool RES.isSome]) ?_ rfl ?_
            · simp [results, Try.results45, go_sem, mr'_0, mr'_1, mr'_2, mr'_f, mr'_l]
            · exact ⟨_, rfl, by exact ownl o9, by exact bel1 HG⟩
    · obtain rfl : RES = none := HR.out.trans (if_neg h1)
      have hn1 : n < 1 := by omega
      clear h1
      go_wp2_with fail
      refine bodyPost_ret (v := .tuple #[.agg #[.int .i64 0, .int .i64 0, .slice none 0 0], .bool false]) ?_ rfl ?_
      · simp [results, Try.results45, go_sem, mr_0, mr_1, mr_2, mr_f, mr_l]
      · exact ⟨_, rfl, Own.nil _ _, by exact bel1 HG⟩
end
end Go.Proofs.Yticmopedbgoflaa
