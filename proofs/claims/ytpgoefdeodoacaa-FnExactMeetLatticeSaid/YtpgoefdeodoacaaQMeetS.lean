/- Contracts and lemmas, put together. -/
import Derived.Test.YtpgoefdeodoacaaQMeet
/- Contract: what two lattices have in common, the reference's. -/
namespace Go.Proofs.Ytpgoefdeodoacaa
set_option linter.unusedSimpArgs false
set_option linter.unusedVariables false
open Go.RowKit

theorem keep4 {W : World} {b b' b2 : Nat} {r c r' c' r2 c2 : Int} {v v' v2 : Value} (h : MBox W b r c v) (h' : MBox W b' r' c' v') (h2 : MBox W b2 r2 c2 v2) : W.cell? ⟨b, 1, none⟩ = some (.int .i64 c) ∧ W.cell? ⟨b, 2, none⟩ = some v ∧ W.cell? ⟨b', 2, none⟩ = some v' ∧ W.cell? ⟨b2, 0, none⟩ = some (.int .i64 r2) := ⟨h.c1, h.c2, h'.c2, h2.c0⟩
section
set_option maxHeartbeats 4000000
set_option maxRecDepth 100000
theorem sMeet_c (r c r' c' : Int) (A B : Option Addr) (a b : List Int) (n m ca cb : Nat) (w : World) (hn : a.length = n) (hm : b.length = m) (hca : n ≤ ca) (hca2 : ca ≤ 9223372036854775807) (hcb : m ≤ cb) (hcb2 : cb ≤ 9223372036854775807) (ha : Rd w A a) (hb : Rd w B b) (hl : n ≤ 1099511627776) (hl2 : m ≤ 1099511627776) :
    Calls Try.prog 27 #[.agg #[.int .i64 r, .int .i64 c, .slice A n ca], .agg #[.int .i64 r', .int .i64 c', .slice B m cb]] w (MatRet (meetO ⟨r, c, a⟩ ⟨r', c', b⟩) w) := by
  have HS := fun W h h' => (sStk_c r c r' c' A B a b n m ca cb W hn hm h h' hl hl2).mono fun _ _ h => matRet_out h
  have HA := fun W h => sIsLat_c r c A a n ca W hn h hl
  have HB := fun W h => sIsLat_c r' c' B b m cb W hm h hl2
  have XB := Lib.hid fun (x : MX) (h : stkO ⟨r, c, a⟩ ⟨r', c', b⟩ = some x) => (oM_length (o := some x) fun m h2 => by cases h2; exact stkO_ok h)
  have XR := Lib.hid fun (x : MX) (h : stkO ⟨r, c, a⟩ ⟨r', c', b⟩ = some x) => stkO_rows h
  have LR := Lib.hid fun (h : latB r c a = true) => lat_rows h
  have LR' := Lib.hid fun (h : latB r' c' b = true) => lat_rows h
  have HN := Lib.hid hn
  obtain ⟨w1, hw1, ma, mb, mr, hs1, HG⟩ := two_mats w r c r' c' (.slice A n ca) (.slice B m cb)
  have HW1 := Lib.hid hw1
  have hr0 := mr.lt
  have ha1 := ha.grows HG
  have hb1 := hb.grows HG
  obtain ⟨RES, hRES⟩ : ∃ x, x = meetO ⟨r, c, a⟩ ⟨r', c', b⟩ := ⟨_, rfl⟩
  rw [← hRES]
  unfold meetO at hRES
  simp only at hRES
  generalize stkO ⟨r, c, a⟩ ⟨r', c', b⟩ = SK at *
  generalize latB r c a = LA at *
  generalize latB r' c' b = LB at *
  have HR := Lib.hid hRES
  have HS' := Lib.hid HS
  have HA' := Lib.hid HA
  have HB' := Lib.hid HB
  clear hw1 hRES hn hm HS HA HB hs1
  go_enter Try.func27, Try.ntmps27
  go_wp2_with fail
  rw [← HW1.out]
  have ma_0 := ma.c0; have ma_1 := ma.c1; have ma_2 := ma.c2; have ma_l := ma.lt; have ma_f := ma.fz
  have mb_0 := mb.c0; have mb_1 := mb.c1; have mb_2 := mb.c2; have mb_l := mb.lt; have mb_f := mb.fz
  have mr_0 := mr.c0; have mr_1 := mr.c1; have mr_2 := mr.c2; have mr_l := mr.lt; have mr_f := mr.fz
  refine (HS'.out _ (by exact Rd.grows ha1 (by exact bel0)) (by exact Rd.grows hb1 (by exact bel0))).mono ?_; rintro e w2 ⟨v2, rfl, o2, g_w2⟩
  have s_w2 := Below.size g_w2; (try simp at s_w2)
  clear ma_0 ma_1 ma_2 ma_l ma_f
  replace ma := ma.grows (w' := w2) (by exact bel1 g_w2)
  have ma_0 := ma.c0; have ma_1 := ma.c1; have ma_2 := ma.c2; have ma_l := ma.lt; have ma_f := ma.fz
  clear mb_0 mb_1 mb_2 mb_l mb_f
  replace mb := mb.grows (w' := w2) (by exact bel1 g_w2)
  have mb_0 := mb.c0; have mb_1 := mb.c1; have mb_2 := mb.c2; have mb_l := mb.lt; have mb_f := mb.fz
  clear mr_0 mr_1 mr_2 mr_l mr_f
  replace mr := mr.grows (w' := w2) (by exact bel1 g_w2)
  have mr_0 := mr.c0; have mr_1 := mr.c1; have mr_2 := mr.c2; have mr_l := mr.lt; have mr_f := mr.fz
  replace ha1 := ha1.grows (w' := w2) (by exact bel1 g_w2)
  replace hb1 := hb1.grows (w' := w2) (by exact bel1 g_w2)
  replace HG : Grows w w2 := by exact bel2 g_w2 HG
  have h_w2 := Below.size HG
  obtain ⟨A2, c2, rfl, hr2, _⟩ := o2.val
  cases SK with
  | none =>
    obtain rfl : RES = none := by rw [HR.out]; cases LA <;> cases LB <;> rfl
    go_wp2_with fail
    refine bodyPost_ret (v := .tuple #[.agg #[.int .i64 0, .int .i64 0, .slice none 0 0], .bool false]) ?_ rfl ?_
    · simp [results, Try.results27, go_sem, mr_0, mr_1, mr_2, mr_f, mr_l]
    · exact ⟨_, rfl, Own.nil _ _, by exact bel1 HG⟩
  | some s =>
    have hx : s.l.length ≤ 576 := XB.out s rfl
    simp only [oM_some] at hx hr2 ⊢
    go_wp2_with fail
    refine (HA'.out _ (by exact Rd.grows ha1 (by exact bel0))).mono ?_; rintro e w3 ⟨rfl, g_w3⟩
    have s_w3 := Below.size g_w3; (try simp at s_w3)
    clear ma_0 ma_1 ma_2 ma_l ma_f
    replace ma := ma.grows (w' := w3) (by exact bel1 g_w3)
    have ma_0 := ma.c0; have ma_1 := ma.c1; have ma_2 := ma.c2; have ma_l := ma.lt; have ma_f := ma.fz
    clear mb_0 mb_1 mb_2 mb_l mb_f
    replace mb := mb.grows (w' := w3) (by exact bel1 g_w3)
    have mb_0 := mb.c0; have mb_1 := mb.c1; have mb_2 := mb.c2; have mb_l := mb.lt; have mb_f := mb.fz
    clear mr_0 mr_1 mr_2 mr_l mr_f
    replace mr := mr.grows (w' := w3) (by exact bel1 g_w3)
    have mr_0 := mr.c0; have mr_1 := mr.c1; have mr_2 := mr.c2; have mr_l := mr.lt; have mr_f := mr.fz
    replace ha1 := ha1.grows (w' := w3) (by exact bel1 g_w3)
    replace hb1 := hb1.grows (w' := w3) (by exact bel1 g_w3)
    replace hr2 := hr2.grows (w' := w3) (by exact bel1 g_w3)
    have ms : MBox w3 (w2.heap.size) s.r s.c (.slice A2 s.l.length c2) := MBox.grows (MBox.new_ w2 s.r s.c (.slice A2 s.l.length c2) 28 (by simp)) (w' := w3) (by exact bel1 g_w3)
    have ms_0 := ms.c0; have ms_1 := ms.c1; have ms_2 := ms.c2; have ms_l := ms.lt; have ms_f := ms.fz
    replace HG : Grows w w3 := by exact bel2 g_w3 HG
    have h_w3 := Below.size HG
    cases LA
    · obtain rfl : RES = none := HR.out
      go_wp2_with fail
      refine bodyPost_ret (v := .tuple #[.agg #[.int .i64 0, .int .i64 0, .slice none 0 0], .bool false]) ?_ rfl ?_
      · simp [results, Try.results27, go_sem, mr_0, mr_1, mr_2, mr_f, mr_l]
      · exact ⟨_, rfl, Own.nil _ _, by exact bel1 HG⟩
    · go_wp2_with fail
      refine (HB'.out _ (by exact Rd.grows hb1 (by exact bel0))).mono ?_; rintro e w4 ⟨rfl, g_w4⟩
      have s_w4 := Below.size g_w4; (try simp at s_w4)
      clear ma_0 ma_1 ma_2 ma_l ma_f
      replace ma := ma.grows (w' := w4) (by exact bel1 g_w4)
      have ma_0 := ma.c0; have ma_1 := ma.c1; have ma_2 := ma.c2; have ma_l := ma.lt; have ma_f := ma.fz
      clear mb_0 mb_1 mb_2 mb_l mb_f
      replace mb := mb.grows (w' := w4) (by exact bel1 g_w4)
      have mb_0 := mb.c0; have mb_1 := mb.c1; have mb_2 := mb.c2; have mb_l := mb.lt; have mb_f := mb.fz
      clear mr_0 mr_1 mr_2 mr_l mr_f
      replace mr := mr.grows (w' := w4) (by exact bel1 g_w4)
      have mr_0 := mr.c0; have mr_1 := mr.c1; have mr_2 := mr.c2; have mr_l := mr.lt; have mr_f := mr.fz
      replace ha1 := ha1.grows (w' := w4) (by exact bel1 g_w4)
      replace hb1 := hb1.grows (w' := w4) (by exact bel1 g_w4)
      replace hr2 := hr2.grows (w' := w4) (by exact bel1 g_w4)
      clear ms_0 ms_1 ms_2 ms_l ms_f
      replace ms := ms.grows (w' := w4) (by exact bel1 g_w4)
      have ms_0 := ms.c0; have ms_1 := ms.c1; have ms_2 := ms.c2; have ms_l := ms.lt; have ms_f := ms.fz
      replace HG : Grows w w4 := by exact bel2 g_w4 HG
      have h_w4 := Below.size HG
      cases LB
      · obtain rfl : RES = none := HR.out
        go_wp2_with fail
        refine bodyPost_ret (v := .tuple #[.agg #[.int .i64 0, .int .i64 0, .slice none 0 0], .bool false]) ?_ rfl ?_
        · simp [results, Try.results27, go_sem, mr_0, mr_1, mr_2, mr_f, mr_l]
        · exact ⟨_, rfl, Own.nil _ _, by exact bel1 HG⟩
      · obtain ⟨N, rfl, hN24⟩ := LR.out (by simp)
        obtain ⟨M, rfl, hM24⟩ := LR'.out (by simp)
        have hsr : s.r = (N : Int) + (M : Int) := XR.out s rfl
        have HRB := HR.out
        change RES = (kerO s).bind (meetK ⟨N, c, a⟩) at HRB
        have CK := fun W A cp h => (sKer_c s.r s.c A s.l s.l.length cp W rfl h (by omega)).mono fun _ _ h => matRet_out h
        change ∀ W A cp h, Calls _ _ _ W (fun e w' => ∃ v, e = .returned (.tuple #[.agg #[.int .i64 (oM (kerO s)).r, .int .i64 (oM (kerO s)).c, v], .bool (kerO s).isSome]) ∧ Own w' W.heap.size v (oM (kerO s)).l ∧ Grows W w') at CK
        have KSH := Lib.hid fun k h => meet_shape (N := N) (M := M) (s := s) (k := k) (T := 0) (C := 0) (c := 0) (a := []) hsr h
        generalize kerO s = KO at *
        have CK' := Lib.hid CK
        have HR2 := Lib.hid HRB
        clear CK HRB hsr
        go_wp2_with fail
        refine (CK'.out _ _ _ (by exact Rd.grows hr2 (by exact bel0))).mono ?_; rintro e w5 ⟨v5, rfl, o5, g_w5⟩
        have s_w5 := Below.size g_w5; (try simp at s_w5)
        clear ma_0 ma_1 ma_2 ma_l ma_f
        replace ma := ma.grows (w' := w5) (by exact bel1 g_w5)
        have ma_0 := ma.c0; have ma_1 := ma.c1; have ma_2 := ma.c2; have ma_l := ma.lt; have ma_f := ma.fz
        clear mb_0 mb_1 mb_2 mb_l mb_f
        replace mb := mb.grows (w' := w5) (by exact bel1 g_w5)
        have mb_0 := mb.c0; have mb_1 := mb.c1; have mb_2 := mb.c2; have mb_l := mb.lt; have mb_f := mb.fz
        clear mr_0 mr_1 mr_2 mr_l mr_f
        replace mr := mr.grows (w' := w5) (by exact bel1 g_w5)
        have mr_0 := mr.c0; have mr_1 := mr.c1; have mr_2 := mr.c2; have mr_l := mr.lt; have mr_f := mr.fz
        replace ha1 := ha1.grows (w' := w5) (by exact bel1 g_w5)
        replace hb1 := hb1.grows (w' := w5) (by exact bel1 g_w5)
        replace hr2 := hr2.grows (w' := w5) (by exact bel1 g_w5)
        clear ms_0 ms_1 ms_2 ms_l ms_f
        replace ms := ms.grows (w' := w5) (by exact bel1 g_w5)
        have ms_0 := ms.c0; have ms_1 := ms.c1; have ms_2 := ms.c2; have ms_l := ms.lt; have ms_f := ms.fz
        replace HG : Grows w w5 := by exact bel2 g_w5 HG
        have h_w5 := Below.size HG
        obtain ⟨A5, c5, rfl, hr5, _⟩ := o5.val
        cases KO with
        | none =>
          obtain rfl : RES = none := HR2.out
          go_wp2_with fail
          refine bodyPost_ret (v := .tuple #[.agg #[.int .i64 0, .int .i64 0, .slice none 0 0], .bool false]) ?_ rfl ?_
          · simp [results, Try.results27, go_sem, mr_0, mr_1, mr_2, mr_f, mr_l]
          · exact ⟨_, rfl, Own.nil _ _, by exact bel1 HG⟩
        | some k =>
          obtain ⟨T, C, l, rfl, hT, hC24, hmK, hll⟩ := KSH.out k rfl
          simp only [oM_some] at o5 hr5 ⊢
          have hcp := o5.caps
          have hcp1 := hcp.2.1
          have HLL := Lib.hid hll
          have hRB : RES = (mulO ⟨T, N, fcL T C N l⟩ ⟨N, c, a⟩).bind basO := HR2.out.trans meetK_nat
          have HRB := Lib.hid hRB
          have hTK : T * C ≤ 576 := Nat.mul_le_mul hT hC24
          have hmr := Below.size HG
          clear hll hRB
          obtain ⟨w6, hw6⟩ : ∃ w6, w6 = (w5.alloc (.cells #[.int .i64 T, .int .i64 C, .slice A5 l.length c5] 28)).alloc (.cells #[.int .i64 T, .int .i64 N, .slice none 0 0] 28) := ⟨_, rfl⟩
          have mk : MBox w6 w5.heap.size T C (.slice A5 l.length c5) := by rw [hw6]; exact (MBox.mk_ _ _ _ _ _).grows (by exact bel0)
          have mo : MBox w6 (w5.heap.size + 1) T N (.slice none 0 0) := by rw [hw6]; exact MBox.new_ _ _ _ _ _ (by simp)
          have g56 : Grows w5 w6 := by rw [hw6]; exact bel0
          have hs6 : w6.heap.size = w5.heap.size + 2 := by rw [hw6]; simp
          have HW6 := Lib.hid hw6
          have HS6 := Lib.hid hs6
          have hr6 := hr5.grows g56
          have mr6 := mr.grows g56
          have ma6 := ma.grows g56
          have ha6 := ha1.grows g56
          clear hw6 hs6
          go_wp2_with fail
          rw [← HW6.out]
          go_loopw [11] (fun i wr => ∃ (I : Nat) (u : Value), i = .int .i64 I ∧ I ≤ T ∧ Own wr w6.heap.size u (fcL I C N l) ∧ MBox wr (w5.heap.size + 1) T N u ∧ (∀ g, u.ownBlock = some g → g ≠ w5.heap.size + 1) ∧ Below (w5.heap.size + 1) w6 wr) (fun i _ => T - (intOf i).toNat)
          case atStart => exact ⟨0, _, rfl, Nat.zero_le _, by rw [show fcL 0 C N l = [] from List.eq_nil_of_length_eq_zero (by rw [fcL_length, Nat.zero_mul])]; exact Own.nil _ _, mo, fun g hg => by simp [Value.ownBlock] at hg, by exact bel0⟩
          case round =>
            clear mo
            obtain ⟨I, u, rfl, hI, ho, mo, hv, hg⟩ := hrel
            have HV := Lib.hid hv
            clear hv
            have hs6 := HS6.out
            have hsr := Below.size hg
            have mk' := mk.keep hg (by omega)
            have ma' := ma6.keep hg (by omega)
            have mol := mo.lt
            have hrr : Rd _ A5 l := hr5.grows (Below.trans g56 (hg.mono (by omega)))
            by_cases hlt : I < T
            · have hlt' : (I : Int) < (T : Int) := by omega
              have HSC := Lib.hid (fcL_succ (I := I) (C := C) (N := N) (l := l) (by omega) (by rw [HLL.out]; exact Nat.mul_le_mul_right C hlt))
              have hIK : (I + 1) * C ≤ T * C := Nat.mul_le_mul_right C hlt
              have hIK2 : (I + 1) * C = I * C + C := by rw [Nat.add_mul, Nat.one_mul]
              have t1 := castMul I C
              have t2 : (I : Int) * (C : Int) ≤ ((576 : Nat) : Int) := castMulLe (by omega)
              have w1' : IntKind.i64.wrap ((I : Int) * (C : Int)) = (I : Int) * (C : Int) := IntWalk.i64_in _ (by omega)
              have w2' : IntKind.i64.wrap ((I : Int) * (C : Int) + (N : Int)) = (I : Int) * (C : Int) + (N : Int) := IntWalk.i64_in _ (by omega)
              have t4 : (I : Int) * (C : Int) + (N : Int) ≤ (c5 : Int) := by rw [← Int.natCast_mul]; have := HLL.out; omega
              have t8 : ((I : Int) * (C : Int)).toNat = I * C := by rw [← Int.natCast_mul, Int.toNat_natCast]
              have t9 : ((I : Int) * (C : Int) + (N : Int)).toNat = I * C + N := by rw [show (I : Int) * (C : Int) + (N : Int) = ((I * C + N : Nat) : Int) by rw [Int.natCast_add, Int.natCast_mul], Int.toNat_natCast]
              have t10 : I * C + N - I * C = N := by omega
              have hsl := hrr.slice (I * C) (I * C + N) (by omega) (by rw [HLL.out]; omega) c5 (by have := hcp.1; omega)
              have hll2 : ((l.take (I * C + N)).drop (I * C)).length = N := by rw [List.length_drop, List.length_take]; have := HLL.out; omega
              rw [Nat.mul_one] at hsl
              have hfl := fcL_length I C N l
              have hIm : I * N ≤ 576 := Nat.le_trans (Nat.mul_le_mul (Nat.le_of_lt hlt) (show N ≤ C by omega)) hTK
              generalize (l.take (I * C + N)).drop (I * C) = SL at *
              generalize fcL I C N l = F at *
              have HL2 := Lib.hid hll2
              have HFL := Lib.hid hfl
              have hif : (if c5 = I * C then A5 else Option.map (fun x => x.add (I * C)) A5) = rowA c5 C A5 I := rfl
              replace hsl : Rd _ (rowA c5 C A5 I) SL := hsl
              generalize rowA c5 C A5 I = dA at *
              have t0 : 0 ≤ (I : Int) * (C : Int) := by omega
              have t00 : 0 ≤ (I : Int) * (C : Int) + (N : Int) := by omega
              have t01 : (I : Int) * (C : Int) ≤ (I : Int) * (C : Int) + (N : Int) := by omega
              clear hIK hIK2 hll2 hfl
              obtain ⟨y0, y1, y2⟩ := mo.cells
              obtain ⟨x0, x1, x2⟩ := mk'.cells
              obtain ⟨u0, u1, u2⟩ := ma'.cells
              go_wp2_with fail
              (refine wp_region_held_last 18 (fun W => W.cell? ⟨w5.heap.size, 1, none⟩ = some (.int .i64 C) ∧ W.cell? ⟨w5.heap.size, 2, none⟩ = some (.slice A5 l.length c5) ∧ W.cell? ⟨w5.heap.size + 1, 2, none⟩ = some u ∧ W.cell? ⟨w.heap.size, 0, none⟩ = some (.int .i64 N)) (by rfl) (by kernel_rfl) (by kernel_rfl) (by ((try dsimp only); (first | exact keep4 mk7 mo7 ma7 | exact keep4 (mk'.grows (by exact bel0)) (mo.grows (by exact bel0)) (ma'.grows (by exact bel0))))) (fun hHeld => ?_); simp only [List.take_succ_cons, List.take_zero]; refine heldL_take (i := 0) (v := _) (by rfl) (by kernel_rfl) (by kernel_rfl) (by kernel_rfl) (fun _ _ _ h => h) (Or.inl ⟨by rfl, fun wS hSw => by ((try dsimp only at hSw); go_simp; (try with_reducible rfl))⟩) (by assumption) ?_; simp only [Act.put, List.setIfInBounds_toArray, List.set_cons_zero, List.set_cons_succ]; refine heldL_take (i := 1) (v := _) (by rfl) (by kernel_rfl) (by kernel_rfl) (by kernel_rfl) (fun _ _ _ h => h) (Or.inl ⟨by rfl, fun wS hSw => by ((try dsimp only at hSw); go_simp; (try with_reducible rfl))⟩) (by assumption) ?_; simp only [Act.put, List.setIfInBounds_toArray, List.set_cons_zero, List.set_cons_succ]; refine heldL_take (i := 2) (v := _) (by rfl) (by kernel_rfl) (by kernel_rfl) (by kernel_rfl) (fun _ _ _ h => h) (Or.inl ⟨by rfl, fun wS hSw => by ((try dsimp only at hSw); go_simp; (try with_reducible rfl))⟩) (by assumption) ?_; simp only [Act.put, List.setIfInBounds_toArray, List.set_cons_zero, List.set_cons_succ]; refine heldL_take (i := 3) (v := _) (by rfl) (by kernel_rfl) (by kernel_rfl) (by kernel_rfl) (fun _ _ _ h => h) (Or.inl ⟨by rfl, fun wS hSw => by ((try dsimp only at hSw); go_simp; (try with_reducible rfl))⟩) (by assumption) ?_; simp only [Act.put, List.setIfInBounds_toArray, List.set_cons_zero, List.set_cons_succ]; refine heldL_take (i := 4) (v := _) (by rfl) (by kernel_rfl) (by kernel_rfl) (by kernel_rfl) (fun _ _ _ h => h) (Or.inl ⟨by rfl, fun wS hSw => by ((try dsimp only at hSw); go_simp; (try with_reducible rfl))⟩) (by assumption) ?_; simp only [Act.put, List.setIfInBounds_toArray, List.set_cons_zero, List.set_cons_succ]; refine heldL_take (i := 5) (v := _) (by rfl) (by kernel_rfl) (by kernel_rfl) (by kernel_rfl) (fun _ _ _ h => h) (Or.inl ⟨by rfl, fun wS hSw => by ((try dsimp only at hSw); go_simp; (try with_reducible rfl))⟩) (by assumption) ?_; simp only [Act.put, List.setIfInBounds_toArray, List.set_cons_zero, List.set_cons_succ]; refine heldL_take (i := 6) (v := _) (by rfl) (by kernel_rfl) (by kernel_rfl) (by kernel_rfl) (fun _ _ _ h => h) (Or.inl ⟨by rfl, fun wS hSw => by ((try dsimp only at hSw); go_simp; (try with_reducible rfl))⟩) (by assumption) ?_; simp only [Act.put, List.setIfInBounds_toArray, List.set_cons_zero, List.set_cons_succ]; refine heldL_take (i := 7) (v := _) (by rfl) (by kernel_rfl) (by kernel_rfl) (by kernel_rfl) (fun _ _ _ h => h) (Or.inl ⟨by rfl, fun wS hSw => by ((try dsimp only at hSw); go_simp; (try with_reducible rfl))⟩) (by assumption) ?_; simp only [Act.put, List.setIfInBounds_toArray, List.set_cons_zero, List.set_cons_succ]; refine heldL_take (i := 8) (v := _) (by rfl) (by kernel_rfl) (by kernel_rfl) (by kernel_rfl) (fun _ _ _ h => h) (Or.inl ⟨by rfl, fun wS hSw => by ((try dsimp only at hSw); go_simp; (try with_reducible rfl))⟩) (by assumption) ?_; simp only [Act.put, List.setIfInBounds_toArray, List.set_cons_zero, List.set_cons_succ]; refine heldL_take (i := 9) (v := _) (by rfl) (by kernel_rfl) (by kernel_rfl) (by kernel_rfl) (fun _ _ _ h => h) (Or.inl ⟨by rfl, fun wS hSw => by ((try dsimp only at hSw); go_simp; (try with_reducible rfl))⟩) (by assumption) ?_; simp only [Act.put, List.setIfInBounds_toArray, List.set_cons_zero, List.set_cons_succ]; refine heldL_take (i := 10) (v := _) (by rfl) (by kernel_rfl) (by kernel_rfl) (by kernel_rfl) (fun _ _ _ h => h) (Or.inl ⟨by rfl, fun wS hSw => by ((try dsimp only at hSw); go_simp; (try with_reducible rfl))⟩) (by assumption) ?_; simp only [Act.put, List.setIfInBounds_toArray, List.set_cons_zero, List.set_cons_succ]; refine heldL_take (i := 11) (v := _) (by rfl) (by kernel_rfl) (by kernel_rfl) (by kernel_rfl) (fun _ _ _ h => h) (Or.inl ⟨by rfl, fun wS hSw => by ((try dsimp only at hSw); go_simp; (try with_reducible rfl))⟩) (by assumption) ?_; simp only [Act.put, List.setIfInBounds_toArray, List.set_cons_zero, List.set_cons_succ]; refine heldL_take (i := 12) (v := _) (by rfl) (by kernel_rfl) (by kernel_rfl) (by kernel_rfl) (fun _ _ _ h => h) (Or.inl ⟨by rfl, fun wS hSw => by ((try dsimp only at hSw); go_simp; (try with_reducible rfl))⟩) (by assumption) ?_; simp only [Act.put, List.setIfInBounds_toArray, List.set_cons_zero, List.set_cons_succ]; refine heldL_take (i := 13) (v := _) (by rfl) (by kernel_rfl) (by kernel_rfl) (by kernel_rfl) (fun _ _ _ h => h) (Or.inl ⟨by rfl, fun wS hSw => by ((try dsimp only at hSw); go_simp; (try with_reducible rfl))⟩) (by assumption) ?_; simp only [Act.put, List.setIfInBounds_toArray, List.set_cons_zero, List.set_cons_succ]; refine heldL_take (i := 14) (v := _) (by rfl) (by kernel_rfl) (by kernel_rfl) (by kernel_rfl) (fun _ _ _ h => h) (Or.inl ⟨by rfl, fun wS hSw => by ((try dsimp only at hSw); go_simp; (try with_reducible rfl))⟩) (by assumption) ?_; simp only [Act.put, List.setIfInBounds_toArray, List.set_cons_zero, List.set_cons_succ]; refine heldL_take (i := 15) (v := _) (by rfl) (by kernel_rfl) (by kernel_rfl) (by kernel_rfl) (fun _ _ _ h => h) (Or.inl ⟨by rfl, fun wS hSw => by ((try dsimp only at hSw); go_simp; (try with_reducible rfl))⟩) (by assumption) ?_; simp only [Act.put, List.setIfInBounds_toArray, List.set_cons_zero, List.set_cons_succ]; refine heldL_step (i := 16) (by kernel_rfl) (by rfl) (fun K hK => ?_); (refine step_app rfl (.tmp 55) (.tmp 69) rfl _ w6.heap.size u F (by rfl) ho.drew _ SL N _ (by rfl) HL2.out (by exact hsl.grows (by exact bel0)) (by rw [HL2.out, HFL.out]; omega) (by simp; omega) ?_; intro v7 w7 ho7 hg7 hv7; have hb7 : Below w6.heap.size _ w7 := below_app ho.drew (by simp; omega) hg7; obtain ⟨A7, c7, rfl, _, _⟩ := ho7.val; have mo7 := mo.drew_.own hg7 HV.out; have mk7 := mk'.drew_.own hg7 (fun g h => by have := (World.ownsRow.lt ho g h).1; omega); have ma7 := ma'.drew_.own hg7 (fun g h => by have := (World.ownsRow.lt ho g h).1; omega); clear y0 y1 y2; obtain ⟨y0, y1, y2⟩ := mo7.cells; have yf := mo7.fz) ; refine hK.out _ _ (by ((try dsimp only); (first | exact keep4 mk7 mo7 ma7 | exact keep4 (mk'.grows (by exact bel0)) (mo.grows (by exact bel0)) (ma'.grows (by exact bel0))))) (fun hHeld => ?_); clear hK K; (try simp only [Act.put, List.setIfInBounds_toArray, List.set_cons_zero, List.set_cons_succ]); refine heldL_take (i := 17) (v := _) (by rfl) (by kernel_rfl) (by kernel_rfl) (by kernel_rfl) (fun _ _ _ h => h) (Or.inl ⟨by rfl, fun wS hSw => by ((try dsimp only at hSw); go_simp; (try with_reducible rfl))⟩) (by assumption) ?_; simp only [Act.put, List.setIfInBounds_toArray, List.set_cons_zero, List.set_cons_succ]; refine wpAnyH_done (by kernel_rfl) ?_ _; refine lastQ_go ?_)
              all_goals
                go_wp2_with fail
                go_round
                case rel =>
                  have hne7 : ∀ g, (Value.slice A7 (F ++ SL).length c7).ownBlock = some g → g ≠ w5.heap.size + 1 := by
                    intro g hg'
                    rcases hv7 with h | h
                    · exact HV.out g (by rw [← h]; exact hg')
                    · rw [h] at hg'; cases hg'; simp; omega
                  have ho8 := ho7.far (p := ⟨w5.heap.size + 1, 2, none⟩) hne7 (.slice A7 (F ++ SL).length c7)
                  have hb8 := (Below.trans (Below.drew hg) (hb7.mono (by omega))).setCell (p := ⟨w5.heap.size + 1, 2, none⟩) (by simp) (.slice A7 (F ++ SL).length c7)
                  exact ⟨I + 1, _, by go_num, by omega, by rw [HSC.out]; simpa using ho8, by simpa using mo7.put2 _, by simpa using hne7, by simpa using hb8⟩
                case measure => simp [intOf]; omega
            · obtain rfl : I = T := by omega
              have hfl := fcL_length I C N l
              have hIm : I * N ≤ 576 := by have := Nat.mul_le_mul hT hN24; omega
              obtain ⟨A8, c8, rfl, hr8, _⟩ := ho.val
              have CM := fun W h h' => (sMul_m I N N c A8 A (fcL I C N l) a (fcL I C N l).length n c8 ca W rfl HN.out h h' (by rw [hfl]; omega) hl).mono fun _ _ h => matRet_out h
              have XP := Lib.hid fun (x : MX) (h : mulO ⟨I, N, fcL I C N l⟩ ⟨N, c, a⟩ = some x) => (oM_length (o := some x) fun m h2 => by cases h2; exact mulO_ok h)
              have HRC := HRB.out
              generalize mulO ⟨I, N, fcL I C N l⟩ ⟨N, c, a⟩ = PO at *
              have CM' := Lib.hid CM
              have HR3 := Lib.hid HRC
              clear CM HRC hfl
              have hgw : Grows w5 _ := Below.trans g56 (hg.mono (by omega))
              have ha8 := ha1.grows (w' := wr) hgw
              replace HG : Grows w wr := by exact bel2 hgw HG
              have mr' := mr6.keep hg (by omega)
              have h_wr := Below.size HG
              have mr'_0 := mr'.c0; have mr'_1 := mr'.c1; have mr'_2 := mr'.c2; have mr'_l := mr'.lt; have mr'_f := mr'.fz
              have mo_0 := mo.c0; have mo_1 := mo.c1; have mo_2 := mo.c2; have mo_l := mo.lt; have mo_f := mo.fz
              have mk'_0 := mk'.c0; have mk'_1 := mk'.c1; have mk'_2 := mk'.c2; have mk'_l := mk'.lt; have mk'_f := mk'.fz
              have ma'_0 := ma'.c0; have ma'_1 := ma'.c1; have ma'_2 := ma'.c2; have ma'_l := ma'.lt; have ma'_f := ma'.fz
              go_wp2_with fail
              refine (CM'.out _ (by exact Rd.grows hr8 (by exact bel0)) (by exact Rd.grows ha8 (by exact bel0))).mono ?_; rintro e w9 ⟨v9, rfl, o9, g_w9⟩
              have s_w9 := Below.size g_w9; (try simp at s_w9)
              clear mr'_0 mr'_1 mr'_2 mr'_l mr'_f
              replace mr' := mr'.grows (w' := w9) (by exact bel1 g_w9)
              have mr'_0 := mr'.c0; have mr'_1 := mr'.c1; have mr'_2 := mr'.c2; have mr'_l := mr'.lt; have mr'_f := mr'.fz
              clear mo_0 mo_1 mo_2 mo_l mo_f
              replace mo := mo.grows (w' := w9) (by exact bel1 g_w9)
              have mo_0 := mo.c0; have mo_1 := mo.c1; have mo_2 := mo.c2; have mo_l := mo.lt; have mo_f := mo.fz
              clear mk'_0 mk'_1 mk'_2 mk'_l mk'_f
              replace mk' := mk'.grows (w' := w9) (by exact bel1 g_w9)
              have mk'_0 := mk'.c0; have mk'_1 := mk'.c1; have mk'_2 := mk'.c2; have mk'_l := mk'.lt; have mk'_f := mk'.fz
              clear ma'_0 ma'_1 ma'_2 ma'_l ma'_f
              replace ma' := ma'.grows (w' := w9) (by exact bel1 g_w9)
              have ma'_0 := ma'.c0; have ma'_1 := ma'.c1; have ma'_2 := ma'.c2; have ma'_l := ma'.lt; have ma'_f := ma'.fz
              replace hr8 := hr8.grows (w' := w9) (by exact bel1 g_w9)
              replace ha8 := ha8.grows (w' := w9) (by exact bel1 g_w9)
              replace HG : Grows w w9 := by exact bel2 g_w9 HG
              have h_w9 := Below.size HG
              obtain ⟨A9, c9, rfl, hr9, _⟩ := o9.val
              cases PO with
              | none =>
                obtain rfl : RES = none := HR3.out
                go_wp2_with fail
                refine bodyPost_ret (v := .tuple #[.agg #[.int .i64 0, .int .i64 0, .slice none 0 0], .bool false]) ?_ rfl ?_
                · simp [results, Try.results27, go_sem, mr'_0, mr'_1, mr'_2, mr'_f, mr'_l]
                · exact ⟨_, rfl, Own.nil _ _, by exact bel1 HG⟩
              | some p =>
                have hxp : p.l.length ≤ 576 := XP.out p rfl
                simp only [oM_some] at hr9 hxp ⊢
                have CB := fun W A cp h => (sBas_c p.r p.c A p.l p.l.length cp W rfl h (by omega)).mono fun _ _ h => matRet_out h
                have HRB : RES = basO p := HR3.out
                rw [show (⟨p.r, p.c, p.l⟩ : MX) = p from rfl, ← HRB] at CB
                have CB' := Lib.hid CB
                clear CB HRB
                go_wp2_with fail
                refine (CB'.out _ _ _ (by exact Rd.grows hr9 (by exact bel0))).mono ?_; rintro e w10 ⟨v10, rfl, o10, g_w10⟩
                have s_w10 := Below.size g_w10; (try simp at s_w10)
                clear mr'_0 mr'_1 mr'_2 mr'_l mr'_f
                replace mr' := mr'.grows (w' := w10) (by exact bel1 g_w10)
                have mr'_0 := mr'.c0; have mr'_1 := mr'.c1; have mr'_2 := mr'.c2; have mr'_l := mr'.lt; have mr'_f := mr'.fz
                clear mo_0 mo_1 mo_2 mo_l mo_f
                replace mo := mo.grows (w' := w10) (by exact bel1 g_w10)
                have mo_0 := mo.c0; have mo_1 := mo.c1; have mo_2 := mo.c2; have mo_l := mo.lt; have mo_f := mo.fz
                clear mk'_0 mk'_1 mk'_2 mk'_l mk'_f
                replace mk' := mk'.grows (w' := w10) (by exact bel1 g_w10)
                have mk'_0 := mk'.c0; have mk'_1 := mk'.c1; have mk'_2 := mk'.c2; have mk'_l := mk'.lt; have mk'_f := mk'.fz
                clear ma'_0 ma'_1 ma'_2 ma'_l ma'_f
                replace ma' := ma'.grows (w' := w10) (by exact bel1 g_w10)
                have ma'_0 := ma'.c0; have ma'_1 := ma'.c1; have ma'_2 := ma'.c2; have ma'_l := ma'.lt; have ma'_f := ma'.fz
                replace hr8 := hr8.grows (w' := w10) (by exact bel1 g_w10)
                replace ha8 := ha8.grows (w' := w10) (by exact bel1 g_w10)
                replace hr9 := hr9.grows (w' := w10) (by exact bel1 g_w10)
                have mp : MBox w10 (w9.heap.size) p.r p.c (.slice A9 p.l.length c9) := MBox.grows (MBox.new_ w9 p.r p.c (.slice A9 p.l.length c9) 28 (by simp)) (w' := w10) (by exact bel1 g_w10)
                have mp_0 := mp.c0; have mp_1 := mp.c1; have mp_2 := mp.c2; have mp_l := mp.lt; have mp_f := mp.fz
                replace HG : Grows w w10 := by exact bel2 g_w10 HG
                have h_w10 := Below.size HG
                obtain ⟨A10, c10, rfl, _, _⟩ := o10.val
                go_wp2_with fail
                refine bodyPost_ret (v := .tuple #[.agg #[.int .i64 (oM RES).r, .int .i64 (oM RES).c, .slice A10 (oM RES).l.length c10], .bool RES.isSome]) ?_ rfl ?_
                · simp [results, Try.results27, go_sem, mr'_0, mr'_1, mr'_2, mr'_f, mr'_l]
                · exact ⟨_, rfl, by exact ownl o10, by exact bel1 HG⟩
end
end Go.Proofs.Ytpgoefdeodoacaa
