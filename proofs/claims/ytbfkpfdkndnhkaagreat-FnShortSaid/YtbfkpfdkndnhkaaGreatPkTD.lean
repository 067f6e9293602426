/- Contracts and lemmas, put together. -/
import Derived.Test.YtbfkpfdkndnhkaaGreatPkA
import Derived.Test.YtbfkpfdkndnhkaaGreatPkB
import Derived.Test.YtbfkpfdkndnhkaaGreatPkNS
import Derived.Test.YtbfkpfdkndnhkaaGreatPkTB
import Derived.Test.YtbfkpfdkndnhkaaGreatPkTC
import Derived.Test.YtbfkpfdkndnhkaaGreatPkTI
import Derived.Test.YtbfkpfdkndnhkaaGreatPkVS
import Derived.Test.YtbfkpfdkndnhkaaGreatPkXF
/- Contract: the short vectors by the search, the program's. -/
namespace Go.Proofs.YtbfkpfdkndnhkaaGreat
set_option linter.unusedSimpArgs false
set_option linter.unusedVariables false
open Go.RowKit
set_option linter.unusedVariables false

/-- a new variable of the search -/
theorem TBox.new_ (w : World) (u v x : Value) (R : Nat) (bad : Bool) (t : TypeId) : TBox (w.alloc (.cells #[u, v, .int .i64 R, x, .bool bad] t)) w.heap.size u v R x bad :=
  ⟨by simp, by simp [go_sem], by simp [go_sem], by simp [go_sem], by simp [go_sem], by simp [go_sem], fun o => by simp [go_sem]⟩
theorem step_makeI {ops : Array Oper} {o : Oper} {a : Act} {K : Act → World → Prop} {Q : Exit → Act → World → Prop} {E : Prop} (hgd : o.guard = none) (l c : Operand)
    (ho : o.op = Op.makeSlice 24 l c) (w : World) (n : Nat) (hl : a.eval l = .int .i64 n) (hc : a.eval c = .int .i64 n) (hn : n ≤ 1048576)
    (h : ∀ w', Own w' w.heap.size (.slice (some ⟨w.heap.size, 0, none⟩) n n) (List.replicate n 0) → Grows w w' → K (a.put o.dst (.slice (some ⟨w.heap.size, 0, none⟩) n n)) w') :
    if Region.wanted o (yielded ops a.tmps) = true then Oper.wp Tryz.prog o a w K Q else E := by
  have hw : Region.wanted o (yielded ops a.tmps) = true := by simp [Region.wanted, hgd]
  rw [if_pos hw]
  obtain ⟨i0, hi0, hz0, hz1, hz2⟩ := info_parts info_int
  obtain ⟨w', hrun, r1, r2⟩ := run_make_full (P := Tryz.prog) w w.heap.size 24 3 i0 (.int .i64 0) 1 Tryz.underlying24 hi0 hz0 hz1 .i64 .i64 n (by rw [hz2]; omega) (by unfold maxLen; omega) (Nat.le_refl _)
  unfold Oper.wp
  simp [execOp, ho, hl, hc, hrun, Result.andThen]
  refine h w' ?_ ((Below.refl _ _).grown r2 (Nat.le_refl _) (by simp))
  unfold Own
  rw [List.length_replicate, List.map_replicate]
  rw [show (Value.int IntKind.i64 0).cells = #[Value.int IntKind.i64 0] from rfl, Nat.mul_one, toList_madeCells_one] at r1
  exact r1
section
set_option maxHeartbeats 8000000
set_option maxRecDepth 100000
theorem placeAll_c (mu : List (List Q2)) (sq : List Q2) (wK : World) (b R : Nat) (Am As : Option Addr) (cm cs : Nat) (Ax : Option Addr) (cx : Nat) (hI : AccI R (mu, sq)) (hR : R ≤ 24) (hm : RdR RSQ wK Am mu) (hs : RdQ wK As sq) (hb : wK.heap.size ≤ b) (hxb : ∀ g, (Value.slice Ax R cx).ownBlock = some g → g ≠ b) :
    ∀ k, k ≤ R → PIH mu sq wK b R (.slice Am R cm) (.slice As R cs) (.slice Ax R cx) k
  | 0, _ => fun x left w hx _ hg tb ox => placeZ_c mu sq wK b R (.slice Am R cm) (.slice As R cs) Ax cx x left w hx hR hg tb ox
  | i + 1, hk => fun x left w hx hz hg tb ox => by
    have e : (((i + 1 : Nat) : Int) - 1) = (i : Int) := by omega
    rw [e]
    exact placeS_c mu sq wK b R i Am As cm cs Ax cx hI hR (by omega) hm hs hb hxb (placeAll_c mu sq wK b R Am As cm cs Ax cx hI hR hm hs hb hxb i (by omega)) x left w hx hz hg tb ox
theorem iSbt_c (r c b : Int) (A : Option Addr) (l : List Int) (n cap : Nat) (w : World) (hn : l.length = n) (hcap : n ≤ cap) (hcap2 : cap ≤ 9223372036854775807) (ha : Rd w A l) (hl : n ≤ 1099511627776) :
    Calls Tryz.prog 8 #[.agg #[.int .i64 r, .int .i64 c, .slice A n cap], .int .i64 b] w (RowsRet (sbtO ⟨r, c, l⟩ b) w) := by
  have CD := fun W h => iIsDef_c r c A l n cap W hn hcap hcap2 h hl
  have CV := Lib.hid fun (A' : Option Addr) (x : List Int) (c' : Nat) W h h' (hx : x.length ≤ 1099511627776) => iValueAt_c r c A A' l x n x.length cap c' W hn rfl h h' hl hx
  obtain ⟨w1, hw1⟩ : ∃ w1, w1 = w.alloc (.cells #[.int .i64 r, .int .i64 c, .slice A n cap] 26) := ⟨_, rfl⟩
  have ma : MBox w1 w.heap.size r c (.slice A n cap) := by rw [hw1]; exact MBox.mk_ _ _ _ _ _
  have HG : Grows w w1 := by rw [hw1]; exact bel0
  have HS1 : w1.heap.size = w.heap.size + 1 := by rw [hw1]; simp
  have HW1 := Lib.hid hw1
  have ha1 := ha.grows HG
  obtain ⟨RES, hRES⟩ : ∃ x, x = sbtO ⟨r, c, l⟩ b := ⟨_, rfl⟩
  rw [← hRES]
  have HR := Lib.hid hRES
  obtain ⟨D, hD⟩ : ∃ x, x = isDef r c l := ⟨_, rfl⟩
  rw [← hD] at CD
  have CD' := Lib.hid CD
  clear hw1 CD hRES
  cases D
  · obtain rfl : RES = none := HR.out.trans (sbtO_no1 hD.symm)
    clear hD
    go_enter Tryz.func8, Tryz.ntmps8
    go_wp2_with fail
    rw [← HW1.out]
    have ma_0 := ma.c0; have ma_1 := ma.c1; have ma_2 := ma.c2; have ma_l := ma.lt; have ma_f := ma.fz
    refine (CD'.out _ (by exact Rd.grows ha1 (by exact bel0))).mono ?_; rintro e w2 ⟨rfl, g_w2⟩
    have s_w2 := Below.size g_w2; (try simp at s_w2)
    clear ma_0 ma_1 ma_2 ma_l ma_f
    replace ma := ma.grows (w' := w2) (by exact bel1 g_w2)
    have ma_0 := ma.c0; have ma_1 := ma.c1; have ma_2 := ma.c2; have ma_l := ma.lt; have ma_f := ma.fz
    replace ha1 := ha1.grows (w' := w2) (by exact bel1 g_w2)
    replace HG : Grows w w2 := by exact bel2 g_w2 HG
    have h_w2 := Below.size HG
    go_wp2_with fail
    go_ret2
    exact ⟨_, [], rfl, RowsO.new_ _ rfl (by omega), by exact bel1 HG⟩
  · by_cases hb0 : b < 0
    · obtain rfl : RES = none := HR.out.trans (sbtO_no2 (by cases h : inB b 0 10000; rfl; have := (inB_iff _ _ _).1 h; omega))
      clear hD
      go_enter Tryz.func8, Tryz.ntmps8
      go_wp2_with fail
      rw [← HW1.out]
      have ma_0 := ma.c0; have ma_1 := ma.c1; have ma_2 := ma.c2; have ma_l := ma.lt; have ma_f := ma.fz
      refine (CD'.out _ (by exact Rd.grows ha1 (by exact bel0))).mono ?_; rintro e w2 ⟨rfl, g_w2⟩
      have s_w2 := Below.size g_w2; (try simp at s_w2)
      clear ma_0 ma_1 ma_2 ma_l ma_f
      replace ma := ma.grows (w' := w2) (by exact bel1 g_w2)
      have ma_0 := ma.c0; have ma_1 := ma.c1; have ma_2 := ma.c2; have ma_l := ma.lt; have ma_f := ma.fz
      replace ha1 := ha1.grows (w' := w2) (by exact bel1 g_w2)
      replace HG : Grows w w2 := by exact bel2 g_w2 HG
      have h_w2 := Below.size HG
      go_wp2_with fail
      go_ret2
      exact ⟨_, [], rfl, RowsO.new_ _ rfl (by omega), by exact bel1 HG⟩
    · by_cases hb1 : 10000 < b
      · obtain rfl : RES = none := HR.out.trans (sbtO_no2 (by cases h : inB b 0 10000; rfl; have := (inB_iff _ _ _).1 h; omega))
        clear hD
        go_enter Tryz.func8, Tryz.ntmps8
        go_wp2_with fail
        rw [← HW1.out]
        have ma_0 := ma.c0; have ma_1 := ma.c1; have ma_2 := ma.c2; have ma_l := ma.lt; have ma_f := ma.fz
        refine (CD'.out _ (by exact Rd.grows ha1 (by exact bel0))).mono ?_; rintro e w2 ⟨rfl, g_w2⟩
        have s_w2 := Below.size g_w2; (try simp at s_w2)
        clear ma_0 ma_1 ma_2 ma_l ma_f
        replace ma := ma.grows (w' := w2) (by exact bel1 g_w2)
        have ma_0 := ma.c0; have ma_1 := ma.c1; have ma_2 := ma.c2; have ma_l := ma.lt; have ma_f := ma.fz
        replace ha1 := ha1.grows (w' := w2) (by exact bel1 g_w2)
        replace HG : Grows w w2 := by exact bel2 g_w2 HG
        have h_w2 := Below.size HG
        go_wp2_with fail
        go_ret2
        exact ⟨_, [], rfl, RowsO.new_ _ rfl (by omega), by exact bel1 HG⟩
      · obtain ⟨hm, R, rfl, rfl, hR6, hll, hnum⟩ := isSq_nat (isDef_sq hD.symm)
        have HDEF := Lib.hid (show isDef R R l = true from hD.symm)
        have HR2 := Lib.hid (HR.out.trans (sbtO_yes hD.symm ((inB_iff b 0 10000).2 (by omega))))
        have CA0 := fun W h => (iAcc_c R A l n cap W hn hll (by omega) h).mono fun _ _ h => accRet_out h
        obtain ⟨SO, hSO⟩ : ∃ x, x = accF R l R := ⟨_, rfl⟩
        rw [← hSO] at CA0
        have HSO := Lib.hid hSO
        have CA := Lib.hid CA0
        clear hD hm hSO CA0 HR hnum
        cases SO with
        | none =>
          obtain rfl : RES = none := HR2.out.trans (by rw [← HSO.out]; rfl)
          go_enter Tryz.func8, Tryz.ntmps8
          go_wp2_with fail
          rw [← HW1.out]
          have ma_0 := ma.c0; have ma_1 := ma.c1; have ma_2 := ma.c2; have ma_l := ma.lt; have ma_f := ma.fz
          refine (CD'.out _ (by exact Rd.grows ha1 (by exact bel0))).mono ?_; rintro e w2 ⟨rfl, g_w2⟩
          have s_w2 := Below.size g_w2; (try simp at s_w2)
          clear ma_0 ma_1 ma_2 ma_l ma_f
          replace ma := ma.grows (w' := w2) (by exact bel1 g_w2)
          have ma_0 := ma.c0; have ma_1 := ma.c1; have ma_2 := ma.c2; have ma_l := ma.lt; have ma_f := ma.fz
          replace ha1 := ha1.grows (w' := w2) (by exact bel1 g_w2)
          replace HG : Grows w w2 := by exact bel2 g_w2 HG
          have h_w2 := Below.size HG
          go_wp2_with fail
          refine (CA.out _ (by exact Rd.grows ha1 (by exact bel0))).mono ?_; rintro e w5 ⟨Am, cm, As, cs, rfl, _, _, g_w5⟩
          have s_w5 := Below.size g_w5; (try simp at s_w5)
          clear ma_0 ma_1 ma_2 ma_l ma_f
          replace ma := ma.grows (w' := w5) (by exact bel1 g_w5)
          have ma_0 := ma.c0; have ma_1 := ma.c1; have ma_2 := ma.c2; have ma_l := ma.lt; have ma_f := ma.fz
          replace ha1 := ha1.grows (w' := w5) (by exact bel1 g_w5)
          replace HG : Grows w w5 := by exact bel2 g_w5 HG
          have h_w5 := Below.size HG
          go_wp2_with fail
          go_ret2
          exact ⟨_, [], rfl, RowsO.new_ _ (by first | rfl | simp) (by first | omega | (simp; omega)), by exact bel1 HG⟩
        | some s =>
          have hI := accF_inv HSO.out.symm
          have HR3 := Lib.hid (show RES = (treeO s.1 s.2 R (List.replicate R 0) (b, 1)).map fun rows => putsK [] (shL ⟨R, R, l⟩ b rows) from HR2.out.trans (by rw [← HSO.out]; rfl))
          have hl1 : s.1.length = R := hI.l1
          have hl2 : s.2.length = R := hI.l2
          have HI := Lib.hid hI
          clear hI HR2
          go_enter Tryz.func8, Tryz.ntmps8
          go_wp2_with fail
          rw [← HW1.out]
          have ma_0 := ma.c0; have ma_1 := ma.c1; have ma_2 := ma.c2; have ma_l := ma.lt; have ma_f := ma.fz
          refine (CD'.out _ (by exact Rd.grows ha1 (by exact bel0))).mono ?_; rintro e w2 ⟨rfl, g_w2⟩
          have s_w2 := Below.size g_w2; (try simp at s_w2)
          clear ma_0 ma_1 ma_2 ma_l ma_f
          replace ma := ma.grows (w' := w2) (by exact bel1 g_w2)
          have ma_0 := ma.c0; have ma_1 := ma.c1; have ma_2 := ma.c2; have ma_l := ma.lt; have ma_f := ma.fz
          replace ha1 := ha1.grows (w' := w2) (by exact bel1 g_w2)
          replace HG : Grows w w2 := by exact bel2 g_w2 HG
          have h_w2 := Below.size HG
          go_wp2_with fail
          refine (CA.out _ (by exact Rd.grows ha1 (by exact bel0))).mono ?_; rintro e w5 ⟨Am, cm, As, cs, rfl, hrm, hrs, g_w5⟩
          have s_w5 := Below.size g_w5; (try simp at s_w5)
          clear ma_0 ma_1 ma_2 ma_l ma_f
          replace ma := ma.grows (w' := w5) (by exact bel1 g_w5)
          have ma_0 := ma.c0; have ma_1 := ma.c1; have ma_2 := ma.c2; have ma_l := ma.lt; have ma_f := ma.fz
          replace ha1 := ha1.grows (w' := w5) (by exact bel1 g_w5)
          replace HG : Grows w w5 := by exact bel2 g_w5 HG
          have h_w5 := Below.size HG
          have eo : oA (some s) = s := rfl
          rw [eo] at hrm hrs ⊢
          rw [hl1, hl2]
          simp only [Option.isSome_some]
          obtain ⟨w6, hw6⟩ : ∃ W, W = w5.alloc (.cells #[.slice Am R cm, .slice As R cs] 51) := ⟨_, rfl⟩
          have sb6 : SBox w6 w5.heap.size (.slice Am R cm) (.slice As R cs) := by rw [hw6]; exact SBox.new_ _ _ _ _ rfl
          have g56 : Grows w5 w6 := by rw [hw6]; exact bel0
          have HW6 := Lib.hid hw6
          have hrm6 := hrm.grows RSQ.good g56
          have hrs6 := hrs.grows g56
          clear hw6 hrm hrs CD' CA eo
          have s_w6 := Below.size g56; (try simp at s_w6)
          clear ma_0 ma_1 ma_2 ma_l ma_f
          replace ma := ma.grows (w' := w6) (by exact bel1 g56)
          have ma_0 := ma.c0; have ma_1 := ma.c1; have ma_2 := ma.c2; have ma_l := ma.lt; have ma_f := ma.fz
          replace ha1 := ha1.grows (w' := w6) (by exact bel1 g56)
          replace HG : Grows w w6 := by exact bel2 g56 HG
          have h_w6 := Below.size HG
          go_upto_region 6 with fail
          rw [← HW6.out]
          have mm6 := ma.cells
          go_wp2_with fail
          (refine wp_region_heldL (fun W => W.cell? ⟨w5.heap.size, 0, none⟩ = some (.slice Am R cm) ∧ W.cell? ⟨w5.heap.size, 1, none⟩ = some (.slice As R cs) ∧ W.cell? ⟨w.heap.size, 0, none⟩ = some (.int .i64 R)) (by kernel_rfl) (by ((try dsimp only); (first | exact ⟨sb6.c0, sb6.c1, ma.c0⟩ | exact ⟨(sb6.grows (by exact bel1 g7)).c0, (sb6.grows (by exact bel1 g7)).c1, (ma.grows (by exact bel1 g7)).c0⟩))) (fun hHeld => ?_); refine heldL_take (i := 0) (v := _) (by rfl) (by kernel_rfl) (by kernel_rfl) (by kernel_rfl) (fun _ _ _ h => h) (Or.inl ⟨by rfl, fun wS hSw => by ((try dsimp only at hSw); go_simp; (try with_reducible rfl))⟩) (by assumption) ?_; simp only [Act.put, List.setIfInBounds_toArray, List.set_cons_zero, List.set_cons_succ]; refine heldL_take (i := 1) (v := _) (by rfl) (by kernel_rfl) (by kernel_rfl) (by kernel_rfl) (fun _ _ _ h => h) (Or.inl ⟨by rfl, fun wS hSw => by ((try dsimp only at hSw); go_simp; (try with_reducible rfl))⟩) (by assumption) ?_; simp only [Act.put, List.setIfInBounds_toArray, List.set_cons_zero, List.set_cons_succ]; refine heldL_take (i := 2) (v := _) (by rfl) (by kernel_rfl) (by kernel_rfl) (by kernel_rfl) (fun _ _ _ h => h) (Or.inl ⟨by rfl, fun wS hSw => by ((try dsimp only at hSw); go_simp; (try with_reducible rfl))⟩) (by assumption) ?_; simp only [Act.put, List.setIfInBounds_toArray, List.set_cons_zero, List.set_cons_succ]; refine heldL_take (i := 3) (v := _) (by rfl) (by kernel_rfl) (by kernel_rfl) (by kernel_rfl) (fun _ _ _ h => h) (Or.inl ⟨by rfl, fun wS hSw => by ((try dsimp only at hSw); go_simp; (try with_reducible rfl))⟩) (by assumption) ?_; simp only [Act.put, List.setIfInBounds_toArray, List.set_cons_zero, List.set_cons_succ]; refine heldL_take (i := 4) (v := _) (by rfl) (by kernel_rfl) (by kernel_rfl) (by kernel_rfl) (fun _ _ _ h => h) (Or.inl ⟨by rfl, fun wS hSw => by ((try dsimp only at hSw); go_simp; (try with_reducible rfl))⟩) (by assumption) ?_; simp only [Act.put, List.setIfInBounds_toArray, List.set_cons_zero, List.set_cons_succ]; refine heldL_step (i := 5) (by kernel_rfl) (by rfl) (fun K hK => ?_); (refine step_makeI rfl (.tmp 39) (.tmp 39) rfl _ R (by rfl) (by rfl) (by omega) ?_; intro w7 hx7 g7; have hx7 : Own w7 w6.heap.size (.slice (some ⟨w6.heap.size, 0, none⟩) R R) (List.replicate R 0) := hx7; have g7 : Grows w6 w7 := Grows.trans (show Grows w6 _ by exact bel0) g7) ; refine hK.out _ _ (by ((try dsimp only); (first | exact ⟨sb6.c0, sb6.c1, ma.c0⟩ | exact ⟨(sb6.grows (by exact bel1 g7)).c0, (sb6.grows (by exact bel1 g7)).c1, (ma.grows (by exact bel1 g7)).c0⟩))) (fun hHeld => ?_); clear hK K; (try simp only [Act.put, List.setIfInBounds_toArray, List.set_cons_zero, List.set_cons_succ]); refine heldL_take (i := 6) (v := _) (by rfl) (by kernel_rfl) (by kernel_rfl) (by kernel_rfl) (fun _ _ _ h => h) (Or.inl ⟨by rfl, fun wS hSw => by ((try dsimp only at hSw); go_simp; (try with_reducible rfl))⟩) (by assumption) ?_; simp only [Act.put, List.setIfInBounds_toArray, List.set_cons_zero, List.set_cons_succ]; refine heldL_step (i := 7) (by kernel_rfl) (by rfl) (fun K hK => ?_); go_simp; refine hK.out _ _ (by ((try dsimp only); (first | exact ⟨sb6.c0, sb6.c1, ma.c0⟩ | exact ⟨(sb6.grows (by exact bel1 g7)).c0, (sb6.grows (by exact bel1 g7)).c1, (ma.grows (by exact bel1 g7)).c0⟩))) (fun hHeld => ?_); clear hK K; (try simp only [Act.put, List.setIfInBounds_toArray, List.set_cons_zero, List.set_cons_succ]); refine heldL_take (i := 8) (v := _) (by rfl) (by kernel_rfl) (by kernel_rfl) (by kernel_rfl) (fun _ _ _ h => h) (Or.inl ⟨by rfl, fun wS hSw => by ((try dsimp only at hSw); go_simp; (try with_reducible rfl))⟩) (by assumption) ?_; simp only [Act.put, List.setIfInBounds_toArray, List.set_cons_zero, List.set_cons_succ]; refine wpAnyH_done (by kernel_rfl) ?_ _; refine NoPanic.normal ?_)
          have hs67 := Below.size g7
          obtain ⟨w8, hw8⟩ : ∃ W, W = w7.alloc (.cells #[.slice Am R cm, .slice As R cs, .int .i64 R, .slice (some ⟨w6.heap.size, 0, none⟩) R R, .bool false] 56) := ⟨_, rfl⟩
          have tb8 : TBox w8 w7.heap.size (.slice Am R cm) (.slice As R cs) R (.slice (some ⟨w6.heap.size, 0, none⟩) R R) false := by rw [hw8]; exact TBox.new_ _ _ _ _ _ _ _
          have ox8 : Own w8 w6.heap.size (.slice (some ⟨w6.heap.size, 0, none⟩) R R) (List.replicate R 0) := by rw [hw8]; exact hx7.alloc _
          have g78 : Grows w7 w8 := by rw [hw8]; exact bel0
          have HW8 := Lib.hid hw8
          have hs78 := Below.size g78
          have g68 : Grows w6 w8 := by exact bel2 g78 g7
          have ma8 := ma.grows (w' := w8) g68
          have hx7l := (World.ownsRow.lt hx7 w6.heap.size (by simp [Value.ownBlock])).2
          have hbm := ma.lt
          have hIH := placeAll_c s.1 s.2 w6 w7.heap.size R Am As cm cs (some ⟨w6.heap.size, 0, none⟩) R HI.out (by omega) hrm6 hrs6 hs67 (fun g hg => by simp [Value.ownBlock] at hg; omega) R (Nat.le_refl R)
          have CP := Lib.hid fun W (g : Grows w8 W) => hIH (List.replicate R 0) (wholeQ b) W (by simp) (fun t ht => by rw [nth_replicate]) (by exact bel2 g g68) (tb8.grows g) (ox8.grows g)
          have CW := Lib.hid fun W => whole_c b W
          have hwR : IntKind.i64.wrap ((R : Int) - 1) = (R : Int) - 1 := IntWalk.i64_in _ (by omega)
          have HG8 : Grows w w8 := by exact bel2 g68 HG
          clear hw8 hIH hx7 g78 g7 sb6 mm6 ma_0 ma_1 ma_2 ma_l ma_f
          go_upto_region 7 with fail
          rw [← HW8.out]
          go_wp2_with fail
          (refine wp_region_heldL (fun W => W.cell? ⟨w.heap.size, 0, none⟩ = some (.int .i64 R)) (by kernel_rfl) (by ((try dsimp only); (first | exact mm10.c0 | exact (ma8.grows (by exact bel1 g9)).c0 | exact (ma8.grows (by exact bel0)).c0))) (fun hHeld => ?_); refine heldL_take (i := 0) (v := _) (by rfl) (by kernel_rfl) (by kernel_rfl) (by kernel_rfl) (fun _ _ _ h => h) (Or.inl ⟨by rfl, fun wS hSw => by ((try dsimp only at hSw); go_simp; (try with_reducible rfl))⟩) (by assumption) ?_; simp only [Act.put, List.setIfInBounds_toArray, List.set_cons_zero, List.set_cons_succ]; refine heldL_take (i := 1) (v := _) (by rfl) (by kernel_rfl) (by kernel_rfl) (by kernel_rfl) (fun _ _ _ h => h) (Or.inl ⟨by rfl, fun wS hSw => by ((try dsimp only at hSw); go_simp; (try with_reducible rfl))⟩) (by assumption) ?_; simp only [Act.put, List.setIfInBounds_toArray, List.set_cons_zero, List.set_cons_succ]; refine heldL_take (i := 2) (v := _) (by rfl) (by kernel_rfl) (by kernel_rfl) (by kernel_rfl) (fun _ _ _ h => h) (Or.inl ⟨by rfl, fun wS hSw => by ((try dsimp only at hSw); go_simp; (try with_reducible rfl))⟩) (by assumption) ?_; simp only [Act.put, List.setIfInBounds_toArray, List.set_cons_zero, List.set_cons_succ]; refine heldL_take (i := 3) (v := _) (by rfl) (by kernel_rfl) (by kernel_rfl) (by kernel_rfl) (fun _ _ _ h => h) (Or.inl ⟨by rfl, fun wS hSw => by ((try dsimp only at hSw); go_simp; (try with_reducible rfl))⟩) (by assumption) ?_; simp only [Act.put, List.setIfInBounds_toArray, List.set_cons_zero, List.set_cons_succ]; refine heldL_take (i := 4) (v := _) (by rfl) (by kernel_rfl) (by kernel_rfl) (by kernel_rfl) (fun _ _ _ h => h) (Or.inl ⟨by rfl, fun wS hSw => by ((try dsimp only at hSw); go_simp; (try with_reducible rfl))⟩) (by assumption) ?_; simp only [Act.put, List.setIfInBounds_toArray, List.set_cons_zero, List.set_cons_succ]; refine heldL_step (i := 5) (by kernel_rfl) (by rfl) (fun K hK => ?_); go_simp; (refine (CW.out _).mono ?_; rintro e w9 ⟨rfl, g9⟩; have g89 : Grows w8 w9 := by exact bel1 g9) ; (try (go_wp2_with fail)); refine hK.out _ _ (by ((try dsimp only); (first | exact mm10.c0 | exact (ma8.grows (by exact bel1 g9)).c0 | exact (ma8.grows (by exact bel0)).c0))) (fun hHeld => ?_); clear hK K; (try simp only [Act.put, List.setIfInBounds_toArray, List.set_cons_zero, List.set_cons_succ]); refine heldL_step (i := 6) (by kernel_rfl) (by rfl) (fun K hK => ?_); go_simp; (refine (CP.out w9 g89).mono ?_; rintro e w10 ⟨rows, A4, c4, vs, bad, rfl, hPF, o10, hLl, tb10, _, mv10⟩; have mm10 : MBox w10 w.heap.size R R (.slice A n cap) := (ma8.grows g89).mv mv10 (fun h => by rcases h with h | h; (· omega); (· simp [Value.ownBlock] at h; omega))) ; (try (go_wp2_with fail)); refine hK.out _ _ (by ((try dsimp only); (first | exact mm10.c0 | exact (ma8.grows (by exact bel1 g9)).c0 | exact (ma8.grows (by exact bel0)).c0))) (fun hHeld => ?_); clear hK K; (try simp only [Act.put, List.setIfInBounds_toArray, List.set_cons_zero, List.set_cons_succ]); refine heldL_take (i := 7) (v := _) (by rfl) (by kernel_rfl) (by kernel_rfl) (by kernel_rfl) (fun _ _ _ h => h) (Or.inl ⟨by rfl, fun wS hSw => by ((try dsimp only at hSw); go_simp; (try with_reducible rfl))⟩) (by assumption) ?_; simp only [Act.put, List.setIfInBounds_toArray, List.set_cons_zero, List.set_cons_succ]; refine wpAnyH_done (by kernel_rfl) ?_ _; refine NoPanic.normal ?_)
          have HG10 : Grows w w10 := Mv.below ((Mv.of_grows (show Grows w w9 by exact bel2 g89 HG8)).trans mv10) (Nat.le_refl _) fun g h => by
            rcases h with h | h
            · omega
            · simp [Value.ownBlock] at h; omega
          have ha10 := ha.grows HG10
          have hs9 := Below.size g89
          have hs10 := mv10.size
          have hs3 : w.heap.size ≤ w9.heap.size := by omega
          have c4b := tb10.c4
          have c4l := tb10.lt
          have hb4 : rows.length ≤ 24001 := by omega
          have hTR := PF.tree hPF
          have ma10 := mm10
          clear CP CW ma8 tb8 ox8 g68 g89 mm10 tb10 mv10 hrm6 hrs6 g9 g56 ma ha1 HG8 HW8 HW6 HW1
          cases bad
          rotate_left
          · obtain rfl : RES = none := HR3.out.trans (by rw [show treeO s.1 s.2 R (List.replicate R 0) (b, 1) = none from hTR]; rfl)
            go_wp2_with fail
            go_ret2
            exact ⟨_, [], rfl, RowsO.new_ _ rfl (by omega), by exact bel1 HG10⟩
          · have hRES : RES = some (putsK [] (shL ⟨R, R, l⟩ b rows)) := HR3.out.trans (by rw [show treeO s.1 s.2 R (List.replicate R 0) (b, 1) = some rows from hTR]; rfl)
            have HFL := Lib.hid fun (v : List Int) (hv : v ∈ rows) => show v.length = R from by
              obtain ⟨o, h1, h2, h3⟩ := hPF
              cases o with
              | none => cases h2
              | some y =>
                obtain rfl := h3 y rfl
                have := (h1.cells hv).1
                rwa [List.length_replicate] at this
            subst hRES
            clear hTR hPF HR3 HSO HI
            go_wp2_with fail
            go_loopw [10, 58] (fun o i wr => ∃ (I : Nat), i = .int .i64 I ∧ I ≤ rows.length ∧ OwnS wr w10.heap.size o (selV ⟨R, R, l⟩ b vs rows I) ∧ Grows w10 wr) (fun _ i _ => rows.length - (intOf i).toNat)
            case atStart => exact ⟨0, rfl, Nat.zero_le _, OwnS.new_ _ rfl (Nat.le_refl _), by exact bel0⟩
            case round =>
              obtain ⟨I, rfl, hI, ho, hg⟩ := hrel
              have hsw := Below.size hg
              by_cases hlt : I < rows.length
              · have i1 : (I : Int) < (rows.length : Int) := by omega
                obtain ⟨b8, o8, A5, c5, rfl, hb8, hc8, hr5, he5, how5⟩ := (o10.grows hg).cellAt hlt
                have hxl : (rows.getD I []).length ≤ 6 := by rw [HFL.out _ (rowsD_mem hlt)]; exact hR6
                have ma2 := ma10.grows (w' := wr) (by exact bel1 hg)
                obtain ⟨m0, m1, m2⟩ := ma2.cells
                have HN0 := Lib.hid fun h => selV_none (g := ⟨R, R, l⟩) (b := b) (vs := vs) (rows := rows) (i := I) h
                have HN1 := Lib.hid fun k h => selV_some (g := ⟨R, R, l⟩) (b := b) (vs := vs) (rows := rows) (i := I) (k := k) h
                have hsl := selV_len (g := ⟨R, R, l⟩) (b := b) (vs := vs) (rows := rows) (i := I)
                rw [he5] at HN1
                have CP := Lib.hid fun W h => posFirst_c A5 (rows.getD I []) (rows.getD I []).length c5 W rfl h (by omega)
                have CW := Lib.hid fun W h h' => CV.out A5 (rows.getD I []) c5 W h h' (by omega)
                have K1 := Lib.hid fun h => HN0.out (shK_no1 (g := ⟨R, R, l⟩) (b := b) h)
                have K2 := Lib.hid fun h => HN0.out (shK_no2 (g := ⟨R, R, l⟩) (b := b) h)
                have K3 := Lib.hid fun h => HN0.out (shK_no3 (g := ⟨R, R, l⟩) (b := b) h)
                have K4 := Lib.hid fun h1 h2 h3 => HN1.out _ (shK_yes (g := ⟨R, R, l⟩) (b := b) h1 h2 h3)
                have K5 := Lib.hid fun h1 h2 => val_pos (g := l) (x := rows.getD I []) HDEF.out h1 (posV_some h2)
                simp only at K1 K2 K3 K4 K5
                clear HN0 HN1 he5
                have haw := ha10.grows (w' := wr) (by exact bel1 hg)
                generalize vVal R R l (rows.getD I []) = V at *
                generalize vOk R R l (rows.getD I []) = OK at *
                generalize posV (rows.getD I []) = PV at *
                generalize rows.getD I [] = x at *
                generalize selV ⟨R, R, l⟩ b vs rows I = S at *
                have hr5' : Rd wr A5 x := hr5
                cases PV
                · have HNX := Lib.hid (K1.out rfl)
                  clear K1 K2 K3 K4 K5
                  go_wp2_with fail
                  refine (CP.out _ (by exact (Rd.grows hr5' (by exact bel0)))).mono ?_; rintro e w5 ⟨rfl, rfl⟩
                  go_wp2_with fail
                  go_round
                  case rel => exact ⟨I + 1, by go_num, by omega, by rw [HNX.out]; exact ho, hg⟩
                  case measure => simp [intOf]; omega
                · cases OK
                  · have HNX := Lib.hid (K2.out rfl)
                    clear K1 K2 K3 K4 K5
                    go_wp2_with fail
                    refine (CP.out _ (by exact (Rd.grows hr5' (by exact bel0)))).mono ?_; rintro e w5 ⟨rfl, rfl⟩
                    go_wp2_with fail
                    refine (CW.out _ (by exact (Rd.grows haw (by exact bel0))) (by exact (Rd.grows hr5' (by exact bel0)))).mono ?_; rintro e w6 ⟨rfl, g6⟩
                    go_wp2_with fail
                    go_round
                    case rel => exact ⟨I + 1, by go_num, by omega, by rw [HNX.out]; exact ho.grows g6, by exact bel2 g6 hg⟩
                    case measure => simp [intOf]; omega
                  · have hV := K5.out rfl rfl
                    by_cases hVb : V ≤ b
                    · have HNX := Lib.hid (K4.out rfl rfl hVb)
                      clear K1 K2 K3 K4 K5
                      go_wp2_with fail
                      refine (CP.out _ (by exact (Rd.grows hr5' (by exact bel0)))).mono ?_; rintro e w5 ⟨rfl, rfl⟩
                      go_wp2_with fail
                      refine (CW.out _ (by exact (Rd.grows haw (by exact bel0))) (by exact (Rd.grows hr5' (by exact bel0)))).mono ?_; rintro e w6 ⟨rfl, g6⟩
                      have ho6 := ho.grows g6
                      have hs6' := Below.size g6
                      obtain ⟨A9, c9, rfl⟩ := ho6.val
                      have hSL : S.length + 1 ≤ 1099511627776 := by omega
                      go_wp2_with (at_builtin; refine wpList_appS1 rfl (.tmp 81) (.tmp 85) rfl _ _ V rfl w10.heap.size _ S (by rfl) ho6 (by first | rfl | (simp [go_sem]; done) | (simp; rfl)) hSL (by omega) ?_; intro v7 w7 ho7 hg7 hv7)
                      obtain ⟨A10, c10, rfl⟩ := ho7.val
                      have g7 : Below w10.heap.size w6 w7 := (Below.refl _ _).grown hg7 (by omega) fun k hk => (World.ownsRow.lt ho6 k hk).1
                      clear hg7 hv7
                      go_wp2_with fail
                      go_round
                      case rel => exact ⟨I + 1, by go_num, by omega, by rw [HNX.out]; exact ho7, Below.trans (show Grows w10 w6 by exact bel2 g6 hg) g7⟩
                      case measure => simp [intOf]; omega
                    · have HNX := Lib.hid (K3.out hVb)
                      clear K1 K2 K3 K4 K5
                      go_wp2_with fail
                      refine (CP.out _ (by exact (Rd.grows hr5' (by exact bel0)))).mono ?_; rintro e w5 ⟨rfl, rfl⟩
                      go_wp2_with fail
                      refine (CW.out _ (by exact (Rd.grows haw (by exact bel0))) (by exact (Rd.grows hr5' (by exact bel0)))).mono ?_; rintro e w6 ⟨rfl, g6⟩
                      go_wp2_with fail
                      go_round
                      case rel => exact ⟨I + 1, by go_num, by omega, by rw [HNX.out]; exact ho.grows g6, by exact bel2 g6 hg⟩
                      case measure => simp [intOf]; omega
              · obtain rfl : I = rows.length := by omega
                have hok := o10.grows hg
                have hSR := selV_rows (g := ⟨R, R, l⟩) (b := b) (i := rows.length) hok (Nat.le_refl _)
                have hSK := keys_of (selV_snd (g := ⟨R, R, l⟩) (b := b) (vs := vs) (rows := rows) (i := rows.length) (Nat.le_refl _))
                rw [shL_all] at hSR hSK
                have hSB := selV_len (g := ⟨R, R, l⟩) (b := b) (vs := vs) (rows := rows) (i := rows.length)
                have hSO := Lib.hid fun q hq gg hgg => selV_own (g := ⟨R, R, l⟩) (b := b) (i := rows.length) o10 (Nat.le_refl _) (q := q) hq (gg := gg) hgg
                have hSN : ∀ q ∈ selV ⟨R, R, l⟩ b vs rows rows.length, -1000000 ≤ q.2 ∧ q.2 ≤ 1000000 := fun q hq => by
                  obtain ⟨j, _, _, k, hk, e⟩ := selV_mem hq
                  obtain ⟨rfl, h2, h3, h4⟩ := shK_some hk
                  have := val_pos HDEF.out h2 (posV_some h4)
                  rw [e]
                  simp only at *
                  omega
                have hSX : ∀ x ∈ rowsK (shL ⟨R, R, l⟩ b rows), x.length ≤ 1024 := fun x hx => by
                  obtain ⟨k, hk, rfl⟩ := List.mem_map.1 hx
                  rw [HFL.out _ (shL_mem hk).1]
                  omega
                have CI := Lib.hid (ivo_c _ _ _ w9.heap.size wr (ho.less (by omega)) hSR (fun i hi bb hbb e => by
                  have h1 := hSO.out _ (by rw [nthS_get _ _ hi]; exact List.getElem_mem _) bb hbb
                  have h2 := (World.ownsRow.lt ho bb e).1
                  omega) (fun i hi => hSN _ (by rw [nthS_get _ _ hi]; exact List.getElem_mem _)) hSX (by omega) (by omega))
                rw [hSK] at CI
                clear hSR hSK hSO hSN hSX
                obtain ⟨A9, c9, rfl⟩ := ho.val
                go_wp2_with fail
                refine CI.out.mono ?_; rintro e w9 ⟨v9, vs9, rfl, o9, g9⟩
                go_wp2_with fail
                go_ret2
                exact ⟨_, _, rfl, o9.less (by omega), Below.trans HG10 (Below.trans (show Below w.heap.size w10 wr from Below.mono hg (by omega)) (Below.mono g9 (by omega)))⟩
end
end Go.Proofs.YtbfkpfdkndnhkaaGreat

/- Plain: the search cell by cell finds all short vectors, each once. -/
namespace Go.Proofs.YtbfkpfdkndnhkaaGreat
set_option linter.unusedSimpArgs false
set_option linter.unusedVariables false
open Go.RowKit

section
variable {T : Int → Q2 → Option VS → Prop} {rest : Int → Q2} {st n : Int} {out r : VS} {o : Option VS}
theorem Swp.sub (h : Swp T rest st n out o) (ho : o = some r) : ∀ v ∈ out, v ∈ r := by
  induction h with
  | bad => cases ho
  | stop => cases ho; exact fun v hv => hv
  | fail => cases ho
  | next _ _ _ _ _ ih => exact fun v hv => ih ho v (List.mem_append_left _ hv)
theorem Swp.start (h : Swp T rest st n out o) (ho : o = some r) : okQ (rest n) = true := by
  cases h with
  | bad => cases ho
  | stop h1 => exact h1
  | fail => cases ho
  | next h1 => exact h1
/-- a sweep comes to its k-th value if nothing ahead of it is below 0 -/
theorem Swp.reach (h : Swp T rest st n out o) (ho : o = some r) {k : Nat} (hr : ∀ j : Nat, j ≤ k → okQ (rest (n + j * st)) = true → 0 ≤ (rest (n + j * st)).1) : ∃ more, okQ (rest (n + k * st)) = true ∧ T (n + k * st) (rest (n + k * st)) (some more) ∧ ∀ v ∈ more, v ∈ r := by
  induction h generalizing k with
  | bad => cases ho
  | @stop n out h1 h2 h3 =>
    have := hr 0 (by omega)
    have e : n + ((0 : Nat) : Int) * st = n := by simp
    rw [e] at this
    have := this h1
    omega
  | fail => cases ho
  | @next n out more r' h1 h2 h3 h4 h5 ih =>
    cases k with
    | zero =>
      have e : n + ((0 : Nat) : Int) * st = n := by simp
      rw [e]
      exact ⟨more, h1, h4, fun v hv => h5.sub ho v (List.mem_append_right _ hv)⟩
    | succ k =>
      have e : ∀ j : Nat, n + st + (j : Int) * st = n + ((j + 1 : Nat) : Int) * st := fun j => by
        rw [Int.natCast_add, Int.add_mul]
        simp only [Int.natCast_one, Int.one_mul]
        omega
      have := ih ho (k := k) fun j hj hok => by
        rw [e j] at hok ⊢
        exact hr (j + 1) (by omega) hok
      rw [e k] at this
      exact this
/-- no vector is found twice -/
theorem Swp.nodup {f : List Int → Int} (hT : ∀ m q more, T m q (some more) → more.Nodup ∧ ∀ v ∈ more, f v = m) (hst : st = 1 ∨ st = -1) (h : Swp T rest st n out o) (ho : o = some r) (h1 : out.Nodup) (h2 : ∀ v ∈ out, ∀ j : Nat, f v ≠ n + j * st) : r.Nodup ∧ ∀ v ∈ r, v ∈ out ∨ ∃ j : Nat, f v = n + j * st := by
  induction h with
  | bad => cases ho
  | stop => cases ho; exact ⟨h1, fun v hv => .inl hv⟩
  | fail => cases ho
  | @next n out more r' _ _ _ h4 _ ih =>
    obtain ⟨m1, m2⟩ := hT _ _ _ h4
    have e : ∀ j : Nat, n + st + (j : Int) * st = n + ((j + 1 : Nat) : Int) * st := fun j => by
      rw [Int.natCast_add, Int.add_mul]
      simp only [Int.natCast_one, Int.one_mul]
      omega
    have e0 : n + ((0 : Nat) : Int) * st = n := by simp
    have hd : (out ++ more).Nodup := by
      rw [List.nodup_append]
      refine ⟨h1, m1, fun a ha b hb e => ?_⟩
      have h5 := h2 a ha 0
      rw [e0] at h5
      exact h5 (by rw [e]; exact m2 b hb)
    obtain ⟨i1, i2⟩ := ih ho hd fun v hv j => by
      rw [e j]
      rcases List.mem_append.1 hv with h | h
      · exact h2 v h (j + 1)
      · rw [m2 v h]
        rcases hst with rfl | rfl <;> omega
    refine ⟨i1, fun v hv => ?_⟩
    rcases i2 v hv with h | ⟨j, hj⟩
    · rcases List.mem_append.1 h with h | h
      · exact .inl h
      · exact .inr ⟨0, by rw [e0]; exact m2 v h⟩
    · exact .inr ⟨j + 1, by rw [← e j]; exact hj⟩
end
theorem TreeR.nodup {mu : List (List Q2)} {sq : List Q2} : ∀ {k : Nat} {x : List Int} {left : Q2} {L : VS}, k ≤ x.length → TreeR mu sq k x left (some L) → L.Nodup
  | 0, x, left, L, _, h => by
    unfold TreeR at h
    cases h
    simp
  | i + 1, x, left, L, hk, h => by
    unfold TreeR at h
    obtain ⟨o1, h1, h2, h3⟩ := h
    have hT : ∀ (m : Int) (q : Q2) (more : VS), TreeR mu sq i (x.set i m) q (some more) → more.Nodup ∧ ∀ v ∈ more, nth v i = m := fun m q more h => ⟨TreeR.nodup (by rw [List.length_set]; omega) h, fun v hv => h.cell_at (by omega) hv⟩
    cases o1 with
    | none => cases h2 rfl
    | some out =>
      obtain ⟨a1, a2⟩ := Swp.nodup (f := fun v => nth v i) hT (.inr rfl) h1 rfl List.nodup_nil fun v hv => by cases hv
      obtain ⟨b1, _⟩ := Swp.nodup (f := fun v => nth v i) hT (.inl rfl) (h3 out rfl) rfl a1 fun v hv j => by
        rcases a2 v hv with h | ⟨j', hj'⟩
        · cases h
        · rw [hj']
          omega
      exact b1

/-! ### all are found -/
theorem half_num {q : Q2} (h : okQ q = true) : rv q + 1 / 2 = ((2 * q.1 + q.2 : Int) : Rat) / ((2 * q.2 : Int) : Rat) := by
  have d := okQ_den h
  unfold rv
  rw [Rat.intCast_add, Rat.intCast_mul, Rat.intCast_mul]
  have : ((2 : Int) : Rat) = 2 := rfl
  rw [this]
  grind
theorem round_val {q : Q2} (h : okQ q = true) : (roundQ q : Rat) ≤ rv q + 1 / 2 ∧ rv q + 1 / 2 < (roundQ q : Rat) + 1 := by
  have hb := okQ_bd h
  have e : roundQ q = (2 * q.1 + q.2) / (2 * q.2) := by unfold roundQ; rw [h, if_pos rfl]
  have d : (0 : Rat) < ((2 * q.2 : Int) : Rat) := cast_pos (by omega)
  rw [half_num h, e]
  generalize 2 * q.1 + q.2 = a
  generalize hc : 2 * q.2 = c at *
  have hc0 : 0 < c := by omega
  have h1 := Int.mul_ediv_self_le (x := a) (k := c) (by omega)
  have h2 := Int.lt_mul_ediv_self_add (x := a) (k := c) hc0
  have h3 : ((c * (a / c) : Int) : Rat) ≤ (a : Rat) := Rat.intCast_le_intCast.2 h1
  have h4 : (a : Rat) < ((c * (a / c) + c : Int) : Rat) := Rat.intCast_lt_intCast.2 h2
  rw [Rat.intCast_mul] at h3
  rw [Rat.intCast_add, Rat.intCast_mul] at h4
  have hi := Rat.inv_pos.2 d
  have hne : ((c : Int) : Rat) ≠ 0 := fun e0 => by rw [e0] at d; exact absurd d (by decide)
  generalize ((a / c : Int) : Rat) = z at *
  generalize ((a : Int) : Rat) = y at *
  generalize ((c : Int) : Rat) = x at *
  have e1 : x * z * x⁻¹ = z := by rw [Rat.mul_comm x z, Rat.mul_assoc, Rat.mul_inv_cancel x hne, Rat.mul_one]
  have e2 : (x * z + x) * x⁻¹ = z + 1 := by rw [Rat.add_mul, e1, Rat.mul_inv_cancel x hne]
  rw [Rat.div_def]
  constructor
  · have := Rat.mul_le_mul_of_nonneg_right h3 (Rat.le_of_lt hi)
    rwa [e1] at this
  · have := Rat.mul_lt_mul_of_pos_right h4 hi
    rwa [e2] at this
theorem sq_le {a b : Rat} (h1 : -a ≤ b) (h2 : b ≤ a) : b * b ≤ a * a := by
  have := Rat.mul_nonneg (show 0 ≤ a - b by grind) (show 0 ≤ a + b by grind)
  grind
/-- what is left is not less nearer to the center -/
theorem rest_near {left c s : Q2} {m m' : Int} (hs : 0 ≤ rv s) (hl : rv s * (((m : Rat) + rv c) * ((m : Rat) + rv c)) ≤ rv left) (hn : ((m' : Rat) + rv c) * ((m' : Rat) + rv c) ≤ ((m : Rat) + rv c) * ((m : Rat) + rv c)) (ho : okQ (restQ left c s m') = true) : 0 ≤ (restQ left c s m').1 := by
  obtain ⟨_, _, _, _, _, hr⟩ := restQ_parts ho
  have h1 := Rat.mul_le_mul_of_nonneg_left hn hs
  exact ((rv_sign ho).1).1 (by rw [hr]; grind)
theorem tree_all {R : Nat} {l : List Int} {s : List (List Q2) × List Q2} (V : AccV R l R s) : ∀ {k : Nat} {x : List Int} {left : Q2} {L : VS}, k ≤ R → x.length = R → TreeR s.1 s.2 k x left (some L) → ∀ {v : List Int}, v.length = R → (∀ j, k ≤ j → nth v j = nth x j) → (sumR k fun j => sqV s j * (ordV R s (nth v) j * ordV R s (nth v) j)) ≤ rv left → v ∈ L
  | 0, x, left, L, _, hx, h, v, hv, hc, _ => by
    unfold TreeR at h
    cases h
    rw [List.mem_singleton]
    exact nth_ext (by omega) fun i _ => hc i (by omega)
  | i + 1, x, left, L, hk, hx, h, v, hv, hc, hq => by
    unfold TreeR at h
    obtain ⟨o1, h1, h2, h3⟩ := h
    cases o1 with
    | none => cases h2 rfl
    | some out =>
      have hok := h1.start rfl
      obtain ⟨_, okc, oks, _, _, _⟩ := restQ_parts hok
      have h3' := h3 out rfl
      obtain ⟨c, hcc⟩ : ∃ c, c = cenQ s.1 x i (x.length - (i + 1)) := ⟨_, rfl⟩
      rw [← hcc] at h1 h3' okc hok
      have okn : okQ (negQ c) = true := negQ_ok okc
      obtain ⟨r1, r2⟩ := round_val okn
      rw [(negQ_val okn).2] at r1 r2
      obtain ⟨st0, hst0⟩ : ∃ z, z = roundQ (negQ c) := ⟨_, rfl⟩
      rw [← hst0] at h1 h3' r1 r2
      have hsi := V.sq i (by omega)
      have hs0 : 0 ≤ rv (nthQ s.2 i) := by have := rv_pos hsi.1 hsi.2; grind
      have e1 : ordV R s (nth v) i = (nth v i : Rat) + rv c := by
        rw [ordV_cell (by omega), hcc, cenQ_val (by rw [← hcc]; exact okc), hx]
        congr 1
        refine sumR_congr fun t ht => ?_
        rw [hc _ (by omega)]
      rw [sumR, e1] at hq
      have hlow : 0 ≤ sumR i fun j => sqV s j * (ordV R s (nth v) j * ordV R s (nth v) j) := sumR_nonneg fun j hj => by
        have hsj := V.sq j (by omega)
        have := rv_pos hsj.1 hsj.2
        exact Rat.mul_nonneg (by unfold sqV; grind) (sq_nonneg _)
      have e2 : sqV s i = rv (nthQ s.2 i) := rfl
      rw [e2] at hq
      obtain ⟨m, hm⟩ : ∃ m, m = nth v i := ⟨_, rfl⟩
      rw [← hm] at hq e1
      have hl : rv (nthQ s.2 i) * (((m : Rat) + rv c) * ((m : Rat) + rv c)) ≤ rv left := by grind
      have fin : ∀ more, okQ (restQ left c (nthQ s.2 i) m) = true → TreeR s.1 s.2 i (x.set i m) (restQ left c (nthQ s.2 i) m) (some more) → v ∈ more := fun more ho ht => by
        obtain ⟨_, _, _, _, _, hr⟩ := restQ_parts ho
        refine tree_all V (by omega) (by rw [List.length_set]; exact hx) ht hv (fun j hj => ?_) (by rw [hr]; grind)
        rw [nth_set _ _ _ _ (by omega)]
        by_cases e : j = i
        · rw [if_pos e, e, hm]
        · rw [if_neg e]; exact hc j (by omega)
      by_cases hms : m ≤ st0
      · obtain ⟨k, hk2⟩ : ∃ k : Nat, m = st0 + k * (-1) := ⟨(st0 - m).toNat, by omega⟩
        obtain ⟨more, a1, a2, a3⟩ := h1.reach rfl (k := k) fun j hj ho => by
          refine rest_near hs0 hl ?_ ho
          by_cases e : j = k
          · rw [e, ← hk2]; exact Rat.le_refl
          · have h5 : m + 1 ≤ st0 + (j : Int) * (-1) := by omega
            have h6 : st0 + (j : Int) * (-1) ≤ st0 := by omega
            have h7 : (m : Rat) + 1 ≤ ((st0 + (j : Int) * (-1) : Int) : Rat) := by
              have := Rat.intCast_le_intCast.2 h5
              rwa [Rat.intCast_add] at this
            have h8 : ((st0 + (j : Int) * (-1) : Int) : Rat) ≤ (st0 : Rat) := Rat.intCast_le_intCast.2 h6
            generalize ((st0 + (j : Int) * (-1) : Int) : Rat) = z at *
            have := sq_le (a := -((m : Rat) + rv c)) (b := z + rv c) (by grind) (by grind)
            grind
        rw [← hk2] at a1 a2
        exact h3'.sub rfl v (a3 v (fin more a1 a2))
      · obtain ⟨k, hk2⟩ : ∃ k : Nat, m = st0 + 1 + k * 1 := ⟨(m - st0 - 1).toNat, by omega⟩
        obtain ⟨more, a1, a2, a3⟩ := h3'.reach rfl (k := k) fun j hj ho => by
          refine rest_near hs0 hl ?_ ho
          have h5 : st0 + 1 + (j : Int) * 1 ≤ m := by omega
          have h6 : st0 + 1 ≤ st0 + 1 + (j : Int) * 1 := by omega
          have h7 : ((st0 + 1 + (j : Int) * 1 : Int) : Rat) ≤ (m : Rat) := Rat.intCast_le_intCast.2 h5
          have h8 : (st0 : Rat) + 1 ≤ ((st0 + 1 + (j : Int) * 1 : Int) : Rat) := by
            have := Rat.intCast_le_intCast.2 h6
            rwa [Rat.intCast_add] at this
          generalize ((st0 + 1 + (j : Int) * 1 : Int) : Rat) = z at *
          exact sq_le (a := (m : Rat) + rv c) (b := z + rv c) (by grind) (by grind)
        rw [← hk2] at a1 a2
        exact a3 v (fin more a1 a2)
theorem shK_yes2 {R : Nat} {l : List Int} {b : Int} {v : List Int} (h1 : posV v = true) (h2 : vOk R R l v = true) (h3 : vVal R R l v ≤ b) : shK ⟨R, R, l⟩ b v = some (vVal R R l v, v) := by unfold shK; simp [h1, h2, h3]
/-- both ways find the same vectors, in the same order -/
theorem sbt_eq {g : MX} {b : Int} {s1 s2 : List KV} (h1 : shvO g b = some s1) (h2 : sbtO g b = some s2) : s1 = s2 := by
  unfold sbtO at h2
  split at h2
  rotate_left
  · cases h2
  rename_i hh
  simp only [Bool.and_eq_true] at hh
  obtain ⟨hd, hB⟩ := hh
  obtain ⟨hb0, hb1⟩ := (inB_iff _ _ _).1 hB
  obtain ⟨_, R, e1, e2, hR, _⟩ := isSq_nat (isDef_sq hd)
  obtain ⟨r, c, l⟩ := g
  simp only at e1 e2 hd h2
  subst e1 e2
  simp only [Int.toNat_natCast] at h2
  obtain ⟨a, ha, h3⟩ := Option.bind_eq_some_iff.1 h2
  obtain ⟨L, h4, rfl⟩ := Option.map_eq_some_iff.1 h3
  have ht : TreeR a.1 a.2 R (List.replicate R 0) (b, 1) (some L) := by
    unfold treeO at h4
    split at h4
    · rename_i hx
      have := hx.choose_spec
      rwa [h4] at this
    · cases h4
  have V := accF_val ha
  have hnd : (shL ⟨R, R, l⟩ b L).Nodup := by
    unfold shL
    rw [List.nodup_iff_pairwise_ne, List.pairwise_filterMap]
    refine (List.nodup_iff_pairwise_ne.1 (ht.nodup (by simp))).imp fun {v v'} hne k hk k' hk' e => hne ?_
    have a1 := (shK_some hk).1
    have a2 := (shK_some hk').1
    have : (vVal (R : Int) R l v, v) = (vVal (R : Int) R l v', v') := (a1.symm.trans e).trans a2
    exact congrArg Prod.snd this
  refine sorted_puts (shvO_sort h1) ((List.perm_ext_iff_of_nodup (shvO_nodup h1) hnd).2 fun k => ⟨fun hk => ?_, fun hk => ?_⟩)
  · obtain ⟨kl, kp, kok, kv, k1, kb⟩ := shvO_in h1 hk
    have hL : k.2 ∈ L := tree_all V (Nat.le_refl R) (by simp) ht kl (fun j hj => by rw [nth_out _ _ (by omega), nth_replicate]) (by
      rw [← V.squares (def_symQ hd) (nth k.2), rv_whole]
      exact Rat.intCast_le_intCast.2 (by rw [← kv]; exact kb))
    unfold shL
    refine List.mem_filterMap.2 ⟨k.2, hL, ?_⟩
    have e : vVal (R : Int) R l k.2 = k.1 := by rw [vVal_qf kok, kv]
    rw [shK_yes2 kp kok (by rw [e]; exact kb), e]
  · obtain ⟨hL, kv, kok, kb, kp⟩ := shL_mem hk
    have kl : k.2.length = R := by
      have := (ht.cells hL).1
      rwa [List.length_replicate] at this
    have kv' : k.1 = qf R (fnOf R l) (nth k.2) := by rw [kv]; exact vVal_qf kok
    have := (shvO_all h1 kl kp (by rw [← kv']; exact kb)).1
    rw [← kv'] at this
    exact this
end Go.Proofs.YtbfkpfdkndnhkaaGreat

/- Plain: of the vectors of the box -2 .. 2, twice as many are short as are listed. -/
namespace Go.Proofs.YtbfkpfdkndnhkaaGreat
set_option linter.unusedSimpArgs false
set_option linter.unusedVariables false
open Go.RowKit

def tal (f : Nat → Bool) : Nat → Nat
  | 0 => 0
  | n + 1 => tal f n + if f n then 1 else 0
theorem tal_le (f : Nat → Bool) (n : Nat) : tal f n ≤ n := by
  induction n with
  | zero => exact Nat.le_refl _
  | succ n ih => unfold tal; split <;> omega
theorem tal_count {α : Type} (v : Nat → α) (p : α → Bool) (n : Nat) : tal (fun j => p (v j)) n = ((List.range n).map v).countP p := by
  induction n with
  | zero => rfl
  | succ n ih =>
    rw [List.range_succ, List.map_append, List.countP_append, tal, ih]
    simp [List.countP_cons]
theorem tal_cut {f g : Nat → Bool} {n : Nat} (m : Nat) (h1 : ∀ j, j < n → f j = g j) (h2 : ∀ j, n ≤ j → j < n + m → f j = false) : tal f (n + m) = tal g n := by
  induction m with
  | zero =>
    rw [Nat.add_zero]
    clear h2
    induction n with
    | zero => rfl
    | succ n ih => rw [tal, tal, h1 n (by omega), ih fun j hj => h1 j (by omega)]
  | succ m ih => rw [← Nat.add_assoc, tal, ih fun j hj hj2 => h2 j hj (by omega), h2 _ (by omega) (by omega)]; simp
def fsV (R j : Nat) : List Int := ([((j % 5 : Nat) : Int) - 2, ((j / 5 % 5 : Nat) : Int) - 2, ((j / 25 : Nat) : Int) - 2] : List Int).take R
def fsG (R j : Nat) : Bool := (R == 3) || ((R == 2) && decide (j < 25)) || decide (j < 5)
def fsK (g : MX) (b : Int) (v : List Int) : Bool := vOk g.r g.c g.l v && decide (0 < vVal g.r g.c g.l v) && decide (vVal g.r g.c g.l v ≤ b)
/-- the count of the first loop -/
def fsF (g : MX) (b : Int) (R : Nat) (j : Nat) : Bool := fsG R j && fsK g b (fsV R j)
def insK (k : KV) : Bool := k.2.all fun x => decide (max x (-x) ≤ 2)
def fsC (s : List KV) (i : Nat) : Nat := (s.take i).countP insK
theorem fsC_succ {s : List KV} {i : Nat} (hi : i < s.length) : fsC s (i + 1) = fsC s i + if insK (s.getD i (0, [])) then 1 else 0 := by
  unfold fsC
  rw [List.take_add_one, List.countP_append, List.getElem?_eq_getElem hi, List.getD_eq_getElem?_getD, List.getElem?_eq_getElem hi]
  simp [List.countP_cons]
theorem fsV_length {R j : Nat} (h : R ≤ 3) : (fsV R j).length = R := by
  unfold fsV; rw [List.length_take]; simp; omega
theorem fsV_nth {R j i : Nat} (h : i < R) (hR : R ≤ 3) : nth (fsV R j) i = if i = 0 then ((j % 5 : Nat) : Int) - 2 else if i = 1 then ((j / 5 % 5 : Nat) : Int) - 2 else ((j / 25 : Nat) : Int) - 2 := by
  unfold fsV nth
  rw [List.getD_eq_getElem?_getD, List.getElem?_take, if_pos h]
  have : i = 0 ∨ i = 1 ∨ i = 2 := by omega
  rcases this with rfl | rfl | rfl <;> simp
theorem nth_neg (l : List Int) (i : Nat) : nth (negL l) i = - nth l i := by
  unfold nth negL
  rw [List.getD_eq_getElem?_getD, List.getD_eq_getElem?_getD, List.getElem?_map]
  cases l[i]? <;> rfl
def box5 (R : Nat) : List (List Int) := (List.range (5 ^ R)).map (fsV R)
theorem pow5 {R : Nat} (h1 : 1 ≤ R) (h3 : R ≤ 3) : (R = 1 ∧ 5 ^ R = 5) ∨ (R = 2 ∧ 5 ^ R = 25) ∨ (R = 3 ∧ 5 ^ R = 125) := by
  have : R = 1 ∨ R = 2 ∨ R = 3 := by omega
  rcases this with rfl | rfl | rfl <;> simp
theorem fsV_inj {R j k : Nat} (h1 : 1 ≤ R) (h3 : R ≤ 3) (hj : j < 5 ^ R) (hk : k < 5 ^ R) (e : fsV R j = fsV R k) : j = k := by
  have a0 : nth (fsV R j) 0 = nth (fsV R k) 0 := by rw [e]
  have a1 : nth (fsV R j) 1 = nth (fsV R k) 1 := by rw [e]
  have a2 : nth (fsV R j) 2 = nth (fsV R k) 2 := by rw [e]
  rcases pow5 h1 h3 with ⟨rfl, hp⟩ | ⟨rfl, hp⟩ | ⟨rfl, hp⟩
  · rw [fsV_nth (by omega) h3, fsV_nth (by omega) h3] at a0
    simp at a0
    omega
  · rw [fsV_nth (by omega) h3, fsV_nth (by omega) h3] at a0 a1
    simp at a0 a1
    omega
  · rw [fsV_nth (by omega) h3, fsV_nth (by omega) h3] at a0 a1 a2
    simp at a0 a1 a2
    omega
theorem box5_nodup {R : Nat} (h1 : 1 ≤ R) (h3 : R ≤ 3) : (box5 R).Nodup := by
  unfold box5
  rw [List.nodup_iff_pairwise_ne, List.pairwise_map]
  refine (List.nodup_iff_pairwise_ne.1 List.nodup_range).imp_of_mem fun ha hb hne e => hne ?_
  exact fsV_inj h1 h3 (List.mem_range.1 ha) (List.mem_range.1 hb) e
theorem box5_mem {R : Nat} (h1 : 1 ≤ R) (h3 : R ≤ 3) {v : List Int} : v ∈ box5 R ↔ v.length = R ∧ ∀ i, i < R → -2 ≤ nth v i ∧ nth v i ≤ 2 := by
  unfold box5
  rw [List.mem_map]
  constructor
  · rintro ⟨j, hj, rfl⟩
    have hj := List.mem_range.1 hj
    refine ⟨fsV_length h3, fun i hi => ?_⟩
    rw [fsV_nth hi h3]
    rcases pow5 h1 h3 with ⟨rfl, hp⟩ | ⟨rfl, hp⟩ | ⟨rfl, hp⟩ <;> rw [hp] at hj <;> split <;> (try split) <;> omega
  · rintro ⟨hl, hb⟩
    rcases pow5 h1 h3 with ⟨rfl, hp⟩ | ⟨rfl, hp⟩ | ⟨rfl, hp⟩
    · have b0 := hb 0 (by omega)
      refine ⟨(nth v 0 + 2).toNat, List.mem_range.2 (by rw [hp]; omega), nth_ext (by rw [fsV_length h3, hl]) fun i hi => ?_⟩
      rw [fsV_length h3] at hi
      obtain rfl : i = 0 := by omega
      rw [fsV_nth (by omega) h3]
      simp
      omega
    · have b0 := hb 0 (by omega)
      have b1 := hb 1 (by omega)
      refine ⟨(nth v 0 + 2).toNat + 5 * (nth v 1 + 2).toNat, List.mem_range.2 (by rw [hp]; omega), nth_ext (by rw [fsV_length h3, hl]) fun i hi => ?_⟩
      rw [fsV_length h3] at hi
      rw [fsV_nth (by omega) h3]
      have : i = 0 ∨ i = 1 := by omega
      rcases this with rfl | rfl <;> simp <;> omega
    · have b0 := hb 0 (by omega)
      have b1 := hb 1 (by omega)
      have b2 := hb 2 (by omega)
      refine ⟨(nth v 0 + 2).toNat + 5 * (nth v 1 + 2).toNat + 25 * (nth v 2 + 2).toNat, List.mem_range.2 (by rw [hp]; omega), nth_ext (by rw [fsV_length h3, hl]) fun i hi => ?_⟩
      rw [fsV_length h3] at hi
      rw [fsV_nth (by omega) h3]
      have : i = 0 ∨ i = 1 ∨ i = 2 := by omega
      rcases this with rfl | rfl | rfl <;> simp <;> omega
theorem fsV_rev {R j : Nat} (h1 : 1 ≤ R) (h3 : R ≤ 3) (hj : j < 5 ^ R) : fsV R (5 ^ R - 1 - j) = negL (fsV R j) := by
  refine nth_ext (by unfold negL; rw [List.length_map, fsV_length h3, fsV_length h3]) fun i hi => ?_
  rw [fsV_length h3] at hi
  rw [nth_neg, fsV_nth hi h3, fsV_nth hi h3]
  rcases pow5 h1 h3 with ⟨rfl, hp⟩ | ⟨rfl, hp⟩ | ⟨rfl, hp⟩ <;> rw [hp] at hj ⊢
  · obtain rfl : i = 0 := by omega
    simp
    omega
  · have : i = 0 ∨ i = 1 := by omega
    rcases this with rfl | rfl <;> simp <;> omega
  · have : i = 0 ∨ i = 1 ∨ i = 2 := by omega
    rcases this with rfl | rfl | rfl <;> simp <;> omega
theorem box5_rev {R : Nat} (h1 : 1 ≤ R) (h3 : R ≤ 3) : (box5 R).reverse = (box5 R).map negL := by
  unfold box5
  rw [← List.map_reverse, List.map_map]
  refine List.ext_getElem (by simp) fun i hi1 hi2 => ?_
  have hi : i < 5 ^ R := by simpa using hi2
  simp only [List.getElem_map, List.getElem_reverse, List.getElem_range, List.length_range, Function.comp_apply]
  exact fsV_rev h1 h3 hi

/-! ### of a vector and its negation the same is true -/
theorem num_neg (x : Int) : isNum (-x) = isNum x := by
  rw [Bool.eq_iff_iff, isNum_iff, isNum_iff]; omega
theorem dotTo_negR (g x : List Int) (K C i j : Nat) (n : Nat) : dotTo (negL x) g K C i j n = - dotTo x g K C i j n := by
  induction n with
  | zero => rfl
  | succ n ih => rw [dotTo, dotTo, ih, nth_neg, Int.neg_mul, Int.neg_add]
theorem dotTo_negL (g x : List Int) (K C i j : Nat) (n : Nat) : dotTo g (negL x) K C i j n = - dotTo g x K C i j n := by
  induction n with
  | zero => rfl
  | succ n ih => rw [dotTo, dotTo, ih, nth_neg, Int.mul_neg, Int.neg_add]
theorem negL_len (l : List Int) : (negL l).length = l.length := by unfold negL; rw [List.length_map]
theorem allNum_neg (l : List Int) : allNum (negL l) = allNum l := by
  rw [Bool.eq_iff_iff, allNum_iff, allNum_iff, negL_len]
  constructor
  · intro h i hi
    have := h i hi
    rwa [nth_neg, num_neg] at this
  · intro h i hi
    rw [nth_neg, num_neg]; exact h i hi
theorem isMat_neg (r c : Int) (l : List Int) : isMat r c (negL l) = isMat r c l := by
  unfold isMat
  rw [negL_len, allNum_neg]
theorem mulL_negL (R K C : Nat) (x g : List Int) : mulL R K C (negL x) g = negL (mulL R K C x g) := by
  symm
  refine tab_ext (by rw [negL_len, mulL_length]) fun i j hi hj => ?_
  rw [nth_neg, dotTo_negR]
  unfold mulL
  rw [tab_nth _ hi hj]
theorem mulL_negR (R K C : Nat) (g x : List Int) : mulL R K C g (negL x) = negL (mulL R K C g x) := by
  symm
  refine tab_ext (by rw [negL_len, mulL_length]) fun i j hi hj => ?_
  rw [nth_neg, dotTo_negL]
  unfold mulL
  rw [tab_nth _ hi hj]
theorem mulOk_negL (r c : Int) (x : List Int) (r' c' : Int) (g : List Int) : mulOk r c (negL x) r' c' g = mulOk r c x r' c' g := by
  unfold mulOk
  rw [isMat_neg, mulL_negL, allNum_neg]
theorem mulOk_negR (r c : Int) (x : List Int) (r' c' : Int) (g : List Int) : mulOk r c x r' c' (negL g) = mulOk r c x r' c' g := by
  unfold mulOk
  rw [isMat_neg, mulL_negR, allNum_neg]
theorem vOk_neg (r c : Int) (g x : List Int) : vOk r c g (negL x) = vOk r c g x := by
  have e1 : vR r c g (negL x) = vR r c g x := by unfold vR mulR; rw [negL_len, mulOk_negL]
  have e2 : vC r c g (negL x) = vC r c g x := by unfold vC mulC; rw [negL_len, mulOk_negL]
  have e3 : vP r c g (negL x) = negL (vP r c g x) := by
    unfold vP mulV
    rw [negL_len, mulOk_negL]
    split
    · rw [mulL_negL]
    · rfl
  unfold vOk
  rw [e1, e2, e3, negL_len, mulOk_negL, mulOk_negL, mulOk_negR]
theorem qf_negL (R : Nat) (f : Nat → Nat → Int) (x : List Int) : qf R f (nth (negL x)) = qf R f (nth x) := by
  unfold qf
  exact sumN_congr fun i _ => sumN_congr fun j _ => by rw [nth_neg, nth_neg, Int.neg_mul, Int.neg_mul_neg]
theorem fsK_iff {R : Nat} {l : List Int} {b : Int} {v : List Int} : fsK ⟨R, R, l⟩ b v = true ↔ vOk R R l v = true ∧ 0 < qf R (fnOf R l) (nth v) ∧ qf R (fnOf R l) (nth v) ≤ b := by
  unfold fsK
  simp only [Bool.and_eq_true, decide_eq_true_eq]
  constructor
  · rintro ⟨⟨h1, h2⟩, h3⟩
    rw [vVal_qf h1] at h2 h3
    exact ⟨h1, h2, h3⟩
  · rintro ⟨h1, h2, h3⟩
    rw [vVal_qf h1]
    exact ⟨⟨h1, h2⟩, h3⟩
theorem fsK_neg (R : Nat) (l : List Int) (b : Int) (v : List Int) : fsK ⟨R, R, l⟩ b (negL v) = fsK ⟨R, R, l⟩ b v := by
  rw [Bool.eq_iff_iff, fsK_iff, fsK_iff, vOk_neg, qf_negL]
theorem qf_zeroV {R : Nat} {f : Nat → Nat → Int} {v : Nat → Int} (h : ∀ i, i < R → v i = 0) : qf R f v = 0 := by
  unfold qf
  exact sumN_zero fun i hi => sumN_zero fun j hj => by rw [h i hi]; simp
theorem posV_neg {v : List Int} (h : ∃ i, i < v.length ∧ nth v i ≠ 0) : posV (negL v) = !posV v := by
  have hlt : fnz v < v.length := by
    refine Classical.byContradiction fun hn => ?_
    obtain ⟨i, hi, hne⟩ := h
    exact hne (fnz_zero (l := v) (i := i) (by omega))
  have hz : ∀ t, t < fnz v → nth v t = 0 := fun t ht => fnz_zero ht
  have hne : nth v (fnz v) ≠ 0 := fnz_ne (l := v) hlt
  generalize fnz v = i at *
  rw [posV_at (v := negL v) (i := i) (fun t ht => by rw [nth_neg, hz t ht]; rfl) (by rw [negL_len]; exact hlt) (by rw [nth_neg]; omega), posV_at hz hlt hne, nth_neg]
  by_cases e : 0 < nth v i
  · rw [decide_eq_true e, decide_eq_false (by omega)]; rfl
  · rw [decide_eq_false e, decide_eq_true (by omega)]; rfl
theorem fsK_pos {R : Nat} {l : List Int} {b : Int} {v : List Int} (h : fsK ⟨R, R, l⟩ b v = true) : posV (negL v) = !posV v := by
  obtain ⟨h1, h2, _⟩ := fsK_iff.1 h
  obtain ⟨_, hv, _, _⟩ := vOk_parts h1
  refine posV_neg (Classical.byContradiction fun hn => ?_)
  have := qf_zeroV (R := R) (f := fnOf R l) (v := nth v) fun i hi => Classical.byContradiction fun he => hn ⟨i, by omega, he⟩
  omega
/-- twice as many -/
theorem count_twice {R : Nat} {l : List Int} {b : Int} (h1 : 1 ≤ R) (h3 : R ≤ 3) : (box5 R).countP (fsK ⟨R, R, l⟩ b) = 2 * (box5 R).countP fun v => fsK ⟨R, R, l⟩ b v && posV v := by
  have e1 := List.countP_eq_countP_filter_add (box5 R) (fsK ⟨R, R, l⟩ b) posV
  rw [List.countP_filter, List.countP_filter] at e1
  have e2 : (box5 R).countP (fun v => fsK ⟨R, R, l⟩ b v && !posV v) = (box5 R).countP fun v => fsK ⟨R, R, l⟩ b v && posV v := by
    rw [← List.countP_reverse (l := box5 R) (p := fun v => fsK ⟨R, R, l⟩ b v && posV v), box5_rev h1 h3, List.countP_map]
    refine List.countP_congr fun v _ => ?_
    simp only [Function.comp_apply]
    rw [fsK_neg]
    cases hk : fsK ⟨R, R, l⟩ b v
    · simp
    · rw [fsK_pos hk]
  omega
theorem insK_iff {k : KV} {R : Nat} (h : k.2.length = R) : insK k = true ↔ ∀ i, i < R → -2 ≤ nth k.2 i ∧ nth k.2 i ≤ 2 := by
  unfold insK
  rw [List.all_eq_true]
  constructor
  · intro h2 i hi
    have := of_decide_eq_true (h2 (nth k.2 i) (by rw [nth_get _ _ (by omega)]; exact List.getElem_mem _))
    omega
  · intro h2 x hx
    obtain ⟨i, hi, rfl⟩ := List.getElem_of_mem hx
    have := h2 i (by omega)
    rw [nth_get _ _ hi] at this
    exact decide_eq_true (by omega)
/-- the law's count -/
theorem fs_count {R : Nat} {l : List Int} {b : Int} {s : List KV} (h1 : 1 ≤ R) (h3 : R ≤ 3) (h : shvO ⟨R, R, l⟩ b = some s) : tal (fsF ⟨R, R, l⟩ b R) 125 = 2 * fsC s s.length := by
  have e1 : tal (fsF ⟨R, R, l⟩ b R) 125 = (box5 R).countP (fsK ⟨R, R, l⟩ b) := by
    unfold box5
    rw [← tal_count (fsV R) (fsK ⟨R, R, l⟩ b)]
    obtain ⟨m, hm⟩ : ∃ m, 125 = 5 ^ R + m := ⟨125 - 5 ^ R, by rcases pow5 h1 h3 with ⟨rfl, hp⟩ | ⟨rfl, hp⟩ | ⟨rfl, hp⟩ <;> rw [hp]⟩
    rw [hm]
    refine tal_cut m (fun j hj => ?_) fun j hj hj2 => ?_
    · have : fsG R j = true := by
        unfold fsG
        rcases pow5 h1 h3 with ⟨rfl, hp⟩ | ⟨rfl, hp⟩ | ⟨rfl, hp⟩ <;> rw [hp] at hj <;> simp <;> omega
      unfold fsF
      rw [this, Bool.true_and]
    · have : fsG R j = false := by
        rw [← hm] at hj2
        unfold fsG
        rcases pow5 h1 h3 with ⟨rfl, hp⟩ | ⟨rfl, hp⟩ | ⟨rfl, hp⟩ <;> rw [hp] at hj <;> simp <;> omega
      unfold fsF
      rw [this, Bool.false_and]
  rw [e1, count_twice h1 h3]
  congr 1
  unfold fsC
  rw [List.take_length, List.countP_eq_length_filter, List.countP_eq_length_filter]
  have hp : (((box5 R).filter fun v => fsK ⟨R, R, l⟩ b v && posV v).map fun v => (qf R (fnOf R l) (nth v), v)).Perm (s.filter insK) := by
    refine (List.perm_ext_iff_of_nodup ?_ ((shvO_nodup h).sublist List.filter_sublist)).2 fun k => ?_
    · rw [List.nodup_iff_pairwise_ne, List.pairwise_map]
      exact (List.nodup_iff_pairwise_ne.1 ((box5_nodup h1 h3).sublist List.filter_sublist)).imp fun hne e => hne (congrArg Prod.snd e)
    · rw [List.mem_map, List.mem_filter]
      constructor
      · rintro ⟨v, hv, rfl⟩
        obtain ⟨hb, hk⟩ := List.mem_filter.1 hv
        rw [Bool.and_eq_true] at hk
        obtain ⟨hv1, hv2⟩ := (box5_mem h1 h3).1 hb
        exact ⟨(shvO_all h hv1 hk.2 (fsK_iff.1 hk.1).2.2).1, (insK_iff (k := (_, v)) hv1).2 hv2⟩
      · rintro ⟨hk, hi⟩
        obtain ⟨kl, kp, kok, kv, k1, kb⟩ := shvO_in h hk
        refine ⟨k.2, List.mem_filter.2 ⟨(box5_mem h1 h3).2 ⟨kl, (insK_iff kl).1 hi⟩, ?_⟩, by rw [← kv]⟩
        rw [fsK_iff.2 ⟨kok, by omega, by omega⟩, kp]; rfl
  rw [← hp.length_eq, List.length_map]
end Go.Proofs.YtbfkpfdkndnhkaaGreat

/- Contracts: the laws' row, absolute value, equal lists. -/
namespace Go.Proofs.YtbfkpfdkndnhkaaGreat
set_option linter.unusedSimpArgs false
set_option linter.unusedVariables false
open Go.RowKit

section
set_option maxHeartbeats 4000000
set_option maxRecDepth 10000
theorem abs_c (x : Int) (w : World) :
    Calls Tryz.prog 11 #[.int .i64 x] w fun e w' => ∃ y, e = .returned (.int .i64 y) ∧ Grows w w' := by
  by_cases h : x < wrap64 (-x)
  all_goals (
    go_enter Tryz.func11, Tryz.ntmps11
    go_wp2_with fail
    go_ret
    first | exact ⟨⟨_, rfl⟩, by exact bel0⟩ | exact ⟨_, rfl, by exact bel0⟩ | exact bel0)
theorem sameInts_c (A B : Option Addr) (a b : List Int) (c d : Nat) (w : World) (ha : Rd w A a) (hb : Rd w B b) (hl : a.length ≤ 1099511627776) (hl2 : b.length ≤ 1099511627776) :
    Calls Tryz.prog 27 #[.slice A a.length c, .slice B b.length d] w fun e w' => e = .returned (.bool (eqL a b)) ∧ Grows w w' := by
  by_cases hnm : b.length = a.length
  · obtain ⟨n, hn⟩ : ∃ n, n = a.length := ⟨_, rfl⟩
    rw [hnm] at hl2 ⊢
    rw [← hn] at hl hl2 hnm ⊢
    have HN := Lib.hid hn
    have HM := Lib.hid hnm
    clear hn hnm
    go_enter Tryz.func27, Tryz.ntmps27
    go_wp2_with fail
    go_loopw [5] (fun k wr => ∃ (i : Nat), k = .int .i64 i ∧ i ≤ n ∧ (∀ t, t < i → nth a t = nth b t) ∧ Grows w wr) (fun k _ => n - (intOf k).toNat)
    case atStart => exact ⟨0, rfl, Nat.zero_le _, fun t h => by omega, Below.refl _ _⟩
    case round =>
      obtain ⟨i, rfl, hi, he, hgr⟩ := hrel
      have HE := Lib.hid he
      clear he
      by_cases hlt : i < n
      · obtain ⟨b1, o1, rfl, hbs1, hc1⟩ := (ha.grows hgr).at_ i (by rw [← HN.out]; exact hlt)
        obtain ⟨b2, o2, rfl, hbs2, hc2⟩ := (hb.grows hgr).at_ i (by rw [HM.out]; exact hlt)
        have i1 : (i : Int) < (n : Int) := by omega
        by_cases hx : nth a i = nth b i
        · have hx' : (nth a i != nth b i) = false := by simpa using hx
          have HX := Lib.hid hx
          clear hx
          go_wp2_with fail
          go_quiet (fail)
          go_wp2_with fail
          go_round
          case rel => exact ⟨i + 1, by go_num, by omega, fun t ht => by (by_cases e : t = i); (· subst e; exact HX.out); (· exact HE.out t (by omega)), below_drewN hgr _⟩
          case measure => simp [intOf]; omega
        · have hx' : (nth a i != nth b i) = true := by simpa using hx
          have HX := Lib.hid (eqL_at hx)
          clear hx
          go_wp2_with fail
          go_quiet (fail)
          go_wp2_with fail
          go_ret
          exact ⟨by rw [HX.out]; rfl, below_drewN hgr _⟩
      · obtain rfl : i = n := by omega
        have HX := Lib.hid (eqL_all (a := a) (b := b) (by rw [HM.out]; exact HN.out.symm) (fun t ht => HE.out t (by have := HN.out; omega)))
        go_wp2_with fail
        go_ret
        exact ⟨by rw [HX.out]; rfl, hgr⟩
  · have HX := Lib.hid (eqL_len (a := a) (b := b) (fun e => hnm e.symm))
    generalize a.length = n at *
    generalize b.length = m at *
    have hnm' : ((n : Int) != (m : Int)) = true := by simp; omega
    go_enter Tryz.func27, Tryz.ntmps27
    go_wp2_with fail
    go_ret
    exact ⟨by rw [HX.out]; rfl, Below.refl _ _⟩
end
end Go.Proofs.YtbfkpfdkndnhkaaGreat

/- Contracts: the laws' equal rows (of equal lists), absolute value with its value. -/
namespace Go.Proofs.YtbfkpfdkndnhkaaGreat
set_option linter.unusedSimpArgs false
set_option linter.unusedVariables false
open Go.RowKit

section
set_option maxHeartbeats 4000000
set_option maxRecDepth 10000
theorem absv_c (x : Int) (w : World) (h1 : -400000000 ≤ x) (h2 : x ≤ 400000000) :
    Calls Tryz.prog 11 #[.int .i64 x] w fun e w' => e = .returned (.int .i64 (max x (-x))) ∧ Grows w w' := by
  obtain ⟨y, hy⟩ : ∃ y, y = max x (-x) := ⟨_, rfl⟩
  rw [← hy]
  have k1 : IntKind.i64.wrap (-x) = -x := IntWalk.i64_in _ (by omega)
  by_cases h : x < -x
  · obtain rfl : y = -x := by omega
    clear hy
    go_enter Tryz.func11, Tryz.ntmps11
    go_wp2_with fail
    go_ret
    exact ⟨by first | rfl | (simp; done) | (simp; omega), by exact bel0⟩
  · obtain rfl : y = x := by omega
    clear hy
    go_enter Tryz.func11, Tryz.ntmps11
    go_wp2_with fail
    go_ret
    exact ⟨by first | rfl | (simp; done) | (simp; omega), by exact bel0⟩
theorem sameRows_c (A B : Option Addr) (L : List (List Int)) (n c d : Nat) (w : World) (hn : L.length = n) (ha : RdR RSI w A L) (hb : RdR RSI w B L) (hl : n ≤ 1048576) (hx : ∀ x ∈ L, x.length ≤ 1024) :
    Calls Tryz.prog 9 #[.slice A n c, .slice B n d] w fun e w' => e = .returned (.bool true) ∧ Grows w w' := by
  go_enter Tryz.func9, Tryz.ntmps9
  go_wp2_with fail
  go_loopw [5] (fun i wr => ∃ (j : Nat), i = .int .i64 j ∧ j ≤ n ∧ Grows w wr) (fun i _ => n - (intOf i).toNat)
  case atStart => exact ⟨0, rfl, Nat.zero_le _, Grows.refl _⟩
  case round =>
    obtain ⟨j, rfl, hj, hg⟩ := hrel
    by_cases hlt : j < n
    · obtain ⟨b, off, u, rfl, hbs, hc1, A1, c1, rfl, hr1, _⟩ := (ha.grows RSI.good hg).at_ j (by omega)
      obtain ⟨b', off', u', rfl, hbs', hc2, A2, c2, rfl, hr2, _⟩ := (hb.grows RSI.good hg).at_ j (by omega)
      have x1 := ext_is hc1; have x2 := ext_is hc2
      have i1 : (j : Int) < (n : Int) := by omega
      have hzl : (L[j]'(by omega)).length ≤ 1024 := hx _ (List.getElem_mem _)
      generalize (L[j]'(by omega)) = z at *
      have hzz : eqL z z = true := eqL_all rfl fun _ _ => rfl
      have CE := Lib.hid fun W h h' => by have := sameInts_c A1 A2 z z c1 c2 W h h' (by omega) (by omega); rw [hzz] at this; exact this
      clear hn ha hb hx hzz
      go_wp2_with fail
      ((refine wp_region_ext (by kernel_rfl) (by kernel_rfl) ?_); (repeat (go_big_quiet_step ((go_at_call 27; with_reducible exact extC (CE.out _ (Rd.ext hr1 _) (Rd.ext hr2 _)))))); refine wpQuiet_nil ?_; rintro w3 ⟨w30, hw30⟩; have g3 := grows_of_ext hw30; clear hw30 w30)
      go_wp2_with fail
      go_round
      case rel => exact ⟨j + 1, by go_num, by omega, by exact bel2 g3 hg⟩
      case measure => simp [intOf]; omega
    · obtain rfl : j = n := by omega
      go_wp2_with fail
      go_ret
      exact ⟨rfl, hg⟩
end
end Go.Proofs.YtbfkpfdkndnhkaaGreat

/- What FnShort needs, with names for all that it computes. -/
namespace Go.Proofs.YtbfkpfdkndnhkaaGreat
set_option linter.unusedSimpArgs false
set_option linter.unusedVariables false
open Go.RowKit

def insV (v : List Int) : Bool := v.all fun x => decide (max x (-x) ≤ 2)
theorem insV_take {v : List Int} {j : Nat} (hj : j < v.length) : insV (v.take (j + 1)) = (insV (v.take j) && decide (max (nth v j) (-(nth v j)) ≤ 2)) := by
  unfold insV
  rw [List.take_add_one, List.getElem?_eq_getElem hj, List.all_append, nth_get _ _ hj]
  simp
theorem srt_le {s : List KV} (h : SortK s) {i j : Nat} (hij : i < j) (hj : j < s.length) : (s[i]'(by omega)).1 ≤ s[j].1 := by
  have := List.pairwise_iff_getElem.1 h i j (by omega) hj hij
  unfold ltK at this
  simp only [Bool.or_eq_false_iff, decide_eq_false_iff_not] at this
  omega
theorem fsh_names {r c : Int} {V : Option Addr} {l : List Int} {cv : Nat} (hl : l.length ≤ 1099511627776) {x : Int} {s : List KV} (h : shvO ⟨r, c, l⟩ x = some s) :
    ∃ (R : Nat) (X : Nat → Int) (I : Nat → Nat) (K : Nat → Bool), r = R ∧ R ≤ 6 ∧ (rowsK s).length ≤ 4000 ∧ I 0 = 0 ∧
      (∀ i (hi : i < (rowsK s).length), I (i + 1) = I i + if insV (rowsK s)[i] then 1 else 0) ∧ (∀ i, I i ≤ i) ∧
      (∀ i, i < (rowsK s).length → 1 ≤ X i ∧ X i ≤ x ∧ X i ≤ 10000 ∧ (i + 1 < (rowsK s).length → X i ≤ X (i + 1))) ∧
      (∀ i (hi : i < (rowsK s).length), ((rowsK s)[i]).length = R ∧ (∀ t, t < R → -400000000 ≤ nth (rowsK s)[i] t ∧ nth (rowsK s)[i] t ≤ 400000000) ∧ ∀ W A cc, Rd W V l → Rd W A (rowsK s)[i] →
        Calls Tryz.prog 10 #[.agg #[.int .i64 r, .int .i64 c, .slice V l.length cv], .slice A ((rowsK s)[i]).length cc] W fun e w' => e = .returned (.tuple #[.int .i64 (X i), .bool true]) ∧ Grows W w') ∧
      (∀ j, R ≤ 3 → ∃ y ok, (ok && decide (0 < y) && decide (y ≤ x)) = K j ∧ ∀ W A cc, Rd W V l → Rd W A (fsV R j) →
        Calls Tryz.prog 10 #[.agg #[.int .i64 r, .int .i64 c, .slice V l.length cv], .slice A R cc] W fun e w' => e = .returned (.tuple #[.int .i64 y, .bool ok]) ∧ Grows W w') ∧
      (1 ≤ R → R ≤ 3 → tal (fun j => fsG R j && K j) 125 = 2 * I (rowsK s).length) := by
  obtain ⟨x', hbx, _, _⟩ := shvO_rows h
  have hd := boxO_def hbx
  obtain ⟨_, R, e1, e2, hR, _⟩ := isSq_nat (isDef_sq hd)
  have hbb := boxO_bound hbx
  simp only at e1 e2 hbb
  subst e1 e2
  have hlen : (rowsK s).length = s.length := by unfold rowsK; rw [List.length_map]
  have hat : ∀ i (hi : i < (rowsK s).length), (rowsK s)[i] = (s[i]'(by omega)).2 := fun i hi => List.getElem_map (fun k : KV => k.2)
  have hgd : ∀ i (hi : i < s.length), s.getD i (0, []) = s[i] := fun i hi => by rw [List.getD_eq_getElem?_getD, List.getElem?_eq_getElem hi]; rfl
  refine ⟨R, fun i => (s.getD i (0, [])).1, fsC s, fun j => fsK ⟨R, R, l⟩ x (fsV R j), rfl, hR, by rw [hlen]; exact shvO_len h, rfl, fun i hi => ?_, fun i => ?_, fun i hi => ?_, fun i hi => ?_, fun j hR3 => ?_, fun h1 h3 => ?_⟩
  · rw [fsC_succ (by omega), hgd i (by omega), hat i hi]
    rfl
  · unfold fsC
    refine Nat.le_trans List.countP_le_length ?_
    rw [List.length_take]; omega
  · rw [hlen] at hi
    simp only
    rw [hgd i hi]
    obtain ⟨_, _, _, _, k1, kb⟩ := shvO_in h (List.getElem_mem hi)
    refine ⟨k1, kb, by omega, fun h2 => ?_⟩
    rw [hlen] at h2
    rw [hgd _ h2]
    exact srt_le (shvO_sort h) (by omega) h2
  · rw [hat i hi]
    obtain ⟨kl, kp, kok, kv, k1, kb⟩ := shvO_in h (List.getElem_mem (l := s) (n := i) (by omega))
    have hm := (vOk_parts kok).2.2.1
    refine ⟨kl, fun t ht => ?_, fun W A cc hW hA => ?_⟩
    · unfold mulOk at hm
      simp only [Bool.and_eq_true] at hm
      have hm2 := (isMat_iff _ _ _).1 hm.1.1.1
      exact (isNum_iff _).1 ((allNum_iff _).1 hm2.2.2.2 t (by omega))
    · refine (iValueAt_c R R V A l _ l.length _ cv cc W rfl rfl hW hA hl (by omega)).mono fun e w' he => ?_
      rw [kok, vVal_qf kok, ← kv] at he
      simp only
      rw [hgd i (by omega)]
      exact he
  · refine ⟨vVal R R l (fsV R j), vOk R R l (fsV R j), rfl, fun W A cc hW hA => ?_⟩
    have := iValueAt_c R R V A l (fsV R j) l.length R cv cc W rfl (fsV_length hR3) hW hA hl (by omega)
    exact this
  · rw [hlen]
    exact fs_count h1 h3 h
theorem fsh_same {r c : Int} {l : List Int} {x : Int} {T : Option (List KV)} {s : List KV} (h : shvO ⟨r, c, l⟩ x = some s) (ht : T = sbtO ⟨r, c, l⟩ x) (h2 : T.isSome = true) : oRows T = rowsK s := by
  cases e : T with
  | none => rw [e] at h2; cases h2
  | some t =>
    rw [e] at ht
    rw [sbt_eq h ht.symm]
    rfl
end Go.Proofs.YtbfkpfdkndnhkaaGreat
