/- Contracts and lemmas, put together. -/
import Derived.Test.YtpfijhcjempfjaaQRedI
/- Contracts: whether a form is reduced (spec). -/
namespace Go.Proofs.Ytpfijhcjempfjaa
set_option linter.unusedSimpArgs false
set_option linter.unusedVariables false
open Go.RowKit

theorem rdcF_back {s : List (List Q2) × List Q2} {I R : Nat} (h : rdcF s I = none) (hR : R ≤ I) : rdcF s R = none := by
  cases e : rdcF s R with
  | none => rfl
  | some k => rw [rdcF_some e hR] at h; cases h

section
set_option maxHeartbeats 4000000
set_option maxRecDepth 100000
theorem sRed_c (r c : Int) (A : Option Addr) (l : List Int) (n cap : Nat) (w : World) (hn : l.length = n) (ha : Rd w A l) (hl : n ≤ 1099511627776) :
    Calls Try.prog 46 #[.agg #[.int .i64 r, .int .i64 c, .slice A n cap]] w fun e w' => e = .returned (.tuple #[.bool (rdcO ⟨r, c, l⟩).1, .bool (rdcO ⟨r, c, l⟩).2]) ∧ Grows w w' := by
  have HD := fun W h => sIsDef_c r c A l n cap W hn h hl
  obtain ⟨w1, hw1⟩ : ∃ w1, w1 = w.alloc (.cells #[.int .i64 r, .int .i64 c, .slice A n cap] 26) := ⟨_, rfl⟩
  have mg : MBox w1 w.heap.size r c (.slice A n cap) := by rw [hw1]; exact MBox.mk_ _ _ _ _ _
  have HG : Grows w w1 := by rw [hw1]; exact bel0
  have HW1 := Lib.hid hw1
  have ha1 := ha.grows HG
  obtain ⟨RES, hRES⟩ : ∃ x, x = rdcO ⟨r, c, l⟩ := ⟨_, rfl⟩
  rw [← hRES]
  cases hd : isDef r c l
  · rw [rdcO_no (g := ⟨r, c, l⟩) hd] at hRES
    rw [hd] at HD
    have HD' := Lib.hid HD
    subst hRES
    clear hw1 hn HD hd
    go_enter Try.func46, Try.ntmps46
    go_wp2_with fail
    rw [← HW1.out]
    have mg_0 := mg.c0; have mg_1 := mg.c1; have mg_2 := mg.c2; have mg_l := mg.lt; have mg_f := mg.fz
    refine (HD'.out _ (by exact Rd.grows ha1 (by exact bel0))).mono ?_; rintro e w2 ⟨rfl, g_w2⟩
    have s_w2 := Below.size g_w2; (try simp at s_w2)
    clear mg_0 mg_1 mg_2 mg_l mg_f
    replace mg := mg.grows (w' := w2) (by exact bel1 g_w2)
    have mg_0 := mg.c0; have mg_1 := mg.c1; have mg_2 := mg.c2; have mg_l := mg.lt; have mg_f := mg.fz
    replace ha1 := ha1.grows (w' := w2) (by exact bel1 g_w2)
    replace HG : Grows w w2 := by exact bel2 g_w2 HG
    have h_w2 := Below.size HG
    go_wp2_with fail
    go_ret2
    exact ⟨rfl, by exact bel1 HG⟩
  · rw [hd] at HD
    have HD' := Lib.hid HD
    obtain ⟨R, rfl, rfl, hR, hlen⟩ := isDef_nat hd
    rw [rdcO_yes hd] at hRES
    have CA := fun W h => (sAcc_c R A l n cap W hn hlen (by omega) h).mono fun _ _ h => muRet_out h
    have INV := Lib.hid fun s h => accF_inv (C := R) (l := l) (i := R) (s := s) h
    generalize accF R l R = AO at *
    have CA' := Lib.hid CA
    have HR := Lib.hid hRES
    clear hw1 hn HD hd CA hRES hlen
    go_enter Try.func46, Try.ntmps46
    go_wp2_with fail
    rw [← HW1.out]
    have mg_0 := mg.c0; have mg_1 := mg.c1; have mg_2 := mg.c2; have mg_l := mg.lt; have mg_f := mg.fz
    refine (HD'.out _ (by exact Rd.grows ha1 (by exact bel0))).mono ?_; rintro e w2 ⟨rfl, g_w2⟩
    have s_w2 := Below.size g_w2; (try simp at s_w2)
    clear mg_0 mg_1 mg_2 mg_l mg_f
    replace mg := mg.grows (w' := w2) (by exact bel1 g_w2)
    have mg_0 := mg.c0; have mg_1 := mg.c1; have mg_2 := mg.c2; have mg_l := mg.lt; have mg_f := mg.fz
    replace ha1 := ha1.grows (w' := w2) (by exact bel1 g_w2)
    replace HG : Grows w w2 := by exact bel2 g_w2 HG
    have h_w2 := Below.size HG
    go_wp2_with fail
    refine (CA'.out _ (by exact Rd.grows ha1 (by exact bel0))).mono ?_; rintro e w3 ⟨Am, cm, As, cs, mu, sq, rfl, hrm, hrs, hx, g_w3⟩
    have s_w3 := Below.size g_w3; (try simp at s_w3)
    clear mg_0 mg_1 mg_2 mg_l mg_f
    replace mg := mg.grows (w' := w3) (by exact bel1 g_w3)
    have mg_0 := mg.c0; have mg_1 := mg.c1; have mg_2 := mg.c2; have mg_l := mg.lt; have mg_f := mg.fz
    replace ha1 := ha1.grows (w' := w3) (by exact bel1 g_w3)
    replace HG : Grows w w3 := by exact bel2 g_w3 HG
    have h_w3 := Below.size HG
    cases AO with
    | none =>
      obtain rfl : RES = (false, false) := HR.out
      go_wp2_with fail
      go_ret2
      exact ⟨rfl, by exact bel1 HG⟩
    | some s =>
      obtain rfl := hx s rfl
      have inv := INV.out _ rfl
      have il1 : mu.length = R := inv.l1
      have il2 : sq.length = R := inv.l2
      rw [il1, il2]
      have HS := Lib.hid (show RES = match rdcF (mu, sq) R with | none => (true, true) | some k => (false, k) from HR.out)
      clear HR INV hx
      clear CA'
      go_wp2_with fail
      go_loopw [7] (fun i wr => ∃ (K : Nat), i = .int .i64 ((K : Int) + 1) ∧ (K + 1 ≤ R ∨ K = 0) ∧ rdcF (mu, sq) (K + 1) = none ∧ Grows w3 wr) (fun i _ => R + 1 - (intOf i).toNat)
      case atStart => exact ⟨0, rfl, .inr rfl, rdcF_zero, by exact bel0⟩
      case round =>
        obtain ⟨K, rfl, hI, hF, hg⟩ := hrel
        have HF := Lib.hid hF
        clear hF
        obtain ⟨wi, rfl⟩ : ∃ wi : World, wi = wr := ⟨_, rfl⟩
        have hrmi := hrm.grows RSQ.good hg
        have hrsi := hrs.grows hg
        have mgi := mg.grows hg
        obtain ⟨b0, b1, b2⟩ := mgi.cells
        by_cases hlt : K + 1 < R
        · have hlt' : (K : Int) + 1 < (R : Int) := by omega
          obtain ⟨bm, fm, Aj, cj, rfl, hbm, m0, hrj, hcj⟩ := hrmi.rowQ (K + 1) (by rw [il1]; exact hlt)
          have hjl := inv.row (K + 1) hlt
          have hjl : (mu.getD (K + 1) []).length = K + 1 := hjl
          rw [hjl] at m0 hcj
          obtain ⟨row, hrow⟩ : ∃ row, row = mu.getD (K + 1) [] := ⟨_, rfl⟩
          rw [← hrow] at hrj hjl
          have HROW := Lib.hid hrow
          have HJL := Lib.hid hjl
          have hkc : ((K + 1 : Nat) : Int) = (K : Int) + 1 := by omega
          have hk5 : ((K : Int) + 1).toNat = K + 1 := by omega
          clear hrow hjl
          go_wp2_with fail
          go_loopw [8] (fun j wx => ∃ (J : Nat), j = .int .i64 J ∧ J ≤ K + 1 ∧ halfR row J = none ∧ Grows wi wx) (fun j _ => K + 1 - (intOf j).toNat)
          case atStart => exact ⟨0, rfl, Nat.zero_le _, rfl, by exact bel0⟩
          case round =>
            clear b0 b1 b2
            obtain ⟨J, rfl, hJ, hH, hgj⟩ := hrel
            have HH := Lib.hid hH
            clear hH
            obtain ⟨wj, rfl⟩ : ∃ wj : World, wj = wr := ⟨_, rfl⟩
            have m0j := ((bcell hgj).1 bm (fm + (K + 1)) hbm).trans m0
            have hbmj : bm < wj.heap.size := by have := Below.size hgj; omega
            by_cases hltj : J < K + 1
            · have hltj' : (J : Int) < (K : Int) + 1 := by omega
              have hltj'' : (J : Int) < ((K + 1 : Nat) : Int) := by omega
              obtain ⟨bj, fj, rfl, hbj, j0, j1⟩ := (hrj.grows hgj).at_ J (by rw [HJL.out]; exact hltj)
              obtain ⟨q, hq⟩ : ∃ q, q = nthQ row J := ⟨_, rfl⟩
              rw [← hq] at j0 j1
              have HQ := Lib.hid hq
              clear hq m0
              have CI := fun W => sIsRatio_c q.1 q.2 W
              change ∀ W, Calls Try.prog 84 #[.agg #[.int .i64 q.1, .int .i64 q.2]] W (fun e w' => e = .returned (.bool (okQ q)) ∧ Grows W w') at CI
              cases hok : okQ q
              · have hn : RES = (false, false) := by rw [HS.out, rdc_half HF.out hlt hltj (HQ.out.trans (by rw [HROW.out])) (by show halfR (mu.getD (K + 1) []) J = none; rw [← HROW.out]; exact HH.out) (.inl ⟨hok, rfl⟩)]
                rw [hok] at CI
                have CI' := Lib.hid CI
                subst hn
                clear CI hok
                go_wp2_with fail
                refine (CI'.out _).mono ?_; rintro e w6 ⟨rfl, g6⟩
                go_wp2_with fail
                go_ret2
                exact ⟨rfl, by exact bel4 g6 hgj hg HG⟩
              · have hbd := okQ_bd hok
                have CA := fun W => l1Abs_c q.1 W (by omega) (by omega)
                have h0 := absI_pos q.1
                have h1 := (absI_le q.1 400000000).2 (by omega)
                have HN := Lib.hid fun hb => rdc_row HQ.out HH.out hok hb
                have HBAD := Lib.hid (show ¬ 2 * absI q.1 ≤ q.2 → RES = (false, true) from fun hb => by rw [HS.out, rdc_half HF.out hlt hltj (HQ.out.trans (by rw [HROW.out])) (by show halfR (mu.getD (K + 1) []) J = none; rw [← HROW.out]; exact HH.out) (.inr ⟨hok, hb, rfl⟩)])
                rw [hok] at CI
                have CI' := Lib.hid CI
                clear CI hok
                generalize absI q.1 = a at *
                have CA' := Lib.hid CA
                have hwr : IntKind.i64.wrap (2 * a) = 2 * a := IntWalk.i64_in _ (by omega)
                clear CA
                by_cases hb : 2 * a ≤ q.2
                · have hb' : ¬ q.2 < 2 * a := by omega
                  have hb'' : decide (q.2 < 2 * a) = false := decide_eq_false hb'
                  have HN := Lib.hid (HN.out hb)
                  clear hb HBAD
                  go_wp2_with fail
                  refine (CI'.out _).mono ?_; rintro e w6 ⟨rfl, g6⟩
                  have x0 := ext_is (((bcell g6).1 bm (fm + (K + 1)) hbmj).trans m0j)
                  have x1 := ext_is (((bcell g6).1 bj (fj + J * 2) hbj).trans j0)
                  have x2 := ext_is (((bcell g6).1 bj (fj + J * 2 + 1) hbj).trans j1)
                  clear m0j j0 j1
                  go_wp2_with fail
                  ((refine wp_region_ext (by kernel_rfl) (by kernel_rfl) ?_); (repeat (go_big_quiet_step ((go_at_call 96; with_reducible exact extS (CA'.out _))))); refine wpQuiet_nil ?_; rintro w7 ⟨w70, hw70⟩; have g7 := grows_of_ext hw70; clear hw70 w70)
                  go_wp2_with fail
                  go_round
                  case rel => exact ⟨J + 1, by go_num, by omega, HN.out, by exact bel3 g7 g6 hgj⟩
                  case measure => simp [intOf]; omega
                · have hb' : q.2 < 2 * a := by omega
                  have hb'' : decide (q.2 < 2 * a) = true := decide_eq_true hb'
                  obtain rfl : RES = (false, true) := HBAD.out hb
                  clear hb HN HBAD
                  go_wp2_with fail
                  refine (CI'.out _).mono ?_; rintro e w6 ⟨rfl, g6⟩
                  have x0 := ext_is (((bcell g6).1 bm (fm + (K + 1)) hbmj).trans m0j)
                  have x1 := ext_is (((bcell g6).1 bj (fj + J * 2) hbj).trans j0)
                  have x2 := ext_is (((bcell g6).1 bj (fj + J * 2 + 1) hbj).trans j1)
                  clear m0j j0 j1
                  go_wp2_with fail
                  ((refine wp_region_ext (by kernel_rfl) (by kernel_rfl) ?_); (repeat (go_big_quiet_step ((go_at_call 96; with_reducible exact extS (CA'.out _))))); refine wpQuiet_nil ?_; rintro w7 ⟨w70, hw70⟩; have g7 := grows_of_ext hw70; clear hw70 w70)
                  go_wp2_with fail
                  go_ret2
                  exact ⟨rfl, by exact bel5 g7 g6 hgj hg HG⟩
            · obtain rfl : J = K + 1 := by omega
              obtain ⟨bj, fj, rfl, hbj, j0, j1⟩ := (hrj.grows hgj).at_ K (by rw [HJL.out]; omega)
              obtain ⟨bs, fs, rfl, hbs, s0, s1⟩ := (hrsi.grows hgj).at_ K (by rw [il2]; omega)
              obtain ⟨bs', fs', e', _, u0, u1⟩ := (hrsi.grows hgj).at_ (K + 1) (by rw [il2]; exact hlt)
              cases e'
              have hord : ordS (mu, sq) (K + 1) = ordQ (nthQ row K) (nthQ sq K) (nthQ sq (K + 1)) := by rw [HROW.out]; rfl
              have CO := fun W => l19Good_c (nthQ row K) (nthQ sq K) (nthQ sq (K + 1)) W
              rw [← hord] at CO
              have HBAD := Lib.hid (show ¬ (ordS (mu, sq) (K + 1) = 0 ∨ ordS (mu, sq) (K + 1) = 1) → RES = (false, decide (ordS (mu, sq) (K + 1) ≠ 2)) from fun h => by rw [HS.out, rdc_bad (by omega) HF.out hlt (by show halfR (mu.getD (K + 1) []) (K + 1) = none; rw [← HROW.out]; exact HH.out) h])
              have HOK := Lib.hid (show ordS (mu, sq) (K + 1) = 0 ∨ ordS (mu, sq) (K + 1) = 1 → rdcF (mu, sq) (K + 1 + 1) = none from fun h => rdc_ok (by omega) HF.out (by show halfR (mu.getD (K + 1) []) (K + 1) = none; rw [← HROW.out]; exact HH.out) h)
              have hc4 : ordS (mu, sq) (K + 1) = -1 ∨ ordS (mu, sq) (K + 1) = 0 ∨ ordS (mu, sq) (K + 1) = 1 ∨ ordS (mu, sq) (K + 1) = 2 := cmpQ_four _ _
              clear hord
              generalize ordS (mu, sq) (K + 1) = C at *
              generalize nthQ row K = m at *
              generalize nthQ sq K = d at *
              generalize nthQ sq (K + 1) = u at *
              have CO' := Lib.hid CO
              have HC4 := Lib.hid hc4
              clear CO hc4
              have hk2 : ((K : Int) + 1 - 1) = (K : Int) := by omega
              have hk3 : (K : Int) < (R : Int) := by omega
              have hk6 : IntKind.i64.wrap ((K : Int) + 1 - 1) = (K : Int) := by rw [hk2]; exact IntWalk.i64_in _ (by omega)
              have hk7 : IntKind.i64.wrap (K : Int) = (K : Int) := IntWalk.i64_in _ (by omega)
              have hk8 : ¬ ((K : Int) < 0) := by omega
              have hk9 : (0 : Int) ≤ (K : Int) := by omega
              have hk10 : (K : Int) < (K : Int) + 1 := by omega
              have x0 := ext_is m0j
              have x1 := ext_is j0
              have x2 := ext_is j1
              have x3 := ext_is s0
              have x4 := ext_is s1
              have x5 := ext_is u0
              have x6 := ext_is u1
              clear m0 m0j j0 j1 s0 s1 u0 u1
              go_wp2_with fail
              ((refine wp_region_ext (by kernel_rfl) (by kernel_rfl) ?_); (repeat (go_big_quiet_step ((go_at_call 97; with_reducible exact extC (CO'.out _))))); refine wpQuiet_nil ?_; rintro w7 ⟨w70, hw70⟩; have g7 := grows_of_ext hw70; clear hw70 w70)
              rcases HC4.out with rfl | rfl | rfl | rfl
              · obtain rfl : RES = (false, true) := HBAD.out (by omega)
                go_wp2_with fail
                go_ret2
                exact ⟨rfl, by exact bel4 g7 hgj hg HG⟩
              · go_wp2_with fail
                go_round
                case rel => exact ⟨K + 1, by go_num, by omega, HOK.out (by simp), by exact bel3 g7 hgj hg⟩
                case measure => simp [intOf]; omega
              · go_wp2_with fail
                go_round
                case rel => exact ⟨K + 1, by go_num, by omega, HOK.out (by simp), by exact bel3 g7 hgj hg⟩
                case measure => simp [intOf]; omega
              · obtain rfl : RES = (false, false) := HBAD.out (by omega)
                go_wp2_with fail
                go_ret2
                exact ⟨rfl, by exact bel4 g7 hgj hg HG⟩
        · have hlt' : ¬ (K : Int) + 1 < (R : Int) := by omega
          have hlt'' : (R : Int) ≤ (K : Int) + 1 := by omega
          obtain rfl : RES = (true, true) := by rw [HS.out, rdcF_back HF.out (by omega)]
          go_wp2_with fail
          go_ret2
          exact ⟨rfl, by exact bel2 hg HG⟩
end
end Go.Proofs.Ytpfijhcjempfjaa
