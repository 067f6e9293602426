/- Contracts and lemmas, put together. -/
import Derived.Test.YtpfijhcjempfjaaQRed
/- Contracts: whether a form is reduced (impl). -/
namespace Go.Proofs.Ytpfijhcjempfjaa
set_option linter.unusedSimpArgs false
set_option linter.unusedVariables false
open Go.RowKit

theorem rdc_half {s : List (List Q2) × List Q2} {R I J : Nat} {k : Bool} {q : Q2} (h : rdcF s I = none) (hI : I < R) (hJ : J < I) (hq : q = nthQ (s.1.getD I []) J) (hh : halfR (s.1.getD I []) J = none)
    (hk : (okQ q = false ∧ k = false) ∨ (okQ q = true ∧ ¬ 2 * absI q.1 ≤ q.2 ∧ k = true)) : rdcF s R = some k := by
  subst hq
  rcases hk with ⟨h1, rfl⟩ | ⟨h1, h2, rfl⟩
  · exact rdcF_some (rdcF_half h (halfR_some (halfR_bad hh h1) hJ)) hI
  · exact rdcF_some (rdcF_half h (halfR_some (halfR_big hh h1 (by omega)) hJ)) hI
theorem rdc_row {row : List Q2} {J : Nat} {q : Q2} (hq : q = nthQ row J) (hh : halfR row J = none) (h1 : okQ q = true) (h2 : 2 * absI q.1 ≤ q.2) : halfR row (J + 1) = none := by
  subst hq
  exact halfR_ok hh h1 (by omega)
theorem rdc_bad {s : List (List Q2) × List Q2} {R I : Nat} (h0 : 0 < I) (h : rdcF s I = none) (hI : I < R) (hh : halfR (s.1.getD I []) I = none) (ho : ¬ (ordS s I = 0 ∨ ordS s I = 1)) : rdcF s R = some (decide (ordS s I ≠ 2)) :=
  rdcF_some (by rw [rdcF_ord h0 h hh, if_neg ho]) hI
theorem rdc_ok {s : List (List Q2) × List Q2} {I : Nat} (h0 : 0 < I) (h : rdcF s I = none) (hh : halfR (s.1.getD I []) I = none) (ho : ordS s I = 0 ∨ ordS s I = 1) : rdcF s (I + 1) = none := by
  rw [rdcF_ord h0 h hh, if_pos ho]

section
set_option maxHeartbeats 4000000
theorem iRed_c (r c : Int) (A : Option Addr) (l : List Int) (n cap : Nat) (w : World) (hn : l.length = n) (hcap : n ≤ cap) (hcap2 : cap ≤ 9223372036854775807) (ha : Rd w A l) (hl : n ≤ 1099511627776) :
    Calls Try.prog 47 #[.agg #[.int .i64 r, .int .i64 c, .slice A n cap]] w fun e w' => e = .returned (.tuple #[.bool (rdcO ⟨r, c, l⟩).1, .bool (rdcO ⟨r, c, l⟩).2]) ∧ Grows w w' := by
  have HD := fun W h => iIsDef_c r c A l n cap W hn hcap hcap2 h hl
  obtain ⟨w1, hw1⟩ : ∃ w1, w1 = w.alloc (.cells #[.int .i64 r, .int .i64 c, .slice A n cap] 26) := ⟨_, rfl⟩
  have mg : MBox w1 w.heap.size r c (.slice A n cap) := by rw [hw1]; exact MBox.mk_ _ _ _ _ _
  have HG : Grows w w1 := by rw [hw1]; exact bel0
  have HW1 := Lib.hid hw1
  have ha1 := ha.grows HG
  obtain ⟨RES, hRES⟩ : ∃ x, x = rdcO ⟨r, c, l⟩ := ⟨_, rfl⟩
  rw [← hRES]
  cases hd : isDef r c l
  · rw [rdcO_no (g := ⟨r, c, l⟩) hd] at hRES
    rw [hd] at HD
    have HD' := Lib.hid HD
    subst hRES
    clear hw1 hn HD hd
    go_enter Try.func47, Try.ntmps47
    go_wp2_with fail
    rw [← HW1.out]
    have mg_0 := mg.c0; have mg_1 := mg.c1; have mg_2 := mg.c2; have mg_l := mg.lt; have mg_f := mg.fz
    refine (HD'.out _ (by exact Rd.grows ha1 (by exact bel0))).mono ?_; rintro e w2 ⟨rfl, g_w2⟩
    have s_w2 := Below.size g_w2; (try simp at s_w2)
    clear mg_0 mg_1 mg_2 mg_l mg_f
    replace mg := mg.grows (w' := w2) (by exact bel1 g_w2)
    have mg_0 := mg.c0; have mg_1 := mg.c1; have mg_2 := mg.c2; have mg_l := mg.lt; have mg_f := mg.fz
    replace ha1 := ha1.grows (w' := w2) (by exact bel1 g_w2)
    replace HG : Grows w w2 := by exact bel2 g_w2 HG
    have h_w2 := Below.size HG
    go_wp2_with fail
    go_ret2
    exact ⟨rfl, by exact bel1 HG⟩
  · rw [hd] at HD
    have HD' := Lib.hid HD
    obtain ⟨R, rfl, rfl, hR, hlen⟩ := isDef_nat hd
    rw [rdcO_yes hd] at hRES
    have CA := fun W h => (iAcc_c R A l n cap W hn hlen (by omega) h).mono fun _ _ h => accRet_out h
    have INV := Lib.hid fun s h => accF_inv (C := R) (l := l) (i := R) (s := s) h
    generalize accF R l R = AO at *
    have CA' := Lib.hid CA
    have HR := Lib.hid hRES
    clear hw1 hn HD hd CA hRES hlen
    go_enter Try.func47, Try.ntmps47
    go_wp2_with fail
    rw [← HW1.out]
    have mg_0 := mg.c0; have mg_1 := mg.c1; have mg_2 := mg.c2; have mg_l := mg.lt; have mg_f := mg.fz
    refine (HD'.out _ (by exact Rd.grows ha1 (by exact bel0))).mono ?_; rintro e w2 ⟨rfl, g_w2⟩
    have s_w2 := Below.size g_w2; (try simp at s_w2)
    clear mg_0 mg_1 mg_2 mg_l mg_f
    replace mg := mg.grows (w' := w2) (by exact bel1 g_w2)
    have mg_0 := mg.c0; have mg_1 := mg.c1; have mg_2 := mg.c2; have mg_l := mg.lt; have mg_f := mg.fz
    replace ha1 := ha1.grows (w' := w2) (by exact bel1 g_w2)
    replace HG : Grows w w2 := by exact bel2 g_w2 HG
    have h_w2 := Below.size HG
    go_wp2_with fail
    refine (CA'.out _ (by exact Rd.grows ha1 (by exact bel0))).mono ?_; rintro e w3 ⟨Am, cm, As, cs, rfl, hrm, hrs, g_w3⟩
    have s_w3 := Below.size g_w3; (try simp at s_w3)
    clear mg_0 mg_1 mg_2 mg_l mg_f
    replace mg := mg.grows (w' := w3) (by exact bel1 g_w3)
    have mg_0 := mg.c0; have mg_1 := mg.c1; have mg_2 := mg.c2; have mg_l := mg.lt; have mg_f := mg.fz
    replace ha1 := ha1.grows (w' := w3) (by exact bel1 g_w3)
    replace HG : Grows w w3 := by exact bel2 g_w3 HG
    have h_w3 := Below.size HG
    cases AO with
    | none =>
      obtain rfl : RES = (false, false) := HR.out
      go_wp2_with fail
      go_ret2
      exact ⟨rfl, by exact bel1 HG⟩
    | some s =>
      have inv := INV.out s rfl
      have e1 : (oA (some s)).1 = s.1 := rfl
      have e2 : (oA (some s)).2 = s.2 := rfl
      rw [e1] at hrm
      rw [e2] at hrs
      rw [e1, e2, inv.l1, inv.l2]
      clear e1 e2
      have HS := Lib.hid (show RES = match rdcF s R with | none => (true, true) | some k => (false, k) from HR.out)
      clear HR INV
      obtain ⟨w4, hw4⟩ : ∃ w4, w4 = w3.alloc (.cells #[.slice Am R cm, .slice As R cs] 80) := ⟨_, rfl⟩
      have g34 : Grows w3 w4 := by rw [hw4]; exact bel0
      have mo : SBox w4 w3.heap.size (.slice Am R cm) (.slice As R cs) := by rw [hw4]; exact SBox.new_ _ _ _ _ rfl
      have HW4 := Lib.hid hw4
      have hrm4 := hrm.grows RSQ.good g34
      have hrs4 := hrs.grows g34
      clear hw4
      go_wp2_with fail
      rw [← HW4.out]
      go_loopw [26] (fun i wr => ∃ (I : Nat), i = .int .i64 I ∧ I ≤ R ∧ rdcF s I = none ∧ Grows w4 wr) (fun i _ => R - (intOf i).toNat)
      case atStart => exact ⟨0, rfl, Nat.zero_le _, rfl, by exact bel0⟩
      case round =>
        obtain ⟨I, rfl, hI, hF, hg⟩ := hrel
        have HF := Lib.hid hF
        clear hF
        obtain ⟨wi, rfl⟩ : ∃ wi : World, wi = wr := ⟨_, rfl⟩
        have hrmi := hrm4.grows RSQ.good hg
        have hrsi := hrs4.grows hg
        have moi := mo.grows hg
        by_cases hlt : I < R
        · have hlt' : (I : Int) < (R : Int) := by omega
          obtain ⟨bm, fm, Aj, cj, rfl, hbm, m0, hrj, hcj⟩ := hrmi.rowQ I (by rw [inv.l1]; exact hlt)
          have hjl := inv.row I hlt
          rw [hjl] at m0 hcj
          obtain ⟨row, hrow⟩ : ∃ row, row = s.1.getD I [] := ⟨_, rfl⟩
          rw [← hrow] at hrj hjl
          have HROW := Lib.hid hrow
          have HJL := Lib.hid hjl
          clear hrow hjl
          obtain ⟨o0, o1⟩ := moi.cells
          go_wp2_with fail
          go_loopw [35] (fun j wx => ∃ (J : Nat), j = .int .i64 J ∧ J ≤ I ∧ halfR row J = none ∧ Grows wi wx) (fun j _ => I - (intOf j).toNat)
          case atStart => exact ⟨0, rfl, Nat.zero_le _, rfl, by exact bel0⟩
          case round =>
            clear o0 o1 m0
            obtain ⟨J, rfl, hJ, hH, hgj⟩ := hrel
            have HH := Lib.hid hH
            clear hH
            obtain ⟨wj, rfl⟩ : ∃ wj : World, wj = wr := ⟨_, rfl⟩
            by_cases hltj : J < I
            · have hltj' : (J : Int) < (I : Int) := by omega
              obtain ⟨bj, fj, rfl, hbj, j0, j1⟩ := (hrj.grows hgj).at_ J (by rw [HJL.out]; exact hltj)
              obtain ⟨q, hq⟩ : ∃ q, q = nthQ row J := ⟨_, rfl⟩
              rw [← hq] at j0 j1
              have HQ := Lib.hid hq
              clear hq
              have CH := fun W => halves_c q W
              cases hok : okQ q
              · have hn : RES = (false, false) := by rw [HS.out, rdc_half HF.out hlt hltj (HQ.out.trans (by rw [HROW.out])) (by rw [← HROW.out]; exact HH.out) (.inl ⟨hok, rfl⟩)]
                rw [hok] at CH
                have CH' := Lib.hid CH
                subst hn
                clear CH hok
                go_wp2_with fail
                refine (CH'.out _).mono ?_; rintro e w6 ⟨rfl, g6⟩
                go_wp2_with fail
                go_ret2
                exact ⟨rfl, by exact bel5 g6 hgj hg g34 HG⟩
              · by_cases hb : 2 * absI q.1 ≤ q.2
                · have HN := Lib.hid (rdc_row HQ.out HH.out hok hb)
                  rw [hok, decide_eq_true hb] at CH
                  have CH' := Lib.hid CH
                  clear CH hok hb
                  go_wp2_with fail
                  refine (CH'.out _).mono ?_; rintro e w6 ⟨rfl, g6⟩
                  go_wp2_with fail
                  go_round
                  case rel => exact ⟨J + 1, by go_num, by omega, HN.out, by exact bel2 g6 hgj⟩
                  case measure => simp [intOf]; omega
                · have hn : RES = (false, true) := by rw [HS.out, rdc_half HF.out hlt hltj (HQ.out.trans (by rw [HROW.out])) (by rw [← HROW.out]; exact HH.out) (.inr ⟨hok, hb, rfl⟩)]
                  rw [hok, decide_eq_false hb] at CH
                  have CH' := Lib.hid CH
                  subst hn
                  clear CH hok hb
                  go_wp2_with fail
                  refine (CH'.out _).mono ?_; rintro e w6 ⟨rfl, g6⟩
                  go_wp2_with fail
                  go_ret2
                  exact ⟨rfl, by exact bel5 g6 hgj hg g34 HG⟩
            · obtain rfl : J = I := by omega
              have mox := moi.grows hgj
              obtain ⟨o0, o1⟩ := mox.cells
              by_cases h0 : J = 0
              · subst h0
                go_wp2_with fail
                go_round
                case rel => exact ⟨1, by go_num, by omega, rdcF_zero, by exact bel2 hgj hg⟩
                case measure => simp [intOf]; omega
              · have h0' : ¬ ((J : Int) = 0) := by omega
                have hjb : ((J : Int) == (0 : Int)) = false := by rw [beq_eq_false_iff_ne]; omega
                have CO := fun W h1 h2 => inOrder_c s R J (some ⟨bm, fm, none⟩) As cm cs W inv.l1 inv.l2 inv.row (by omega) (by omega) hlt h1 h2
                have HBAD := Lib.hid (show ¬ (ordS s J = 0 ∨ ordS s J = 1) → RES = (false, decide (ordS s J ≠ 2)) from fun h => by rw [HS.out, rdc_bad (by omega) HF.out hlt (by rw [← HROW.out]; exact HH.out) h])
                have HOK := Lib.hid (show ordS s J = 0 ∨ ordS s J = 1 → rdcF s (J + 1) = none from fun h => rdc_ok (by omega) HF.out (by rw [← HROW.out]; exact HH.out) h)
                have hc4 : ordS s J = -1 ∨ ordS s J = 0 ∨ ordS s J = 1 ∨ ordS s J = 2 := cmpQ_four _ _
                generalize ordS s J = C at *
                have CO' := Lib.hid CO
                have hrmx := hrmi.grows RSQ.good hgj
                have hrsx := hrsi.grows hgj
                clear CO
                rcases hc4 with rfl | rfl | rfl | rfl
                · obtain rfl : RES = (false, true) := HBAD.out (by omega)
                  go_wp2_with fail
                  refine (CO'.out _ hrmx hrsx).mono ?_; rintro e w6 ⟨rfl, g6⟩
                  go_wp2_with fail
                  go_ret2
                  exact ⟨rfl, by exact bel5 g6 hgj hg g34 HG⟩
                · go_wp2_with fail
                  refine (CO'.out _ hrmx hrsx).mono ?_; rintro e w6 ⟨rfl, g6⟩
                  go_wp2_with fail
                  go_round
                  case rel => exact ⟨J + 1, by go_num, by omega, HOK.out (by simp), by exact bel3 g6 hgj hg⟩
                  case measure => simp [intOf]; omega
                · go_wp2_with fail
                  refine (CO'.out _ hrmx hrsx).mono ?_; rintro e w6 ⟨rfl, g6⟩
                  go_wp2_with fail
                  go_round
                  case rel => exact ⟨J + 1, by go_num, by omega, HOK.out (by simp), by exact bel3 g6 hgj hg⟩
                  case measure => simp [intOf]; omega
                · obtain rfl : RES = (false, false) := HBAD.out (by omega)
                  go_wp2_with fail
                  refine (CO'.out _ hrmx hrsx).mono ?_; rintro e w6 ⟨rfl, g6⟩
                  go_wp2_with fail
                  go_ret2
                  exact ⟨rfl, by exact bel5 g6 hgj hg g34 HG⟩
        · obtain rfl : I = R := by omega
          obtain rfl : RES = (true, true) := by rw [HS.out, HF.out]
          go_wp2_with fail
          go_ret2
          exact ⟨rfl, by exact bel3 hg g34 HG⟩
end
end Go.Proofs.Ytpfijhcjempfjaa
