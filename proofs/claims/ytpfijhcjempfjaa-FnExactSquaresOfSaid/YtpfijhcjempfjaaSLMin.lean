/- Contracts: the reference's leading minors; definite forms. -/
import Derived.Test.YtpfijhcjempfjaaPart
namespace Go.Proofs.Ytpfijhcjempfjaa
open Go.RowKit

section
set_option maxHeartbeats 1000000
theorem sFirst_c (R k : Nat) (A : Option Addr) (l : List Int) (n cap : Nat) (w : World) (hn : l.length = n) (hlen : n = R * R) (hR : R ≤ 6) (hk : k ≤ R) (ha : Rd w A l) :
    Calls Try.prog 120 #[.agg #[.int .i64 R, .int .i64 R, .slice A n cap], .int .i64 k] w fun e w' =>
      ∃ v, e = .returned (.agg #[.int .i64 k, .int .i64 k, v]) ∧ Own w' w.heap.size v (subm k R l) ∧ Grows w w' := by
  have HN := Lib.hid hn
  have HL := Lib.hid hlen
  clear hn hlen
  obtain ⟨w1, hw1⟩ : ∃ w1, w1 = (w.alloc (.cells #[.int .i64 R, .int .i64 R, .slice A n cap] 26)).alloc (.cells #[.int .i64 0, .int .i64 0, .slice none 0 0] 26) := ⟨_, rfl⟩
  have mb1 : MBox w1 w.heap.size R R (.slice A n cap) := by rw [hw1]; exact (MBox.mk_ _ _ _ _ _).alloc _
  have mr1 : MBox w1 (w.heap.size + 1) 0 0 (.slice none 0 0) := by rw [hw1]; exact MBox.new_ _ _ _ _ _ (by simp)
  have hs1 : w1.heap.size = w.heap.size + 2 := by rw [hw1]; simp
  have hg01 : Grows w w1 := by rw [hw1]; ((repeat' (first | with_reducible exact Below.refl _ _ | with_reducible assumption | (with_reducible refine Below.setCell ?_ ?_ _) | (with_reducible refine Below.alloc ?_ ?_ _) | (with_reducible refine Below.drew ?_) | (with_reducible refine below_drewN ?_ _))); all_goals (first | omega | (simp; done) | (simp; omega) | (simp [*]; done) | (simp at *; omega)))
  have ha1 : Rd w1 A l := ha.grows hg01
  have HS1 := Lib.hid hs1
  have HW1 := Lib.hid hw1
  clear hs1 hw1
  go_enter Try.func120, Try.ntmps120
  go_wp2_with fail
  go_loopw [5, 6] (fun o i wr => ∃ (I : Nat) (A4 : Option Addr) (c4 : Nat), i = .int .i64 I ∧ I ≤ k ∧ o = .slice A4 I c4 ∧ Own wr (w.heap.size + 2) (.slice A4 I c4) (iota I) ∧ Grows w1 wr) (fun _ i _ => k - (intOf i).toNat)
  case atStart => exact ⟨0, _, _, rfl, Nat.zero_le _, rfl, Own.new_ _ (by simp) (by omega), by rw [HW1.out]; ((repeat' (first | with_reducible exact Below.refl _ _ | with_reducible assumption | (with_reducible refine Below.setCell ?_ ?_ _) | (with_reducible refine Below.alloc ?_ ?_ _) | (with_reducible refine Below.drew ?_) | (with_reducible refine below_drewN ?_ _))); all_goals (first | omega | (simp; done) | (simp; omega) | (simp [*]; done) | (simp at *; omega)))⟩
  case round =>
    obtain ⟨I, A4, c4, rfl, hI, rfl, ho, hg⟩ := hrel
    have hsz := hg.size
    rw [HS1.out] at hsz
    by_cases hlt : I < k
    · go_wp2_with (at_builtin; refine wpList_app1 rfl (.tmp 13) (.tmp 15) rfl _ (I : Int) (w.heap.size + 2) _ (iota I) (by rfl) ho (by rfl) (by rw [iota_length]; omega) (by omega) ?_; intro v7 w7 ho7 hg7 _)
      rw [← iota_succ] at ho7
      obtain ⟨A7, c7, hv7, _, _⟩ := ho7.val
      rw [iota_length] at hv7
      subst hv7
      have hb7 : Below (w.heap.size + 2) wr w7 := below_app ho (by omega) hg7
      rw [← HS1.out] at hb7
      go_round
      case rel => exact ⟨I + 1, _, _, by go_num, by omega, rfl, ho7, by (have bz0 := Below.size (hb7); (try simp at bz0); have bz1 := Below.size (hg); (try simp at bz1); (repeat' (first | with_reducible exact Below.refl _ _ | with_reducible assumption | (with_reducible refine Below.setCell ?_ ?_ _) | (with_reducible refine Below.alloc ?_ ?_ _) | (with_reducible refine Below.drew ?_) | (with_reducible refine below_drewN ?_ _) | (with_reducible refine Below.trans ?_ (Below.mono (hb7) ?_)) | (with_reducible refine Below.trans ?_ (Below.mono (hg) ?_)))); all_goals (first | omega | (simp; done) | (simp; omega) | (simp [*]; done) | (simp at *; omega)))⟩
      case measure => simp [intOf]; omega
    · obtain rfl : I = k := by omega
      have mb := mb1.grows hg
      obtain ⟨b0, b1, b2⟩ := mb.cells
      have mr := mr1.grows hg
      have hio : ∀ i, i < I → 0 ≤ nth (iota I) i ∧ nth (iota I) i < (R : Int) := fun i hi => by rw [iota_nth hi]; omega
      have C1 := fun W X h1 h2 h3 => sPart_c R R A X X l (iota I) (iota I) n I I cap c4 c4 W HN.out (iota_length I) (iota_length I) HL.out (by omega) (by omega) (by omega) (by omega) h1 h2 h3 hio hio
      rw [prt_iota] at C1
      have C1' := Lib.hid C1
      have hrd := ha1.grows hg
      have hro := ho.rd_
      clear C1 hio
      go_wp2_with fail
      refine (C1'.out _ _ (by exact (Rd.grows hrd (by ((repeat' (first | with_reducible exact Below.refl _ _ | with_reducible assumption | (with_reducible refine Below.setCell ?_ ?_ _) | (with_reducible refine Below.alloc ?_ ?_ _) | (with_reducible refine Below.drew ?_) | (with_reducible refine below_drewN ?_ _))); all_goals (first | omega | (simp; done) | (simp; omega) | (simp [*]; done) | (simp at *; omega)))))) (by exact (Rd.grows hro (by ((repeat' (first | with_reducible exact Below.refl _ _ | with_reducible assumption | (with_reducible refine Below.setCell ?_ ?_ _) | (with_reducible refine Below.alloc ?_ ?_ _) | (with_reducible refine Below.drew ?_) | (with_reducible refine below_drewN ?_ _))); all_goals (first | omega | (simp; done) | (simp; omega) | (simp [*]; done) | (simp at *; omega)))))) (by exact (Rd.grows hro (by ((repeat' (first | with_reducible exact Below.refl _ _ | with_reducible assumption | (with_reducible refine Below.setCell ?_ ?_ _) | (with_reducible refine Below.alloc ?_ ?_ _) | (with_reducible refine Below.drew ?_) | (with_reducible refine below_drewN ?_ _))); all_goals (first | omega | (simp; done) | (simp; omega) | (simp [*]; done) | (simp at *; omega))))))).mono ?_; rintro e w3 ⟨v3, rfl, ho3, g3⟩
      obtain ⟨A3, c3, rfl, _, _⟩ := ho3.val
      obtain ⟨d0, d1, d2⟩ := (mr.grows g3).cells
      have df := (mr.grows g3).fz
      have dl := (mr.grows g3).lt
      go_wp2_with fail
      refine bodyPost_ret (v := .agg #[.int .i64 I, .int .i64 I, .slice A3 (subm I R l).length c3]) ?_ rfl ?_
      · simp [results, Try.results120, go_sem, d0, d1, d2, df]
      · have hs1 := HS1.out
        exact ⟨_, rfl, by (refine Own.less (B := ?OB) ?_ ?_; (repeat' (first | with_reducible exact ho3 | with_reducible refine Own.alloc ?_ _ | with_reducible refine Own.drew ?_ | with_reducible refine Own.low ?_ ?_ _)); all_goals (first | omega | (simp; done) | (simp; omega) | (simp [*]; done) | (simp at *; omega))), by (have bz0 := Below.size (g3); (try simp at bz0); have bz1 := Below.size (hg); (try simp at bz1); have bz2 := Below.size (hg01); (try simp at bz2); (repeat' (first | with_reducible exact Below.refl _ _ | with_reducible assumption | (with_reducible refine Below.setCell ?_ ?_ _) | (with_reducible refine Below.alloc ?_ ?_ _) | (with_reducible refine Below.drew ?_) | (with_reducible refine below_drewN ?_ _) | (with_reducible refine Below.trans ?_ (Below.mono (g3) ?_)) | (with_reducible refine Below.trans ?_ (Below.mono (hg) ?_)) | (with_reducible refine Below.trans ?_ (Below.mono (hg01) ?_)))); all_goals (first | omega | (simp; done) | (simp; omega) | (simp [*]; done) | (simp at *; omega)))⟩

theorem sLMin_c (r c : Int) (A : Option Addr) (l : List Int) (n cap : Nat) (w : World) (hn : l.length = n) (ha : Rd w A l) (hl : n ≤ 1099511627776) :
    Calls Try.prog 63 #[.agg #[.int .i64 r, .int .i64 c, .slice A n cap]] w fun e w' => ∃ v, e = .returned (.tuple #[v, .bool (lmO r c l).isSome]) ∧ Own w' w.heap.size v (oL (lmO r c l)) ∧ Grows w w' := by
  have HS := fun w h => sIsSquare_c r c A l n cap w hn h hl
  cases hq : isSq r c l
  · rw [lmO_no hq]
    rw [hq] at HS
    have HS' := Lib.hid HS
    clear HS hq hn
    have ho0 := Own.new_ (w.alloc (.cells #[.int .i64 r, .int .i64 c, .slice A n cap] 26)) (B := w.heap.size) (b := w.heap.size + 1) (by simp) (by omega)
    by_cases hr : 1 ≤ r
    all_goals
      go_enter Try.func63, Try.ntmps63
      go_wp2_with fail
      refine wp_loop_rounds 1 ?_; rw [rounds_succ]
      go_wp2_with fail
    · refine (HS'.out _ (by exact (Rd.grows ha (by ((repeat' (first | with_reducible exact Below.refl _ _ | with_reducible assumption | (with_reducible refine Below.setCell ?_ ?_ _) | (with_reducible refine Below.alloc ?_ ?_ _) | (with_reducible refine Below.drew ?_) | (with_reducible refine below_drewN ?_ _))); all_goals (first | omega | (simp; done) | (simp; omega) | (simp [*]; done) | (simp at *; omega))))))).mono ?_; rintro e w1 ⟨rfl, g1⟩
      have mb := (MBox.mk_ w r c (.slice A n cap) 26).grows (w' := w1) (by (have bz0 := Below.size (g1); (try simp at bz0); (repeat' (first | with_reducible exact Below.refl _ _ | with_reducible assumption | (with_reducible refine Below.setCell ?_ ?_ _) | (with_reducible refine Below.alloc ?_ ?_ _) | (with_reducible refine Below.drew ?_) | (with_reducible refine below_drewN ?_ _) | (with_reducible refine Below.trans ?_ (Below.mono (g1) ?_)))); all_goals (first | omega | (simp; done) | (simp; omega) | (simp [*]; done) | (simp at *; omega))))
      obtain ⟨b0, b1, b2⟩ := mb.cells
      go_wp2_with fail
      refine (HS'.out _ (by exact (Rd.grows ha (by (have bz0 := Below.size (g1); (try simp at bz0); (repeat' (first | with_reducible exact Below.refl _ _ | with_reducible assumption | (with_reducible refine Below.setCell ?_ ?_ _) | (with_reducible refine Below.alloc ?_ ?_ _) | (with_reducible refine Below.drew ?_) | (with_reducible refine below_drewN ?_ _) | (with_reducible refine Below.trans ?_ (Below.mono (g1) ?_)))); all_goals (first | omega | (simp; done) | (simp; omega) | (simp [*]; done) | (simp at *; omega))))))).mono ?_; rintro e w2 ⟨rfl, g2⟩
      go_wp2_with fail
      go_ret2
      exact ⟨_, rfl, (Own.grows ho0 (by (have bz0 := Below.size (g2); (try simp at bz0); have bz1 := Below.size (g1); (try simp at bz1); (repeat' (first | with_reducible exact Below.refl _ _ | with_reducible assumption | (with_reducible refine Below.setCell ?_ ?_ _) | (with_reducible refine Below.alloc ?_ ?_ _) | (with_reducible refine Below.drew ?_) | (with_reducible refine below_drewN ?_ _) | (with_reducible refine Below.trans ?_ (Below.mono (g2) ?_)) | (with_reducible refine Below.trans ?_ (Below.mono (g1) ?_)))); all_goals (first | omega | (simp; done) | (simp; omega) | (simp [*]; done) | (simp at *; omega))))), by (have bz0 := Below.size (g2); (try simp at bz0); have bz1 := Below.size (g1); (try simp at bz1); (repeat' (first | with_reducible exact Below.refl _ _ | with_reducible assumption | (with_reducible refine Below.setCell ?_ ?_ _) | (with_reducible refine Below.alloc ?_ ?_ _) | (with_reducible refine Below.drew ?_) | (with_reducible refine below_drewN ?_ _) | (with_reducible refine Below.trans ?_ (Below.mono (g2) ?_)) | (with_reducible refine Below.trans ?_ (Below.mono (g1) ?_)))); all_goals (first | omega | (simp; done) | (simp; omega) | (simp [*]; done) | (simp at *; omega)))⟩
    · refine (HS'.out _ (by exact (Rd.grows ha (by ((repeat' (first | with_reducible exact Below.refl _ _ | with_reducible assumption | (with_reducible refine Below.setCell ?_ ?_ _) | (with_reducible refine Below.alloc ?_ ?_ _) | (with_reducible refine Below.drew ?_) | (with_reducible refine below_drewN ?_ _))); all_goals (first | omega | (simp; done) | (simp; omega) | (simp [*]; done) | (simp at *; omega))))))).mono ?_; rintro e w1 ⟨rfl, g1⟩
      go_wp2_with fail
      go_ret2
      exact ⟨_, rfl, (Own.grows ho0 (by (have bz0 := Below.size (g1); (try simp at bz0); (repeat' (first | with_reducible exact Below.refl _ _ | with_reducible assumption | (with_reducible refine Below.setCell ?_ ?_ _) | (with_reducible refine Below.alloc ?_ ?_ _) | (with_reducible refine Below.drew ?_) | (with_reducible refine below_drewN ?_ _) | (with_reducible refine Below.trans ?_ (Below.mono (g1) ?_)))); all_goals (first | omega | (simp; done) | (simp; omega) | (simp [*]; done) | (simp at *; omega))))), by (have bz0 := Below.size (g1); (try simp at bz0); (repeat' (first | with_reducible exact Below.refl _ _ | with_reducible assumption | (with_reducible refine Below.setCell ?_ ?_ _) | (with_reducible refine Below.alloc ?_ ?_ _) | (with_reducible refine Below.drew ?_) | (with_reducible refine below_drewN ?_ _) | (with_reducible refine Below.trans ?_ (Below.mono (g1) ?_)))); all_goals (first | omega | (simp; done) | (simp; omega) | (simp [*]; done) | (simp at *; omega)))⟩
  · obtain ⟨_, R, rfl, rfl, hR, hlen, hnum⟩ := isSq_nat hq
    rw [lmO_yes hq]
    rw [hq] at HS
    have HS' := Lib.hid HS
    have HN := Lib.hid hn
    have HLN := Lib.hid hlen
    have HNU := Lib.hid hnum
    have hn2 : n = R * R := by omega
    have CF := Lib.hid fun (k : Nat) (hk : k ≤ R) W h => sFirst_c R k A l n cap W hn hn2 hR hk h
    obtain ⟨w1, hw1⟩ : ∃ w1, w1 = w.alloc (.cells #[.int .i64 R, .int .i64 R, .slice A n cap] 26) := ⟨_, rfl⟩
    have mb1 : MBox w1 w.heap.size R R (.slice A n cap) := by rw [hw1]; exact MBox.mk_ _ _ _ _ _
    have hg01 : Grows w w1 := by rw [hw1]; ((repeat' (first | with_reducible exact Below.refl _ _ | with_reducible assumption | (with_reducible refine Below.setCell ?_ ?_ _) | (with_reducible refine Below.alloc ?_ ?_ _) | (with_reducible refine Below.drew ?_) | (with_reducible refine below_drewN ?_ _))); all_goals (first | omega | (simp; done) | (simp; omega) | (simp [*]; done) | (simp at *; omega)))
    have ha1 : Rd w1 A l := ha.grows hg01
    have hs1 : w1.heap.size = w.heap.size + 1 := by rw [hw1]; simp
    have HW1 := Lib.hid hw1
    have HS1 := Lib.hid hs1
    clear hw1 HS hq hn hlen hnum hs1 hn2
    go_enter Try.func63, Try.ntmps63
    go_wp2_with fail
    go_loopw [4, 5] (fun o k wr => ∃ (K : Nat) (A4 : Option Addr) (L : List Int) (c4 : Nat), k = .int .i64 ((K : Int) + 1) ∧ o = .slice A4 L.length c4 ∧ K ≤ R ∧ lmP R l K = some L ∧ Own wr w1.heap.size (.slice A4 L.length c4) L ∧ Grows w1 wr) (fun _ k _ => R + 1 - (intOf k).toNat)
    case atStart => exact ⟨0, _, [], _, rfl, rfl, Nat.zero_le _, rfl, Own.new_ _ (by simp) (by rw [HS1.out]; omega), by rw [HW1.out]; ((repeat' (first | with_reducible exact Below.refl _ _ | with_reducible assumption | (with_reducible refine Below.setCell ?_ ?_ _) | (with_reducible refine Below.alloc ?_ ?_ _) | (with_reducible refine Below.drew ?_) | (with_reducible refine below_drewN ?_ _))); all_goals (first | omega | (simp; done) | (simp; omega) | (simp [*]; done) | (simp at *; omega)))⟩
    case round =>
      obtain ⟨K, A4, L, c4, rfl, rfl, hK, hL, ho, hg⟩ := hrel
      have HL := Lib.hid hL
      have HLL := Lib.hid (lmP_length hL)
      clear hL
      have mb := mb1.grows hg
      obtain ⟨b0, b1, b2⟩ := mb.cells
      have hrd := ha1.grows hg
      by_cases hlt : K < R
      · obtain ⟨N, hN⟩ : ∃ N, N = K + 1 := ⟨_, rfl⟩
        have hNi : (K : Int) + 1 = (N : Int) := by omega
        rw [hNi]
        have hNR : N ≤ R := by omega
        have HNN := Lib.hid hN
        have hsl := subm_length N R l
        have hsn := subm_num hNR HLN.out HNU.out
        have CD := fun W B cap h => sDet_c N (by omega) (subm N R l) B _ cap N W rfl rfl hsl hsn h
        have F0 := Lib.hid fun h => lmP_fail (R := R) (l := l) HL.out (by rw [← HNN.out]; exact h)
        have F1 := Lib.hid fun d h => lmP_some (R := R) (l := l) (d := d) HL.out (by rw [← HNN.out]; exact h)
        have ND := Lib.hid fun d h => detO_num (n := N) (l := subm N R l) (d := d) h
        have hsz := hg.size
        have hle : (N : Int) ≤ (R : Int) := by omega
        clear hN hsl hsn
        generalize detO N (subm N R l) = D at *
        cases D with
        | none =>
          have FD := Lib.hid (lmP_none (k := R) (F0.out rfl) (by omega))
          rw [show oBad none = -4611686018427387904 from rfl] at CD
          have CD' := Lib.hid CD
          clear CD
          go_wp2_with fail
          refine (HS'.out _ hrd).mono ?_; rintro e w2 ⟨rfl, g2⟩
          clear b0 b1 b2
          obtain ⟨b0, b1, b2⟩ := (mb.grows g2).cells
          go_wp2_with fail
          refine (CF.out N hNR _ (by exact (Rd.grows hrd (by (have bz0 := Below.size (g2); (try simp at bz0); (repeat' (first | with_reducible exact Below.refl _ _ | with_reducible assumption | (with_reducible refine Below.setCell ?_ ?_ _) | (with_reducible refine Below.alloc ?_ ?_ _) | (with_reducible refine Below.drew ?_) | (with_reducible refine below_drewN ?_ _) | (with_reducible refine Below.trans ?_ (Below.mono (g2) ?_)))); all_goals (first | omega | (simp; done) | (simp; omega) | (simp [*]; done) | (simp at *; omega))))))).mono ?_; rintro e w3 ⟨v3, rfl, ho3, g3⟩
          obtain ⟨A3, c3, rfl, hr3, _⟩ := ho3.val
          go_wp2_with fail
          refine (CD'.out _ _ _ (by exact (Rd.grows hr3 (by ((repeat' (first | with_reducible exact Below.refl _ _ | with_reducible assumption | (with_reducible refine Below.setCell ?_ ?_ _) | (with_reducible refine Below.alloc ?_ ?_ _) | (with_reducible refine Below.drew ?_) | (with_reducible refine below_drewN ?_ _))); all_goals (first | omega | (simp; done) | (simp; omega) | (simp [*]; done) | (simp at *; omega))))))).mono ?_; rintro e w6 ⟨rfl, g6⟩
          go_wp2_with fail
          go_ret2
          exact ⟨_, by rw [FD.out]; rfl, by rw [FD.out]; exact Own.new_ _ rfl (by have := hg01.size; have := g2.size; have := g3.size; have := g6.size; omega), by (have bz0 := Below.size (g6); (try simp at bz0); have bz1 := Below.size (g3); (try simp at bz1); have bz2 := Below.size (g2); (try simp at bz2); have bz3 := Below.size (hg); (try simp at bz3); have bz4 := Below.size (hg01); (try simp at bz4); (repeat' (first | with_reducible exact Below.refl _ _ | with_reducible assumption | (with_reducible refine Below.setCell ?_ ?_ _) | (with_reducible refine Below.alloc ?_ ?_ _) | (with_reducible refine Below.drew ?_) | (with_reducible refine below_drewN ?_ _) | (with_reducible refine Below.trans ?_ (Below.mono (g6) ?_)) | (with_reducible refine Below.trans ?_ (Below.mono (g3) ?_)) | (with_reducible refine Below.trans ?_ (Below.mono (g2) ?_)) | (with_reducible refine Below.trans ?_ (Below.mono (hg) ?_)) | (with_reducible refine Below.trans ?_ (Below.mono (hg01) ?_)))); all_goals (first | omega | (simp; done) | (simp; omega) | (simp [*]; done) | (simp at *; omega)))⟩
        | some d =>
          have FD := Lib.hid (F1.out d rfl)
          rw [show oBad (some d) = d from rfl] at CD
          have CD' := Lib.hid CD
          have hd4 := (isNum_iff _).1 (ND.out d rfl)
          have hdb : (d == -4611686018427387904) = false := by rw [beq_eq_false_iff_ne]; omega
          clear CD
          go_wp2_with fail
          refine (HS'.out _ hrd).mono ?_; rintro e w2 ⟨rfl, g2⟩
          clear b0 b1 b2
          obtain ⟨b0, b1, b2⟩ := (mb.grows g2).cells
          go_wp2_with fail
          refine (CF.out N hNR _ (by exact (Rd.grows hrd (by (have bz0 := Below.size (g2); (try simp at bz0); (repeat' (first | with_reducible exact Below.refl _ _ | with_reducible assumption | (with_reducible refine Below.setCell ?_ ?_ _) | (with_reducible refine Below.alloc ?_ ?_ _) | (with_reducible refine Below.drew ?_) | (with_reducible refine below_drewN ?_ _) | (with_reducible refine Below.trans ?_ (Below.mono (g2) ?_)))); all_goals (first | omega | (simp; done) | (simp; omega) | (simp [*]; done) | (simp at *; omega))))))).mono ?_; rintro e w3 ⟨v3, rfl, ho3, g3⟩
          obtain ⟨A3, c3, rfl, hr3, _⟩ := ho3.val
          go_wp2_with fail
          refine (CD'.out _ _ _ (by exact (Rd.grows hr3 (by ((repeat' (first | with_reducible exact Below.refl _ _ | with_reducible assumption | (with_reducible refine Below.setCell ?_ ?_ _) | (with_reducible refine Below.alloc ?_ ?_ _) | (with_reducible refine Below.drew ?_) | (with_reducible refine below_drewN ?_ _))); all_goals (first | omega | (simp; done) | (simp; omega) | (simp [*]; done) | (simp at *; omega))))))).mono ?_; rintro e w6 ⟨rfl, g6⟩
          have hs6 : w1.heap.size ≤ w6.heap.size := by have := g2.size; have := g3.size; have := g6.size; omega
          have ho6 := ((ho.grows g2).grows g3).grows g6
          go_wp2_with (at_builtin; refine wpList_app1 rfl (.tmp 25) (.tmp 27) rfl _ d w1.heap.size _ L (by rfl) ho6 (by rfl) (by have := HLL.out; omega) (by omega) ?_; intro v7 w7 ho7 hg7 _)
          obtain ⟨A7, c7, rfl, _, _⟩ := ho7.val
          have hb7 : Below w1.heap.size w6 w7 := below_app ho6 (by omega) hg7
          have hNi2 : (N : Int) + 1 = ((K + 1 : Nat) : Int) + 1 := by have := HNN.out; omega
          go_round
          case rel => exact ⟨K + 1, _, _, _, by rw [← hNi2], rfl, by omega, FD.out, ho7, by (have bz0 := Below.size (hb7); (try simp at bz0); have bz1 := Below.size (g6); (try simp at bz1); have bz2 := Below.size (g3); (try simp at bz2); have bz3 := Below.size (g2); (try simp at bz3); have bz4 := Below.size (hg); (try simp at bz4); (repeat' (first | with_reducible exact Below.refl _ _ | with_reducible assumption | (with_reducible refine Below.setCell ?_ ?_ _) | (with_reducible refine Below.alloc ?_ ?_ _) | (with_reducible refine Below.drew ?_) | (with_reducible refine below_drewN ?_ _) | (with_reducible refine Below.trans ?_ (Below.mono (hb7) ?_)) | (with_reducible refine Below.trans ?_ (Below.mono (g6) ?_)) | (with_reducible refine Below.trans ?_ (Below.mono (g3) ?_)) | (with_reducible refine Below.trans ?_ (Below.mono (g2) ?_)) | (with_reducible refine Below.trans ?_ (Below.mono (hg) ?_)))); all_goals (first | omega | (simp; done) | (simp; omega) | (simp [*]; done) | (simp at *; omega)))⟩
          case measure => simp [intOf]; omega
      · obtain rfl : K = R := by omega
        have hlt' : ¬ ((K : Int) + 1 ≤ (K : Int)) := by omega
        go_wp2_with fail
        refine (HS'.out _ hrd).mono ?_; rintro e w2 ⟨rfl, g2⟩
        go_wp2_with fail
        go_ret2
        have hs1 := HS1.out
        exact ⟨_, by rw [HL.out]; rfl, by rw [HL.out]; exact (ho.grows g2).less (by omega), by (have bz0 := Below.size (g2); (try simp at bz0); have bz1 := Below.size (hg); (try simp at bz1); have bz2 := Below.size (hg01); (try simp at bz2); (repeat' (first | with_reducible exact Below.refl _ _ | with_reducible assumption | (with_reducible refine Below.setCell ?_ ?_ _) | (with_reducible refine Below.alloc ?_ ?_ _) | (with_reducible refine Below.drew ?_) | (with_reducible refine below_drewN ?_ _) | (with_reducible refine Below.trans ?_ (Below.mono (g2) ?_)) | (with_reducible refine Below.trans ?_ (Below.mono (hg) ?_)) | (with_reducible refine Below.trans ?_ (Below.mono (hg01) ?_)))); all_goals (first | omega | (simp; done) | (simp; omega) | (simp [*]; done) | (simp at *; omega)))⟩
end
end Go.Proofs.Ytpfijhcjempfjaa
