/- Contracts: the reference's IsHermite. -/
import Derived.Test.YtpfijhcjempfjaaLat2
namespace Go.Proofs.Ytpfijhcjempfjaa
open Go.RowKit

section
set_option maxHeartbeats 2000000
set_option maxRecDepth 2000
theorem not_in {x X : Int} (h : x < 0 ∨ X ≤ x) : inB x 0 (X - 1) = false := by rw [inB_no]; omega
theorem is_in {x X : Int} (h1 : ¬ x < 0) (h2 : ¬ X ≤ x) : inB x 0 (X - 1) = true := by rw [inB_iff]; omega
theorem sHer_c (r c : Int) (A : Option Addr) (l : List Int) (n cap : Nat) (w : World) (hn : l.length = n) (ha : Rd w A l) (hl : n ≤ 1099511627776) :
    Calls Try.prog 114 #[.agg #[.int .i64 r, .int .i64 c, .slice A n cap]] w fun e w' => e = .returned (.bool (isMat r c l && herB r.toNat c.toNat l)) ∧ Grows w w' := by
  have HS := fun w h => sIsMatrix_c r c A l n cap w hn h hl
  obtain ⟨w1, hw1⟩ : ∃ w1, w1 = w.alloc (.cells #[.int .i64 r, .int .i64 c, .slice A n cap] 26) := ⟨_, rfl⟩
  have mb1 : MBox w1 w.heap.size r c (.slice A n cap) := by rw [hw1]; exact MBox.mk_ _ _ _ _ _
  have g01 : Grows w w1 := by rw [hw1]; ((repeat' (first | with_reducible exact Below.refl _ _ | with_reducible assumption | (with_reducible refine Below.setCell ?_ ?_ _) | (with_reducible refine Below.alloc ?_ ?_ _) | (with_reducible refine Below.drew ?_) | (with_reducible refine below_drewN ?_ _))); all_goals (first | omega | (simp; done) | (simp; omega) | (simp [*]; done) | (simp at *; omega)))
  have HW1 := Lib.hid hw1
  have ha1 : Rd w1 A l := ha.grows g01
  clear hw1
  cases hq : isMat r c l
  · rw [hq] at HS
    have HS' := Lib.hid HS
    clear HS hq hn
    go_enter Try.func114, Try.ntmps114
    go_wp2_with fail
    go_loopw [3, 4] (fun q i wr => ∃ (I : Nat), i = .int .i64 I ∧ I = 0 ∧ q = .int .i64 (-1) ∧ Grows w1 wr) (fun _ _ _ => 0)
    case atStart => exact ⟨0, rfl, rfl, rfl, by rw [← HW1.out]; ((repeat' (first | with_reducible exact Below.refl _ _ | with_reducible assumption | (with_reducible refine Below.setCell ?_ ?_ _) | (with_reducible refine Below.alloc ?_ ?_ _) | (with_reducible refine Below.drew ?_) | (with_reducible refine below_drewN ?_ _))); all_goals (first | omega | (simp; done) | (simp; omega) | (simp [*]; done) | (simp at *; omega)))⟩
    case round =>
      obtain ⟨I, rfl, rfl, rfl, hg⟩ := hrel
      have hd := ha1.grows hg
      obtain ⟨b0, b1, b2⟩ := (mb1.grows hg).cells
      by_cases hr : 0 < r
      · go_wp2_with fail
        refine (HS'.out _ (by exact (Rd.grows hd (by ((repeat' (first | with_reducible exact Below.refl _ _ | with_reducible assumption | (with_reducible refine Below.setCell ?_ ?_ _) | (with_reducible refine Below.alloc ?_ ?_ _) | (with_reducible refine Below.drew ?_) | (with_reducible refine below_drewN ?_ _))); all_goals (first | omega | (simp; done) | (simp; omega) | (simp [*]; done) | (simp at *; omega))))))).mono ?_; rintro e w2 ⟨rfl, g2⟩
        have hd2 := hd.grows g2
        clear b0 b1 b2
        obtain ⟨b0, b1, b2⟩ := (mb1.grows (w' := w2) (by (have bz0 := Below.size (g2); (try simp at bz0); have bz1 := Below.size (hg); (try simp at bz1); (repeat' (first | with_reducible exact Below.refl _ _ | with_reducible assumption | (with_reducible refine Below.setCell ?_ ?_ _) | (with_reducible refine Below.alloc ?_ ?_ _) | (with_reducible refine Below.drew ?_) | (with_reducible refine below_drewN ?_ _) | (with_reducible refine Below.trans ?_ (Below.mono (g2) ?_)) | (with_reducible refine Below.trans ?_ (Below.mono (hg) ?_)))); all_goals (first | omega | (simp; done) | (simp; omega) | (simp [*]; done) | (simp at *; omega))))).cells
        go_wp2_with fail
        refine (HS'.out _ (by exact (Rd.grows hd2 (by ((repeat' (first | with_reducible exact Below.refl _ _ | with_reducible assumption | (with_reducible refine Below.setCell ?_ ?_ _) | (with_reducible refine Below.alloc ?_ ?_ _) | (with_reducible refine Below.drew ?_) | (with_reducible refine below_drewN ?_ _))); all_goals (first | omega | (simp; done) | (simp; omega) | (simp [*]; done) | (simp at *; omega))))))).mono ?_; rintro e w3 ⟨rfl, g3⟩
        go_wp2_with fail
        go_ret
        exact ⟨by simp, by (have bz0 := Below.size (g3); (try simp at bz0); have bz1 := Below.size (g2); (try simp at bz1); have bz2 := Below.size (hg); (try simp at bz2); have bz3 := Below.size (g01); (try simp at bz3); (repeat' (first | with_reducible exact Below.refl _ _ | with_reducible assumption | (with_reducible refine Below.setCell ?_ ?_ _) | (with_reducible refine Below.alloc ?_ ?_ _) | (with_reducible refine Below.drew ?_) | (with_reducible refine below_drewN ?_ _) | (with_reducible refine Below.trans ?_ (Below.mono (g3) ?_)) | (with_reducible refine Below.trans ?_ (Below.mono (g2) ?_)) | (with_reducible refine Below.trans ?_ (Below.mono (hg) ?_)) | (with_reducible refine Below.trans ?_ (Below.mono (g01) ?_)))); all_goals (first | omega | (simp; done) | (simp; omega) | (simp [*]; done) | (simp at *; omega)))⟩
      · go_wp2_with fail
        refine (HS'.out _ (by exact (Rd.grows hd (by ((repeat' (first | with_reducible exact Below.refl _ _ | with_reducible assumption | (with_reducible refine Below.setCell ?_ ?_ _) | (with_reducible refine Below.alloc ?_ ?_ _) | (with_reducible refine Below.drew ?_) | (with_reducible refine below_drewN ?_ _))); all_goals (first | omega | (simp; done) | (simp; omega) | (simp [*]; done) | (simp at *; omega))))))).mono ?_; rintro e w3 ⟨rfl, g3⟩
        go_wp2_with fail
        go_ret
        exact ⟨by simp, by (have bz0 := Below.size (g3); (try simp at bz0); have bz1 := Below.size (hg); (try simp at bz1); have bz2 := Below.size (g01); (try simp at bz2); (repeat' (first | with_reducible exact Below.refl _ _ | with_reducible assumption | (with_reducible refine Below.setCell ?_ ?_ _) | (with_reducible refine Below.alloc ?_ ?_ _) | (with_reducible refine Below.drew ?_) | (with_reducible refine below_drewN ?_ _) | (with_reducible refine Below.trans ?_ (Below.mono (g3) ?_)) | (with_reducible refine Below.trans ?_ (Below.mono (hg) ?_)) | (with_reducible refine Below.trans ?_ (Below.mono (g01) ?_)))); all_goals (first | omega | (simp; done) | (simp; omega) | (simp [*]; done) | (simp at *; omega)))⟩
  · obtain ⟨R, C, rfl, rfl, hR, hC, hlen, hnum⟩ := isMat_nat hq
    rw [hq] at HS
    have HS' := Lib.hid HS
    have HCE := Lib.hid fun (i : Nat) (hi : i < R) (hp : pv C l i < C) (j : Nat) (hij : i < j) (hj : j < R) (h : herB R C l = true) => her_cell hlen h hi hp hij hj
    simp only [Int.toNat_natCast]
    have HHB := Lib.hid (show (true && herB R C l) = (herF C l R).isSome from rfl)
    rw [show (true && herB R C l) = (herF C l R).isSome from rfl]
    have HN := Lib.hid hn
    have HLN := Lib.hid hlen
    have HPV := Lib.hid fun i hi => pv_le (i := i) hlen hi
    have HRC : R * C ≤ 576 := Nat.mul_le_mul hR hC
    have HB : ∀ i, i < R → i * C ≤ 576 := fun i hi => by have := Nat.mul_le_mul_right C (Nat.le_of_lt hi); omega
    have CC := Lib.hid fun (i : Nat) (hi : i < R) (j : Nat) (hj : j < C) W h => l12Cell_c R C A l n cap i j W hn h (castMul i C) (by have := castMulLe (HB i hi); omega) (castPos i C j) (castLt (by rw [hlen]; exact idx_lt hi hj)) (by rw [hlen]; omega)
    have HNE := Lib.hid fun i hi h => pv_ne (i := i) hlen hi h
    have HZE := Lib.hid fun i j (hj : j < C) h => pv_zero (l := l) (i := i) hj h
    have HXB := Lib.hid fun (i : Nat) (hi : i < R) (j : Nat) (hj : j < C) => (isNum_iff _).1 (hnum (i * C + j) (by rw [hlen]; exact idx_lt hi hj))
    clear HS hq hn hlen hnum HB
    go_enter Try.func114, Try.ntmps114
    go_wp2_with fail
    go_loopw [3, 4] (fun q i wr => ∃ (I : Nat) (last : Int), i = .int .i64 I ∧ I ≤ R ∧ q = .int .i64 last ∧ herF C l I = some last ∧ Grows w1 wr) (fun _ i _ => R - (intOf i).toNat)
    case atStart => exact ⟨0, -1, rfl, Nat.zero_le _, rfl, rfl, by rw [← HW1.out]; ((repeat' (first | with_reducible exact Below.refl _ _ | with_reducible assumption | (with_reducible refine Below.setCell ?_ ?_ _) | (with_reducible refine Below.alloc ?_ ?_ _) | (with_reducible refine Below.drew ?_) | (with_reducible refine below_drewN ?_ _))); all_goals (first | omega | (simp; done) | (simp; omega) | (simp [*]; done) | (simp at *; omega)))⟩
    case round =>
      obtain ⟨I, last, rfl, hI, rfl, hH, hg⟩ := hrel
      have HH := Lib.hid hH
      have hlb := herF_bd (fun j hj => HPV.out j (by omega)) hH
      clear hH
      obtain ⟨b0, b1, b2⟩ := (mb1.grows hg).cells
      have hd := ha1.grows hg
      by_cases hlt : I < R
      · have hpv := HPV.out I hlt
        go_wp2_with fail
        refine (HS'.out _ (by exact (Rd.grows hd (by ((repeat' (first | with_reducible exact Below.refl _ _ | with_reducible assumption | (with_reducible refine Below.setCell ?_ ?_ _) | (with_reducible refine Below.alloc ?_ ?_ _) | (with_reducible refine Below.drew ?_) | (with_reducible refine below_drewN ?_ _))); all_goals (first | omega | (simp; done) | (simp; omega) | (simp [*]; done) | (simp at *; omega))))))).mono ?_; rintro e w2 ⟨rfl, g2⟩
        have g12 : Grows w1 w2 := by (have bz0 := Below.size (g2); (try simp at bz0); have bz1 := Below.size (hg); (try simp at bz1); (repeat' (first | with_reducible exact Below.refl _ _ | with_reducible assumption | (with_reducible refine Below.setCell ?_ ?_ _) | (with_reducible refine Below.alloc ?_ ?_ _) | (with_reducible refine Below.drew ?_) | (with_reducible refine below_drewN ?_ _) | (with_reducible refine Below.trans ?_ (Below.mono (g2) ?_)) | (with_reducible refine Below.trans ?_ (Below.mono (hg) ?_)))); all_goals (first | omega | (simp; done) | (simp; omega) | (simp [*]; done) | (simp at *; omega)))
        clear b0 b1 b2 hd
        go_wp2_with fail
        obtain ⟨wo, rfl⟩ : ∃ wo : World, wo = wr := ⟨_, rfl⟩
        go_loopw [5] (fun p wr => ∃ (P : Nat), p = .int .i64 P ∧ P ≤ pv C l I ∧ Grows w1 wr) (fun p _ => pv C l I - (intOf p).toNat)
        case atStart => exact ⟨0, rfl, Nat.zero_le _, g12⟩
        case round =>
          clear g12 g2 hg
          obtain ⟨P, rfl, hP, hg⟩ := hrel
          obtain ⟨b0, b1, b2⟩ := (mb1.grows hg).cells
          have hd := ha1.grows hg
          by_cases hlt2 : P < pv C l I
          · have hz := HZE.out I P (by omega) hlt2
            have C1 := fun W h => CC.out I hlt P (by omega) W h
            rw [castIdx, hz] at C1
            have C1' := Lib.hid C1
            clear C1 hz
            have hPC : (P : Int) < (C : Int) := by omega
            go_wp2_with fail
            refine (C1'.out _ (by exact (Rd.grows hd (by ((repeat' (first | with_reducible exact Below.refl _ _ | with_reducible assumption | (with_reducible refine Below.setCell ?_ ?_ _) | (with_reducible refine Below.alloc ?_ ?_ _) | (with_reducible refine Below.drew ?_) | (with_reducible refine below_drewN ?_ _))); all_goals (first | omega | (simp; done) | (simp; omega) | (simp [*]; done) | (simp at *; omega))))))).mono ?_; rintro e w3 ⟨rfl, g3⟩
            go_wp2_with fail
            go_round
            case rel => exact ⟨P + 1, by go_num, by omega, by (have bz0 := Below.size (g3); (try simp at bz0); have bz1 := Below.size (hg); (try simp at bz1); (repeat' (first | with_reducible exact Below.refl _ _ | with_reducible assumption | (with_reducible refine Below.setCell ?_ ?_ _) | (with_reducible refine Below.alloc ?_ ?_ _) | (with_reducible refine Below.drew ?_) | (with_reducible refine below_drewN ?_ _) | (with_reducible refine Below.trans ?_ (Below.mono (g3) ?_)) | (with_reducible refine Below.trans ?_ (Below.mono (hg) ?_)))); all_goals (first | omega | (simp; done) | (simp; omega) | (simp [*]; done) | (simp at *; omega)))⟩
            case measure => simp [intOf]; omega
          · have hPP : P = pv C l I := by omega
            have HPP := Lib.hid hPP
            by_cases hz : P = C
            · have hPC : ¬ ((P : Int) < (C : Int)) := by omega
              have F := Lib.hid (herF_zero HH.out (by omega : pv C l I = C))
              have hR0 : (0 : Int) < (R : Int) := by omega
              clear hPP
              go_wp2_with fail
              obtain ⟨wo2, rfl⟩ : ∃ wo : World, wo = wr := ⟨_, rfl⟩
              have HZ := Lib.hid hz
              clear hz
              go_loopw [6] (fun k wr => ∃ K : Nat, k = .int .i64 K ∧ K < R ∧ Grows w1 wr) (fun _ _ => 0)
              case atStart => exact ⟨0, rfl, by omega, hg⟩
              case round =>
                clear hg b0 b1 b2
                obtain ⟨K, rfl, hKR, hg⟩ := hrel
                obtain ⟨b0, b1, b2⟩ := (mb1.grows hg).cells
                go_wp2_with fail
                go_round
                case rel => exact ⟨I + 1, _, by go_num, by omega, rfl, (by have := HZ.out; first | exact F.out | (rw [this]; exact F.out)), hg⟩
                case measure => simp [intOf]; omega
            · have hPC : (P : Int) < (C : Int) := by omega
              have hne := HNE.out I hlt (by omega)
              have FB := fun hb => herF_bad HH.out (by omega : pv C l I ≠ C) hb
              have FG := fun h1 h2 h3 => herF_good HH.out (by omega : pv C l I ≠ C) h1 h2 h3
              have HCI := fun j hij hj (h : herB R C l = true) => HCE.out I hlt (by omega) j hij hj h
              rw [← hPP] at FB FG hne HCI
              have HAT := Lib.hid fun k (hk : k < I) h => upB_at (C := C) (l := l) (i := I) (p := P) hk h
              have HUS := Lib.hid fun k => upB_succ C l I P k
              have FB' := Lib.hid FB
              have FG' := Lib.hid FG
              have HCI' := Lib.hid HCI
              have C1 := fun W h => CC.out I hlt P (by omega) W h
              have CKQ := Lib.hid fun (k : Nat) (hk : k < R) => CC.out k hk P (by omega)
              rw [castIdx] at C1
              have HPL : P < C := by omega
              have hxb := HXB.out I hlt P HPL
              clear FB FG HCI hPP
              generalize hX : nth l (I * C + P) = X at *
              have HX := Lib.hid hX
              clear hX
              have C1' := Lib.hid C1
              clear C1
              by_cases h1 : (P : Int) ≤ last
              · have FD := Lib.hid (herF_none (k := R) (FB'.out (.inl h1)) (by omega))
                by_cases hlC : last = (C : Int)
                · subst hlC
                  go_wp2_with fail
                  refine (C1'.out _ (by exact (Rd.grows hd (by ((repeat' (first | with_reducible exact Below.refl _ _ | with_reducible assumption | (with_reducible refine Below.setCell ?_ ?_ _) | (with_reducible refine Below.alloc ?_ ?_ _) | (with_reducible refine Below.drew ?_) | (with_reducible refine below_drewN ?_ _))); all_goals (first | omega | (simp; done) | (simp; omega) | (simp [*]; done) | (simp at *; omega))))))).mono ?_; rintro e w3 ⟨rfl, g3⟩
                  clear b0 b1 b2
                  obtain ⟨b0, b1, b2⟩ := (mb1.grows (w' := w3) (by (have bz0 := Below.size (g3); (try simp at bz0); have bz1 := Below.size (hg); (try simp at bz1); (repeat' (first | with_reducible exact Below.refl _ _ | with_reducible assumption | (with_reducible refine Below.setCell ?_ ?_ _) | (with_reducible refine Below.alloc ?_ ?_ _) | (with_reducible refine Below.drew ?_) | (with_reducible refine below_drewN ?_ _) | (with_reducible refine Below.trans ?_ (Below.mono (g3) ?_)) | (with_reducible refine Below.trans ?_ (Below.mono (hg) ?_)))); all_goals (first | omega | (simp; done) | (simp; omega) | (simp [*]; done) | (simp at *; omega))))).cells
                  go_wp2_with fail
                  go_ret
                  exact ⟨ret_bool (by rw [FD.out]; rfl), by (have bz0 := Below.size (g3); (try simp at bz0); have bz1 := Below.size (hg); (try simp at bz1); have bz2 := Below.size (g01); (try simp at bz2); (repeat' (first | with_reducible exact Below.refl _ _ | with_reducible assumption | (with_reducible refine Below.setCell ?_ ?_ _) | (with_reducible refine Below.alloc ?_ ?_ _) | (with_reducible refine Below.drew ?_) | (with_reducible refine below_drewN ?_ _) | (with_reducible refine Below.trans ?_ (Below.mono (g3) ?_)) | (with_reducible refine Below.trans ?_ (Below.mono (hg) ?_)) | (with_reducible refine Below.trans ?_ (Below.mono (g01) ?_)))); all_goals (first | omega | (simp; done) | (simp; omega) | (simp [*]; done) | (simp at *; omega)))⟩
                · go_wp2_with fail
                  refine (C1'.out _ (by exact (Rd.grows hd (by ((repeat' (first | with_reducible exact Below.refl _ _ | with_reducible assumption | (with_reducible refine Below.setCell ?_ ?_ _) | (with_reducible refine Below.alloc ?_ ?_ _) | (with_reducible refine Below.drew ?_) | (with_reducible refine below_drewN ?_ _))); all_goals (first | omega | (simp; done) | (simp; omega) | (simp [*]; done) | (simp at *; omega))))))).mono ?_; rintro e w3 ⟨rfl, g3⟩
                  clear b0 b1 b2
                  obtain ⟨b0, b1, b2⟩ := (mb1.grows (w' := w3) (by (have bz0 := Below.size (g3); (try simp at bz0); have bz1 := Below.size (hg); (try simp at bz1); (repeat' (first | with_reducible exact Below.refl _ _ | with_reducible assumption | (with_reducible refine Below.setCell ?_ ?_ _) | (with_reducible refine Below.alloc ?_ ?_ _) | (with_reducible refine Below.drew ?_) | (with_reducible refine below_drewN ?_ _) | (with_reducible refine Below.trans ?_ (Below.mono (g3) ?_)) | (with_reducible refine Below.trans ?_ (Below.mono (hg) ?_)))); all_goals (first | omega | (simp; done) | (simp; omega) | (simp [*]; done) | (simp at *; omega))))).cells
                  go_wp2_with fail
                  go_ret
                  exact ⟨ret_bool (by rw [FD.out]; rfl), by (have bz0 := Below.size (g3); (try simp at bz0); have bz1 := Below.size (hg); (try simp at bz1); have bz2 := Below.size (g01); (try simp at bz2); (repeat' (first | with_reducible exact Below.refl _ _ | with_reducible assumption | (with_reducible refine Below.setCell ?_ ?_ _) | (with_reducible refine Below.alloc ?_ ?_ _) | (with_reducible refine Below.drew ?_) | (with_reducible refine below_drewN ?_ _) | (with_reducible refine Below.trans ?_ (Below.mono (g3) ?_)) | (with_reducible refine Below.trans ?_ (Below.mono (hg) ?_)) | (with_reducible refine Below.trans ?_ (Below.mono (g01) ?_)))); all_goals (first | omega | (simp; done) | (simp; omega) | (simp [*]; done) | (simp at *; omega)))⟩
              · have hlC : ¬ last = (C : Int) := by omega
                have hl1 : (last == (C : Int)) = false := by simpa using hlC
                have hl2 : decide ((P : Int) ≤ last) = false := by simpa using h1
                have hl3 : (last == (C : Int) || decide ((P : Int) ≤ last)) = false := by rw [hl1, hl2]; rfl
                have hd' := hd
                by_cases h2 : X < 0
                · have FD := Lib.hid (herF_none (k := R) (FB'.out (.inr (.inl h2))) (by omega))
                  go_wp2_with fail
                  refine (C1'.out _ (by exact (Rd.grows hd (by ((repeat' (first | with_reducible exact Below.refl _ _ | with_reducible assumption | (with_reducible refine Below.setCell ?_ ?_ _) | (with_reducible refine Below.alloc ?_ ?_ _) | (with_reducible refine Below.drew ?_) | (with_reducible refine below_drewN ?_ _))); all_goals (first | omega | (simp; done) | (simp; omega) | (simp [*]; done) | (simp at *; omega))))))).mono ?_; rintro e w3 ⟨rfl, g3⟩
                  clear b0 b1 b2
                  obtain ⟨b0, b1, b2⟩ := (mb1.grows (w' := w3) (by (have bz0 := Below.size (g3); (try simp at bz0); have bz1 := Below.size (hg); (try simp at bz1); (repeat' (first | with_reducible exact Below.refl _ _ | with_reducible assumption | (with_reducible refine Below.setCell ?_ ?_ _) | (with_reducible refine Below.alloc ?_ ?_ _) | (with_reducible refine Below.drew ?_) | (with_reducible refine below_drewN ?_ _) | (with_reducible refine Below.trans ?_ (Below.mono (g3) ?_)) | (with_reducible refine Below.trans ?_ (Below.mono (hg) ?_)))); all_goals (first | omega | (simp; done) | (simp; omega) | (simp [*]; done) | (simp at *; omega))))).cells
                  go_wp2_with fail
                  refine (C1'.out _ (by exact (Rd.grows hd' (by (have bz0 := Below.size (g3); (try simp at bz0); (repeat' (first | with_reducible exact Below.refl _ _ | with_reducible assumption | (with_reducible refine Below.setCell ?_ ?_ _) | (with_reducible refine Below.alloc ?_ ?_ _) | (with_reducible refine Below.drew ?_) | (with_reducible refine below_drewN ?_ _) | (with_reducible refine Below.trans ?_ (Below.mono (g3) ?_)))); all_goals (first | omega | (simp; done) | (simp; omega) | (simp [*]; done) | (simp at *; omega))))))).mono ?_; rintro e w4 ⟨rfl, g4⟩
                  go_wp2_with fail
                  go_ret
                  exact ⟨ret_bool (by rw [FD.out]; rfl), by (have bz0 := Below.size (g4); (try simp at bz0); have bz1 := Below.size (g3); (try simp at bz1); have bz2 := Below.size (hg); (try simp at bz2); have bz3 := Below.size (g01); (try simp at bz3); (repeat' (first | with_reducible exact Below.refl _ _ | with_reducible assumption | (with_reducible refine Below.setCell ?_ ?_ _) | (with_reducible refine Below.alloc ?_ ?_ _) | (with_reducible refine Below.drew ?_) | (with_reducible refine below_drewN ?_ _) | (with_reducible refine Below.trans ?_ (Below.mono (g4) ?_)) | (with_reducible refine Below.trans ?_ (Below.mono (g3) ?_)) | (with_reducible refine Below.trans ?_ (Below.mono (hg) ?_)) | (with_reducible refine Below.trans ?_ (Below.mono (g01) ?_)))); all_goals (first | omega | (simp; done) | (simp; omega) | (simp [*]; done) | (simp at *; omega)))⟩
                · have hXP : 0 < X := by omega
                  go_wp2_with fail
                  refine (C1'.out _ (by exact (Rd.grows hd (by ((repeat' (first | with_reducible exact Below.refl _ _ | with_reducible assumption | (with_reducible refine Below.setCell ?_ ?_ _) | (with_reducible refine Below.alloc ?_ ?_ _) | (with_reducible refine Below.drew ?_) | (with_reducible refine below_drewN ?_ _))); all_goals (first | omega | (simp; done) | (simp; omega) | (simp [*]; done) | (simp at *; omega))))))).mono ?_; rintro e w3 ⟨rfl, g3⟩
                  clear b0 b1 b2
                  obtain ⟨b0, b1, b2⟩ := (mb1.grows (w' := w3) (by (have bz0 := Below.size (g3); (try simp at bz0); have bz1 := Below.size (hg); (try simp at bz1); (repeat' (first | with_reducible exact Below.refl _ _ | with_reducible assumption | (with_reducible refine Below.setCell ?_ ?_ _) | (with_reducible refine Below.alloc ?_ ?_ _) | (with_reducible refine Below.drew ?_) | (with_reducible refine below_drewN ?_ _) | (with_reducible refine Below.trans ?_ (Below.mono (g3) ?_)) | (with_reducible refine Below.trans ?_ (Below.mono (hg) ?_)))); all_goals (first | omega | (simp; done) | (simp; omega) | (simp [*]; done) | (simp at *; omega))))).cells
                  go_wp2_with fail
                  refine (C1'.out _ (by exact (Rd.grows hd' (by (have bz0 := Below.size (g3); (try simp at bz0); (repeat' (first | with_reducible exact Below.refl _ _ | with_reducible assumption | (with_reducible refine Below.setCell ?_ ?_ _) | (with_reducible refine Below.alloc ?_ ?_ _) | (with_reducible refine Below.drew ?_) | (with_reducible refine below_drewN ?_ _) | (with_reducible refine Below.trans ?_ (Below.mono (g3) ?_)))); all_goals (first | omega | (simp; done) | (simp; omega) | (simp [*]; done) | (simp at *; omega))))))).mono ?_; rintro e w4 ⟨rfl, g4⟩
                  have g14 : Grows w1 w4 := by (have bz0 := Below.size (g4); (try simp at bz0); have bz1 := Below.size (g3); (try simp at bz1); have bz2 := Below.size (hg); (try simp at bz2); (repeat' (first | with_reducible exact Below.refl _ _ | with_reducible assumption | (with_reducible refine Below.setCell ?_ ?_ _) | (with_reducible refine Below.alloc ?_ ?_ _) | (with_reducible refine Below.drew ?_) | (with_reducible refine below_drewN ?_ _) | (with_reducible refine Below.trans ?_ (Below.mono (g4) ?_)) | (with_reducible refine Below.trans ?_ (Below.mono (g3) ?_)) | (with_reducible refine Below.trans ?_ (Below.mono (hg) ?_)))); all_goals (first | omega | (simp; done) | (simp; omega) | (simp [*]; done) | (simp at *; omega)))
                  clear b0 b1 b2 g3 g4 hg hd hd'
                  go_wp2_with fail
                  obtain ⟨wo2, rfl⟩ : ∃ wo : World, wo = wr := ⟨_, rfl⟩
                  go_loopw [6] (fun k wr => ∃ (K : Nat), k = .int .i64 K ∧ K ≤ R ∧ upB C l I P (min K I) = false ∧ Grows w1 wr) (fun k _ => R - (intOf k).toNat)
                  case atStart => exact ⟨0, rfl, Nat.zero_le _, by simp [upB], g14⟩
                  case round =>
                    clear g14
                    obtain ⟨K, rfl, hK, hup, hg⟩ := hrel
                    have HUP := Lib.hid hup
                    clear hup
                    obtain ⟨b0, b1, b2⟩ := (mb1.grows hg).cells
                    have hd := ha1.grows hg
                    by_cases hlt3 : K < R
                    · have CKK := fun W h => CKQ.out K hlt3 W h
                      rw [castIdx] at CKK
                      have HAK := Lib.hid (HAT.out K)
                      have HSK := Lib.hid (HUS.out K)
                      have HCK := Lib.hid (HCI'.out K)
                      have hKI : K = I → nth l (K * C + P) = X := fun e => by rw [e]; exact HX.out
                      have HKI := Lib.hid hKI
                      clear hKI
                      generalize nth l (K * C + P) = y at *
                      have CKK' := Lib.hid CKK
                      clear CKK
                      rcases Nat.lt_trichotomy K I with hki | hki | hki
                      · have hki' : (K : Int) < (I : Int) := by omega
                        by_cases hy : y < 0 ∨ X ≤ y
                        · have FD := Lib.hid (herF_none (k := R) (FB'.out (.inr (.inr (HAK.out hki hy)))) (by omega))
                          have hin := not_in hy
                          have L1 := fun W => l1In_c y 0 (X - 1) W
                          rw [hin] at L1
                          have L1' := Lib.hid L1
                          clear L1 hy
                          go_wp2_with fail
                          refine (CKK'.out _ (by exact (Rd.grows hd (by ((repeat' (first | with_reducible exact Below.refl _ _ | with_reducible assumption | (with_reducible refine Below.setCell ?_ ?_ _) | (with_reducible refine Below.alloc ?_ ?_ _) | (with_reducible refine Below.drew ?_) | (with_reducible refine below_drewN ?_ _))); all_goals (first | omega | (simp; done) | (simp; omega) | (simp [*]; done) | (simp at *; omega))))))).mono ?_; rintro e w5 ⟨rfl, g5⟩
                          clear b0 b1 b2
                          obtain ⟨b0, b1, b2⟩ := (mb1.grows (w' := w5) (by (have bz0 := Below.size (g5); (try simp at bz0); have bz1 := Below.size (hg); (try simp at bz1); (repeat' (first | with_reducible exact Below.refl _ _ | with_reducible assumption | (with_reducible refine Below.setCell ?_ ?_ _) | (with_reducible refine Below.alloc ?_ ?_ _) | (with_reducible refine Below.drew ?_) | (with_reducible refine below_drewN ?_ _) | (with_reducible refine Below.trans ?_ (Below.mono (g5) ?_)) | (with_reducible refine Below.trans ?_ (Below.mono (hg) ?_)))); all_goals (first | omega | (simp; done) | (simp; omega) | (simp [*]; done) | (simp at *; omega))))).cells
                          go_wp2_with fail
                          refine (C1'.out _ (by exact (Rd.grows hd (by (have bz0 := Below.size (g5); (try simp at bz0); (repeat' (first | with_reducible exact Below.refl _ _ | with_reducible assumption | (with_reducible refine Below.setCell ?_ ?_ _) | (with_reducible refine Below.alloc ?_ ?_ _) | (with_reducible refine Below.drew ?_) | (with_reducible refine below_drewN ?_ _) | (with_reducible refine Below.trans ?_ (Below.mono (g5) ?_)))); all_goals (first | omega | (simp; done) | (simp; omega) | (simp [*]; done) | (simp at *; omega))))))).mono ?_; rintro e w6 ⟨rfl, g6⟩
                          go_wp2_with fail
                          refine (L1'.out _).mono ?_; rintro e w' ⟨rfl, rfl⟩
                          go_wp2_with fail
                          go_ret
                          exact ⟨ret_bool (by rw [FD.out]; rfl), by (have bz0 := Below.size (g6); (try simp at bz0); have bz1 := Below.size (g5); (try simp at bz1); have bz2 := Below.size (hg); (try simp at bz2); have bz3 := Below.size (g01); (try simp at bz3); (repeat' (first | with_reducible exact Below.refl _ _ | with_reducible assumption | (with_reducible refine Below.setCell ?_ ?_ _) | (with_reducible refine Below.alloc ?_ ?_ _) | (with_reducible refine Below.drew ?_) | (with_reducible refine below_drewN ?_ _) | (with_reducible refine Below.trans ?_ (Below.mono (g6) ?_)) | (with_reducible refine Below.trans ?_ (Below.mono (g5) ?_)) | (with_reducible refine Below.trans ?_ (Below.mono (hg) ?_)) | (with_reducible refine Below.trans ?_ (Below.mono (g01) ?_)))); all_goals (first | omega | (simp; done) | (simp; omega) | (simp [*]; done) | (simp at *; omega)))⟩
                        · simp only [not_or] at hy
                          have HNX := Lib.hid (show upB C l I P (min (K + 1) I) = false by
                            have := HUP.out
                            rw [Nat.min_eq_left (by omega)] at this ⊢
                            rw [HSK.out, this]; simp; omega)
                          have hin := is_in hy.1 hy.2
                          have L1 := fun W => l1In_c y 0 (X - 1) W
                          rw [hin] at L1
                          have L1' := Lib.hid L1
                          clear L1 hy
                          have hki2 : ¬ (I : Int) < (K : Int) := by omega
                          go_wp2_with fail
                          refine (CKK'.out _ (by exact (Rd.grows hd (by ((repeat' (first | with_reducible exact Below.refl _ _ | with_reducible assumption | (with_reducible refine Below.setCell ?_ ?_ _) | (with_reducible refine Below.alloc ?_ ?_ _) | (with_reducible refine Below.drew ?_) | (with_reducible refine below_drewN ?_ _))); all_goals (first | omega | (simp; done) | (simp; omega) | (simp [*]; done) | (simp at *; omega))))))).mono ?_; rintro e w5 ⟨rfl, g5⟩
                          clear b0 b1 b2
                          obtain ⟨b0, b1, b2⟩ := (mb1.grows (w' := w5) (by (have bz0 := Below.size (g5); (try simp at bz0); have bz1 := Below.size (hg); (try simp at bz1); (repeat' (first | with_reducible exact Below.refl _ _ | with_reducible assumption | (with_reducible refine Below.setCell ?_ ?_ _) | (with_reducible refine Below.alloc ?_ ?_ _) | (with_reducible refine Below.drew ?_) | (with_reducible refine below_drewN ?_ _) | (with_reducible refine Below.trans ?_ (Below.mono (g5) ?_)) | (with_reducible refine Below.trans ?_ (Below.mono (hg) ?_)))); all_goals (first | omega | (simp; done) | (simp; omega) | (simp [*]; done) | (simp at *; omega))))).cells
                          go_wp2_with fail
                          refine (C1'.out _ (by exact (Rd.grows hd (by (have bz0 := Below.size (g5); (try simp at bz0); (repeat' (first | with_reducible exact Below.refl _ _ | with_reducible assumption | (with_reducible refine Below.setCell ?_ ?_ _) | (with_reducible refine Below.alloc ?_ ?_ _) | (with_reducible refine Below.drew ?_) | (with_reducible refine below_drewN ?_ _) | (with_reducible refine Below.trans ?_ (Below.mono (g5) ?_)))); all_goals (first | omega | (simp; done) | (simp; omega) | (simp [*]; done) | (simp at *; omega))))))).mono ?_; rintro e w6 ⟨rfl, g6⟩
                          go_wp2_with fail
                          refine (L1'.out _).mono ?_; rintro e w' ⟨rfl, rfl⟩
                          go_wp2_with fail
                          go_round
                          case rel => exact ⟨K + 1, by go_num, by omega, HNX.out, by (have bz0 := Below.size (g6); (try simp at bz0); have bz1 := Below.size (g5); (try simp at bz1); have bz2 := Below.size (hg); (try simp at bz2); (repeat' (first | with_reducible exact Below.refl _ _ | with_reducible assumption | (with_reducible refine Below.setCell ?_ ?_ _) | (with_reducible refine Below.alloc ?_ ?_ _) | (with_reducible refine Below.drew ?_) | (with_reducible refine below_drewN ?_ _) | (with_reducible refine Below.trans ?_ (Below.mono (g6) ?_)) | (with_reducible refine Below.trans ?_ (Below.mono (g5) ?_)) | (with_reducible refine Below.trans ?_ (Below.mono (hg) ?_)))); all_goals (first | omega | (simp; done) | (simp; omega) | (simp [*]; done) | (simp at *; omega)))⟩
                          case measure => simp [intOf]; omega
                      · subst hki
                        have HNX := Lib.hid (show upB C l K P (min (K + 1) K) = false by
                          have := HUP.out
                          rw [Nat.min_eq_right (by omega)] at this ⊢
                          exact this)
                        go_wp2_with fail
                        refine (CKK'.out _ (by exact (Rd.grows hd (by ((repeat' (first | with_reducible exact Below.refl _ _ | with_reducible assumption | (with_reducible refine Below.setCell ?_ ?_ _) | (with_reducible refine Below.alloc ?_ ?_ _) | (with_reducible refine Below.drew ?_) | (with_reducible refine below_drewN ?_ _))); all_goals (first | omega | (simp; done) | (simp; omega) | (simp [*]; done) | (simp at *; omega))))))).mono ?_; rintro e w5 ⟨rfl, g5⟩
                        go_wp2_with fail
                        go_round
                        case rel => exact ⟨K + 1, by go_num, by omega, HNX.out, by (have bz0 := Below.size (g5); (try simp at bz0); have bz1 := Below.size (hg); (try simp at bz1); (repeat' (first | with_reducible exact Below.refl _ _ | with_reducible assumption | (with_reducible refine Below.setCell ?_ ?_ _) | (with_reducible refine Below.alloc ?_ ?_ _) | (with_reducible refine Below.drew ?_) | (with_reducible refine below_drewN ?_ _) | (with_reducible refine Below.trans ?_ (Below.mono (g5) ?_)) | (with_reducible refine Below.trans ?_ (Below.mono (hg) ?_)))); all_goals (first | omega | (simp; done) | (simp; omega) | (simp [*]; done) | (simp at *; omega)))⟩
                        case measure => simp [intOf]; omega
                      · have hki1 : ¬ (K : Int) < (I : Int) := by omega
                        have hki2 : (I : Int) < (K : Int) := by omega
                        by_cases hy : y = 0
                        · have HNX := Lib.hid (show upB C l I P (min (K + 1) I) = false by
                            have := HUP.out
                            rw [Nat.min_eq_right (by omega)] at this ⊢
                            exact this)
                          subst hy
                          go_wp2_with fail
                          refine (CKK'.out _ (by exact (Rd.grows hd (by ((repeat' (first | with_reducible exact Below.refl _ _ | with_reducible assumption | (with_reducible refine Below.setCell ?_ ?_ _) | (with_reducible refine Below.alloc ?_ ?_ _) | (with_reducible refine Below.drew ?_) | (with_reducible refine below_drewN ?_ _))); all_goals (first | omega | (simp; done) | (simp; omega) | (simp [*]; done) | (simp at *; omega))))))).mono ?_; rintro e w5 ⟨rfl, g5⟩
                          go_wp2_with fail
                          go_round
                          case rel => exact ⟨K + 1, by go_num, by omega, HNX.out, by (have bz0 := Below.size (g5); (try simp at bz0); have bz1 := Below.size (hg); (try simp at bz1); (repeat' (first | with_reducible exact Below.refl _ _ | with_reducible assumption | (with_reducible refine Below.setCell ?_ ?_ _) | (with_reducible refine Below.alloc ?_ ?_ _) | (with_reducible refine Below.drew ?_) | (with_reducible refine below_drewN ?_ _) | (with_reducible refine Below.trans ?_ (Below.mono (g5) ?_)) | (with_reducible refine Below.trans ?_ (Below.mono (hg) ?_)))); all_goals (first | omega | (simp; done) | (simp; omega) | (simp [*]; done) | (simp at *; omega)))⟩
                          case measure => simp [intOf]; omega
                        · have FD := Lib.hid (show herF C l R = none by
                            cases e : herF C l R with
                            | none => rfl
                            | some x => exact absurd (HCK.out hki hlt3 (by unfold herB; rw [e]; rfl)) hy)
                          go_wp2_with fail
                          refine (CKK'.out _ (by exact (Rd.grows hd (by ((repeat' (first | with_reducible exact Below.refl _ _ | with_reducible assumption | (with_reducible refine Below.setCell ?_ ?_ _) | (with_reducible refine Below.alloc ?_ ?_ _) | (with_reducible refine Below.drew ?_) | (with_reducible refine below_drewN ?_ _))); all_goals (first | omega | (simp; done) | (simp; omega) | (simp [*]; done) | (simp at *; omega))))))).mono ?_; rintro e w5 ⟨rfl, g5⟩
                          go_wp2_with fail
                          go_ret
                          exact ⟨ret_bool (by rw [FD.out]; rfl), by (have bz0 := Below.size (g5); (try simp at bz0); have bz1 := Below.size (hg); (try simp at bz1); have bz2 := Below.size (g01); (try simp at bz2); (repeat' (first | with_reducible exact Below.refl _ _ | with_reducible assumption | (with_reducible refine Below.setCell ?_ ?_ _) | (with_reducible refine Below.alloc ?_ ?_ _) | (with_reducible refine Below.drew ?_) | (with_reducible refine below_drewN ?_ _) | (with_reducible refine Below.trans ?_ (Below.mono (g5) ?_)) | (with_reducible refine Below.trans ?_ (Below.mono (hg) ?_)) | (with_reducible refine Below.trans ?_ (Below.mono (g01) ?_)))); all_goals (first | omega | (simp; done) | (simp; omega) | (simp [*]; done) | (simp at *; omega)))⟩
                    · obtain rfl : K = R := by omega
                      have hup2 : upB C l I P I = false := by have := HUP.out; rw [Nat.min_eq_right (by omega)] at this; exact this
                      have FD := Lib.hid (FG'.out h1 h2 hup2)
                      have HPQ := Lib.hid HPP.out
                      go_wp2_with fail
                      go_round
                      case rel => exact ⟨I + 1, (P : Int), by go_num, by omega, rfl, FD.out, hg⟩
                      case measure => simp [intOf]; omega
      · obtain rfl : I = R := by omega
        go_wp2_with fail
        refine (HS'.out _ (by exact (Rd.grows hd (by ((repeat' (first | with_reducible exact Below.refl _ _ | with_reducible assumption | (with_reducible refine Below.setCell ?_ ?_ _) | (with_reducible refine Below.alloc ?_ ?_ _) | (with_reducible refine Below.drew ?_) | (with_reducible refine below_drewN ?_ _))); all_goals (first | omega | (simp; done) | (simp; omega) | (simp [*]; done) | (simp at *; omega))))))).mono ?_; rintro e w2 ⟨rfl, g2⟩
        go_wp2_with fail
        go_ret
        exact ⟨ret_bool (by rw [HH.out]; rfl), by (have bz0 := Below.size (g2); (try simp at bz0); have bz1 := Below.size (hg); (try simp at bz1); have bz2 := Below.size (g01); (try simp at bz2); (repeat' (first | with_reducible exact Below.refl _ _ | with_reducible assumption | (with_reducible refine Below.setCell ?_ ?_ _) | (with_reducible refine Below.alloc ?_ ?_ _) | (with_reducible refine Below.drew ?_) | (with_reducible refine below_drewN ?_ _) | (with_reducible refine Below.trans ?_ (Below.mono (g2) ?_)) | (with_reducible refine Below.trans ?_ (Below.mono (hg) ?_)) | (with_reducible refine Below.trans ?_ (Below.mono (g01) ?_)))); all_goals (first | omega | (simp; done) | (simp; omega) | (simp [*]; done) | (simp at *; omega)))⟩
end
end Go.Proofs.Ytpfijhcjempfjaa
