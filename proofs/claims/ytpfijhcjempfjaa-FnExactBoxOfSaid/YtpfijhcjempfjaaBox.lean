/- Contracts: BoxOf. -/
import Derived.Test.YtpfijhcjempfjaaAdj
namespace Go.Proofs.Ytpfijhcjempfjaa
open Go.RowKit

/-! ### plain -/
def bxP (a : List Int) (R : Nat) (d b : Int) : Nat → Option (List Int)
  | 0 => some []
  | k + 1 => (bxP a R d b k).bind fun s => if isNum (b * nth a (k * R + k)) then some (s ++ [rootI ((b * nth a (k * R + k)).tdiv d)]) else none
theorem bxP_none {a : List Int} {R : Nat} {d b : Int} {j k : Nat} (h : bxP a R d b j = none) (hk : j ≤ k) : bxP a R d b k = none := by
  induction k with
  | zero => rw [show j = 0 by omega] at h; exact h
  | succ k ih =>
    by_cases e : j = k + 1
    · rw [← e]; exact h
    · rw [bxP, ih (by omega)]; rfl
theorem bxP_fail {a s : List Int} {R : Nat} {d b : Int} {k : Nat} (h : bxP a R d b k = some s) (hx : isNum (b * nth a (k * R + k)) = false) : bxP a R d b (k + 1) = none := by rw [bxP, h]; simp [hx]
theorem bxP_some {a s : List Int} {R : Nat} {d b : Int} {k : Nat} (h : bxP a R d b k = some s) (hx : isNum (b * nth a (k * R + k)) = true) : bxP a R d b (k + 1) = some (s ++ [rootI ((b * nth a (k * R + k)).tdiv d)]) := by rw [bxP, h]; simp [hx]
theorem bxP_length {a s : List Int} {R : Nat} {d b : Int} {k : Nat} (h : bxP a R d b k = some s) : s.length = k := by
  induction k generalizing s with
  | zero => cases h; rfl
  | succ k ih =>
    rw [bxP] at h
    obtain ⟨s', h1, h2⟩ := Option.bind_eq_some_iff.1 h
    split at h2
    · cases h2; simp [ih h1]
    · cases h2
/-- bounds for the cells of short vectors -/
def boxO (m : MX) (b : Int) : Option (List Int) := if (adjO m).isSome && (isDef m.r m.c m.l && inB b 0 10000) then bxP (oM (adjO m)).l m.r.toNat ((dtO m).getD 0) b m.r.toNat else none
theorem boxO_length {m : MX} {b : Int} {s : List Int} (h : boxO m b = some s) : s.length ≤ 6 := by
  unfold boxO at h
  split at h
  · rename_i hh
    simp only [Bool.and_eq_true] at hh
    obtain ⟨_, R, e1, _, hR, _⟩ := isSq_nat (isDef_sq hh.2.1)
    rw [bxP_length h, e1]
    simpa using hR
  · cases h
theorem tdiv_bd {x d : Int} (hx : isNum x = true) (_hd : 0 < d) : -400000000 ≤ x.tdiv d ∧ x.tdiv d ≤ 400000000 := by
  have := (isNum_iff _).1 hx
  have h : (x.tdiv d).natAbs ≤ x.natAbs := by rw [Int.natAbs_tdiv]; exact Nat.div_le_self _ _
  omega

section
set_option maxHeartbeats 1000000
theorem iBox_c (r c b : Int) (A : Option Addr) (l : List Int) (n cap : Nat) (w : World) (hn : l.length = n) (hcap : n ≤ cap) (hcap2 : cap ≤ 9223372036854775807) (ha : Rd w A l) (hl : n ≤ 1099511627776) :
    Calls Try.prog 29 #[.agg #[.int .i64 r, .int .i64 c, .slice A n cap], .int .i64 b] w fun e w' => ∃ v, e = .returned (.tuple #[v, .bool (boxO ⟨r, c, l⟩ b).isSome]) ∧ Own w' w.heap.size v (oL (boxO ⟨r, c, l⟩ b)) ∧ Grows w w' := by
  have HA := Lib.hid fun W h => iAdj_c r c A l n cap W hn h hl
  have HD := Lib.hid fun W h => iDt_c r c A l n cap W hn h hl
  have HI := fun W h => iIsDef_c r c A l n cap W hn hcap hcap2 h hl
  obtain ⟨RES, hRES⟩ : ∃ x, x = boxO ⟨r, c, l⟩ b := ⟨_, rfl⟩
  rw [← hRES]
  unfold boxO at hRES
  simp only at hRES
  have hal : (oM (adjO ⟨r, c, l⟩)).l.length ≤ 576 := oM_length fun _ h => adjO_ok h
  have hsome : isDef r c l = true → ∃ d, dtO ⟨r, c, l⟩ = some d ∧ 0 < d := fun h => isDef_det h
  have hsq : isDef r c l = true → adjO ⟨r, c, l⟩ ≠ none → ∃ R : Nat, r = R ∧ R ≤ 6 ∧ (oM (adjO ⟨r, c, l⟩)).r = R ∧ (oM (adjO ⟨r, c, l⟩)).c = R ∧ (oM (adjO ⟨r, c, l⟩)).l.length = R * R ∧ ∀ i, i < (oM (adjO ⟨r, c, l⟩)).l.length → isNum (nth (oM (adjO ⟨r, c, l⟩)).l i) = true := fun h h2 => by
    obtain ⟨_, R, rfl, rfl, hR, hlen, _⟩ := isSq_nat (isDef_sq h)
    rw [adjO_yes (isDef_sq h)] at h2 ⊢
    cases hx : allNum (adjB R l)
    · rw [hx] at h2; exact absurd rfl h2
    · exact ⟨R, rfl, hR, rfl, rfl, adjB_length _ _, (allNum_iff _).1 hx⟩
  obtain ⟨w1, hw1⟩ : ∃ w1, w1 = w.alloc (.cells #[.int .i64 r, .int .i64 c, .slice A n cap] 26) := ⟨_, rfl⟩
  have mb1 : MBox w1 w.heap.size r c (.slice A n cap) := by rw [hw1]; exact MBox.mk_ _ _ _ _ _
  have g01 : Grows w w1 := by rw [hw1]; ((repeat' (first | with_reducible exact Below.refl _ _ | with_reducible assumption | (with_reducible refine Below.setCell ?_ ?_ _) | (with_reducible refine Below.alloc ?_ ?_ _) | (with_reducible refine Below.drew ?_) | (with_reducible refine below_drewN ?_ _))); all_goals (first | omega | (simp; done) | (simp; omega) | (simp [*]; done) | (simp at *; omega)))
  have HW1 := Lib.hid hw1
  have HR := Lib.hid hRES
  clear hw1 hRES hn
  generalize hAD : adjO ⟨r, c, l⟩ = AD at *
  generalize hDT : dtO ⟨r, c, l⟩ = DT at *
  generalize hDF : isDef r c l = DF at *
  have HI' := Lib.hid HI
  clear HI hAD hDT hDF
  go_enter Try.func29, Try.ntmps29
  go_wp2_with fail
  refine (HA.out _ (by exact (Rd.grows ha (by ((repeat' (first | with_reducible exact Below.refl _ _ | with_reducible assumption | (with_reducible refine Below.setCell ?_ ?_ _) | (with_reducible refine Below.alloc ?_ ?_ _) | (with_reducible refine Below.drew ?_) | (with_reducible refine below_drewN ?_ _))); all_goals (first | omega | (simp; done) | (simp; omega) | (simp [*]; done) | (simp at *; omega))))))).mono ?_; rintro e w2 ⟨v2, rfl, ho2, g2⟩
  rw [← HW1.out] at g2
  obtain ⟨A2, c2, rfl, hr2, _⟩ := ho2.val
  obtain ⟨b0, b1, b2⟩ := (mb1.grows g2).cells
  have bl := (mb1.grows g2).lt
  go_wp2_with fail
  refine (HD.out _ (by exact (Rd.grows ha (by (have bz0 := Below.size (g2); (try simp at bz0); have bz1 := Below.size (g01); (try simp at bz1); (repeat' (first | with_reducible exact Below.refl _ _ | with_reducible assumption | (with_reducible refine Below.setCell ?_ ?_ _) | (with_reducible refine Below.alloc ?_ ?_ _) | (with_reducible refine Below.drew ?_) | (with_reducible refine below_drewN ?_ _) | (with_reducible refine Below.trans ?_ (Below.mono (g2) ?_)) | (with_reducible refine Below.trans ?_ (Below.mono (g01) ?_)))); all_goals (first | omega | (simp; done) | (simp; omega) | (simp [*]; done) | (simp at *; omega))))))).mono ?_; rintro e w3 ⟨rfl, g3⟩
  clear b0 b1 b2 bl
  have ma3 := MBox.grows (MBox.mk_ w2 (oM AD).r (oM AD).c (.slice A2 (oM AD).l.length c2) 26) g3
  have g13 : Grows w1 w3 := by (have bz0 := Below.size (g3); (try simp at bz0); have bz1 := Below.size (g2); (try simp at bz1); (repeat' (first | with_reducible exact Below.refl _ _ | with_reducible assumption | (with_reducible refine Below.setCell ?_ ?_ _) | (with_reducible refine Below.alloc ?_ ?_ _) | (with_reducible refine Below.drew ?_) | (with_reducible refine below_drewN ?_ _) | (with_reducible refine Below.trans ?_ (Below.mono (g3) ?_)) | (with_reducible refine Below.trans ?_ (Below.mono (g2) ?_)))); all_goals (first | omega | (simp; done) | (simp; omega) | (simp [*]; done) | (simp at *; omega)))
  have hr3 : Rd w3 A2 (oM AD).l := (Rd.grows hr2 (by (have bz0 := Below.size (g3); (try simp at bz0); (repeat' (first | with_reducible exact Below.refl _ _ | with_reducible assumption | (with_reducible refine Below.setCell ?_ ?_ _) | (with_reducible refine Below.alloc ?_ ?_ _) | (with_reducible refine Below.drew ?_) | (with_reducible refine below_drewN ?_ _) | (with_reducible refine Below.trans ?_ (Below.mono (g3) ?_)))); all_goals (first | omega | (simp; done) | (simp; omega) | (simp [*]; done) | (simp at *; omega)))))
  clear ho2 hr2 g3 g2
  obtain ⟨b0, b1, b2⟩ := (mb1.grows g13).cells
  cases AD with
  | none =>
    obtain rfl : RES = none := HR.out
    go_wp2_with fail
    go_ret2
    exact ⟨_, rfl, Own.new_ _ rfl (by have := Below.size g13; have := Below.size g01; omega), by (have bz0 := Below.size (g13); (try simp at bz0); have bz1 := Below.size (g01); (try simp at bz1); (repeat' (first | with_reducible exact Below.refl _ _ | with_reducible assumption | (with_reducible refine Below.setCell ?_ ?_ _) | (with_reducible refine Below.alloc ?_ ?_ _) | (with_reducible refine Below.drew ?_) | (with_reducible refine below_drewN ?_ _) | (with_reducible refine Below.trans ?_ (Below.mono (g13) ?_)) | (with_reducible refine Below.trans ?_ (Below.mono (g01) ?_)))); all_goals (first | omega | (simp; done) | (simp; omega) | (simp [*]; done) | (simp at *; omega)))⟩
  | some ad =>
    cases DT with
    | none =>
      have hdf : DF = false := by
        cases DF
        · rfl
        · obtain ⟨d, h, _⟩ := hsome rfl; cases h
      subst hdf
      obtain rfl : RES = none := HR.out
      go_wp2_with fail
      go_ret2
      exact ⟨_, rfl, Own.new_ _ rfl (by have := Below.size g13; have := Below.size g01; omega), by (have bz0 := Below.size (g13); (try simp at bz0); have bz1 := Below.size (g01); (try simp at bz1); (repeat' (first | with_reducible exact Below.refl _ _ | with_reducible assumption | (with_reducible refine Below.setCell ?_ ?_ _) | (with_reducible refine Below.alloc ?_ ?_ _) | (with_reducible refine Below.drew ?_) | (with_reducible refine below_drewN ?_ _) | (with_reducible refine Below.trans ?_ (Below.mono (g13) ?_)) | (with_reducible refine Below.trans ?_ (Below.mono (g01) ?_)))); all_goals (first | omega | (simp; done) | (simp; omega) | (simp [*]; done) | (simp at *; omega)))⟩
    | some d =>
      cases DF
      · obtain rfl : RES = none := HR.out
        go_wp2_with fail
        refine (HI'.out _ (by exact (Rd.grows ha (by (have bz0 := Below.size (g13); (try simp at bz0); have bz1 := Below.size (g01); (try simp at bz1); (repeat' (first | with_reducible exact Below.refl _ _ | with_reducible assumption | (with_reducible refine Below.setCell ?_ ?_ _) | (with_reducible refine Below.alloc ?_ ?_ _) | (with_reducible refine Below.drew ?_) | (with_reducible refine below_drewN ?_ _) | (with_reducible refine Below.trans ?_ (Below.mono (g13) ?_)) | (with_reducible refine Below.trans ?_ (Below.mono (g01) ?_)))); all_goals (first | omega | (simp; done) | (simp; omega) | (simp [*]; done) | (simp at *; omega))))))).mono ?_; rintro e w4 ⟨rfl, g4⟩
        go_wp2_with fail
        go_ret2
        exact ⟨_, rfl, Own.new_ _ rfl (by have := Below.size g13; have := Below.size g01; have := Below.size g4; omega), by (have bz0 := Below.size (g4); (try simp at bz0); have bz1 := Below.size (g13); (try simp at bz1); have bz2 := Below.size (g01); (try simp at bz2); (repeat' (first | with_reducible exact Below.refl _ _ | with_reducible assumption | (with_reducible refine Below.setCell ?_ ?_ _) | (with_reducible refine Below.alloc ?_ ?_ _) | (with_reducible refine Below.drew ?_) | (with_reducible refine below_drewN ?_ _) | (with_reducible refine Below.trans ?_ (Below.mono (g4) ?_)) | (with_reducible refine Below.trans ?_ (Below.mono (g13) ?_)) | (with_reducible refine Below.trans ?_ (Below.mono (g01) ?_)))); all_goals (first | omega | (simp; done) | (simp; omega) | (simp [*]; done) | (simp at *; omega)))⟩
      · obtain ⟨R, rfl, hR6, er, ec, elen, enum⟩ := hsq rfl (by simp)
        obtain ⟨d', e', hd0⟩ := hsome rfl
        cases e'
        by_cases hb : 0 ≤ b ∧ b ≤ 10000
        · obtain ⟨hb1, hb2⟩ := hb
          have hin : inB b 0 10000 = true := (inB_iff _ _ _).2 ⟨hb1, hb2⟩
          have hbn : isNum b = true := (isNum_iff _).2 (by omega)
          have hres : RES = bxP ad.l R d b R := by have := HR.out; rw [hin] at this; exact this
          have HRES := Lib.hid hres
          obtain ⟨ar, ac, al⟩ := ad
          simp only [oM_some] at er ec elen enum ma3 hr3 hal ⊢
          subst er
          subst ec
          have HEL := Lib.hid elen
          have HEN := Lib.hid enum
          have hRR : R * R ≤ 36 := Nat.mul_le_mul hR6 hR6
          clear elen enum hres hin HR hsome hsq
          go_wp2_with fail
          refine (HI'.out _ (by exact (Rd.grows ha (by (have bz0 := Below.size (g13); (try simp at bz0); have bz1 := Below.size (g01); (try simp at bz1); (repeat' (first | with_reducible exact Below.refl _ _ | with_reducible assumption | (with_reducible refine Below.setCell ?_ ?_ _) | (with_reducible refine Below.alloc ?_ ?_ _) | (with_reducible refine Below.drew ?_) | (with_reducible refine below_drewN ?_ _) | (with_reducible refine Below.trans ?_ (Below.mono (g13) ?_)) | (with_reducible refine Below.trans ?_ (Below.mono (g01) ?_)))); all_goals (first | omega | (simp; done) | (simp; omega) | (simp [*]; done) | (simp at *; omega))))))).mono ?_; rintro e w4 ⟨rfl, g4⟩
          clear b0 b1 b2
          have g14 : Grows w1 w4 := by (have bz0 := Below.size (g4); (try simp at bz0); have bz1 := Below.size (g13); (try simp at bz1); (repeat' (first | with_reducible exact Below.refl _ _ | with_reducible assumption | (with_reducible refine Below.setCell ?_ ?_ _) | (with_reducible refine Below.alloc ?_ ?_ _) | (with_reducible refine Below.drew ?_) | (with_reducible refine below_drewN ?_ _) | (with_reducible refine Below.trans ?_ (Below.mono (g4) ?_)) | (with_reducible refine Below.trans ?_ (Below.mono (g13) ?_)))); all_goals (first | omega | (simp; done) | (simp; omega) | (simp [*]; done) | (simp at *; omega)))
          have ma4 := ma3.grows (w' := w4) (by (have bz0 := Below.size (g4); (try simp at bz0); (repeat' (first | with_reducible exact Below.refl _ _ | with_reducible assumption | (with_reducible refine Below.setCell ?_ ?_ _) | (with_reducible refine Below.alloc ?_ ?_ _) | (with_reducible refine Below.drew ?_) | (with_reducible refine below_drewN ?_ _) | (with_reducible refine Below.trans ?_ (Below.mono (g4) ?_)))); all_goals (first | omega | (simp; done) | (simp; omega) | (simp [*]; done) | (simp at *; omega))))
          have hr4 := hr3.grows (w' := w4) (by (have bz0 := Below.size (g4); (try simp at bz0); (repeat' (first | with_reducible exact Below.refl _ _ | with_reducible assumption | (with_reducible refine Below.setCell ?_ ?_ _) | (with_reducible refine Below.alloc ?_ ?_ _) | (with_reducible refine Below.drew ?_) | (with_reducible refine below_drewN ?_ _) | (with_reducible refine Below.trans ?_ (Below.mono (g4) ?_)))); all_goals (first | omega | (simp; done) | (simp; omega) | (simp [*]; done) | (simp at *; omega))))
          have mb4 := mb1.grows g14
          have hs4 := Below.size g14
          have hs1 := Below.size g01
          go_wp2_with fail
          go_loopw [10, 11] (fun o i wr => ∃ (I : Nat) (A4 : Option Addr) (s : List Int) (c4 : Nat), i = .int .i64 I ∧ I ≤ R ∧ bxP al R d b I = some s ∧ o = .slice A4 s.length c4 ∧ Own wr w4.heap.size (.slice A4 s.length c4) s ∧ Grows w4 wr) (fun _ i _ => R - (intOf i).toNat)
          case atStart => exact ⟨0, _, [], _, rfl, Nat.zero_le _, rfl, rfl, Own.new_ _ rfl (by omega), by ((repeat' (first | with_reducible exact Below.refl _ _ | with_reducible assumption | (with_reducible refine Below.setCell ?_ ?_ _) | (with_reducible refine Below.alloc ?_ ?_ _) | (with_reducible refine Below.drew ?_) | (with_reducible refine below_drewN ?_ _))); all_goals (first | omega | (simp; done) | (simp; omega) | (simp [*]; done) | (simp at *; omega)))⟩
          case round =>
            obtain ⟨I, A4, s, c4, rfl, hI, hS, rfl, ho, hg⟩ := hrel
            have HS := Lib.hid hS
            have HSL := Lib.hid (bxP_length hS)
            clear hS
            obtain ⟨b0, b1, b2⟩ := (mb4.grows hg).cells
            obtain ⟨a0, a1, a2⟩ := (ma4.grows hg).cells
            by_cases hlt : I < R
            · have hix := idx_lt (R := R) (C := R) hlt hlt
              have hIR : I * R ≤ 36 := by have := Nat.mul_le_mul (Nat.le_of_lt hlt) (Nat.le_refl R); omega
              have q1 := castMul I R
              have q2 : (I : Int) * (R : Int) ≤ ((36 : Nat) : Int) := castMulLe hIR
              have q3 := castPos I R I
              have q4 : (I : Int) * (R : Int) + (I : Int) < (al.length : Int) := castLt (by rw [HEL.out]; exact hix)
              have C1 := fun W h => at_c R R A2 al al.length c2 I I W rfl h (by omega) (by omega) (by omega) (by omega) (by omega)
              rw [castIdx] at C1
              have C1' := Lib.hid C1
              have hxn := HEN.out (I * R + I) (by rw [HEL.out]; exact hix)
              have hmb := mul_bd hbn hxn
              have F0 := Lib.hid fun h => bxP_fail HS.out h
              have F1 := Lib.hid fun h => bxP_some HS.out h
              have hra := hr4.grows hg
              clear q1 q2 q3 q4 C1 hxn
              generalize nth al (I * R + I) = x at *
              have NX := fun W => iIsNumber_c (b * x) W
              cases hx : isNum (b * x)
              · rw [hx] at NX
                have NX' := Lib.hid NX
                obtain rfl : RES = none := by rw [HRES.out]; exact bxP_none (F0.out hx) (by omega)
                clear NX hx
                go_wp2_with fail
                refine (C1'.out _ (by exact (Rd.grows hra (by ((repeat' (first | with_reducible exact Below.refl _ _ | with_reducible assumption | (with_reducible refine Below.setCell ?_ ?_ _) | (with_reducible refine Below.alloc ?_ ?_ _) | (with_reducible refine Below.drew ?_) | (with_reducible refine below_drewN ?_ _))); all_goals (first | omega | (simp; done) | (simp; omega) | (simp [*]; done) | (simp at *; omega))))))).mono ?_; rintro e w5 ⟨rfl, g5⟩
                go_wp2_with (go_at_call 79; refine (NX'.out _).mono ?_; rintro e w' ⟨rfl, rfl⟩)
                go_ret2
                exact ⟨_, rfl, Own.new_ _ rfl (by have := Below.size hg; have := Below.size g5; omega), by (have bz0 := Below.size (g5); (try simp at bz0); have bz1 := Below.size (hg); (try simp at bz1); have bz2 := Below.size (g14); (try simp at bz2); have bz3 := Below.size (g01); (try simp at bz3); (repeat' (first | with_reducible exact Below.refl _ _ | with_reducible assumption | (with_reducible refine Below.setCell ?_ ?_ _) | (with_reducible refine Below.alloc ?_ ?_ _) | (with_reducible refine Below.drew ?_) | (with_reducible refine below_drewN ?_ _) | (with_reducible refine Below.trans ?_ (Below.mono (g5) ?_)) | (with_reducible refine Below.trans ?_ (Below.mono (hg) ?_)) | (with_reducible refine Below.trans ?_ (Below.mono (g14) ?_)) | (with_reducible refine Below.trans ?_ (Below.mono (g01) ?_)))); all_goals (first | omega | (simp; done) | (simp; omega) | (simp [*]; done) | (simp at *; omega)))⟩
              · rw [hx] at NX
                have NX' := Lib.hid NX
                have F := Lib.hid (F1.out hx)
                have hq := tdiv_bd hx hd0
                have HQ := Lib.hid fun W => rootOf_c ((b * x).tdiv d) W (by omega) (by omega)
                have hdne : (d == 0) = false := by rw [beq_eq_false_iff_ne]; omega
                clear NX hx
                go_wp2_with fail
                refine (C1'.out _ (by exact (Rd.grows hra (by ((repeat' (first | with_reducible exact Below.refl _ _ | with_reducible assumption | (with_reducible refine Below.setCell ?_ ?_ _) | (with_reducible refine Below.alloc ?_ ?_ _) | (with_reducible refine Below.drew ?_) | (with_reducible refine below_drewN ?_ _))); all_goals (first | omega | (simp; done) | (simp; omega) | (simp [*]; done) | (simp at *; omega))))))).mono ?_; rintro e w5 ⟨rfl, g5⟩
                go_wp2_with (go_at_call 79; refine (NX'.out _).mono ?_; rintro e w' ⟨rfl, rfl⟩)
                refine (HQ.out _).mono ?_; rintro e w' ⟨rfl, rfl⟩
                have ho5 := ho.grows (w' := w5) (by (have bz0 := Below.size (g5); (try simp at bz0); (repeat' (first | with_reducible exact Below.refl _ _ | with_reducible assumption | (with_reducible refine Below.setCell ?_ ?_ _) | (with_reducible refine Below.alloc ?_ ?_ _) | (with_reducible refine Below.drew ?_) | (with_reducible refine below_drewN ?_ _) | (with_reducible refine Below.trans ?_ (Below.mono (g5) ?_)))); all_goals (first | omega | (simp; done) | (simp; omega) | (simp [*]; done) | (simp at *; omega))))
                have hs5 : w4.heap.size ≤ w5.heap.size := by have := Below.size hg; have := Below.size g5; (try simp at this); omega
                go_wp2_with (at_builtin; refine wpList_app1 rfl (.tmp 60) (.tmp 65) rfl _ _ w4.heap.size _ s (by rfl) ho5 (by rfl) (by have := HSL.out; omega) (by omega) ?_; intro v7 w7 ho7 hg7 _)
                obtain ⟨A7, c7, rfl, _, _⟩ := ho7.val
                have hb7 : Below w4.heap.size w5 w7 := below_app ho5 (by omega) hg7
                go_round
                case rel => exact ⟨I + 1, _, _, _, by go_num, by omega, F.out, rfl, ho7, by (have bz0 := Below.size (hb7); (try simp at bz0); have bz1 := Below.size (g5); (try simp at bz1); have bz2 := Below.size (hg); (try simp at bz2); (repeat' (first | with_reducible exact Below.refl _ _ | with_reducible assumption | (with_reducible refine Below.setCell ?_ ?_ _) | (with_reducible refine Below.alloc ?_ ?_ _) | (with_reducible refine Below.drew ?_) | (with_reducible refine below_drewN ?_ _) | (with_reducible refine Below.trans ?_ (Below.mono (hb7) ?_)) | (with_reducible refine Below.trans ?_ (Below.mono (g5) ?_)) | (with_reducible refine Below.trans ?_ (Below.mono (hg) ?_)))); all_goals (first | omega | (simp; done) | (simp; omega) | (simp [*]; done) | (simp at *; omega)))⟩
                case measure => simp [intOf]; omega
            · obtain rfl : I = R := by omega
              obtain rfl : RES = some s := by rw [HRES.out]; exact HS.out
              go_wp2_with fail
              go_ret2
              exact ⟨_, rfl, ho.less (by omega), by (have bz0 := Below.size (hg); (try simp at bz0); have bz1 := Below.size (g14); (try simp at bz1); have bz2 := Below.size (g01); (try simp at bz2); (repeat' (first | with_reducible exact Below.refl _ _ | with_reducible assumption | (with_reducible refine Below.setCell ?_ ?_ _) | (with_reducible refine Below.alloc ?_ ?_ _) | (with_reducible refine Below.drew ?_) | (with_reducible refine below_drewN ?_ _) | (with_reducible refine Below.trans ?_ (Below.mono (hg) ?_)) | (with_reducible refine Below.trans ?_ (Below.mono (g14) ?_)) | (with_reducible refine Below.trans ?_ (Below.mono (g01) ?_)))); all_goals (first | omega | (simp; done) | (simp; omega) | (simp [*]; done) | (simp at *; omega)))⟩
        · have hin : inB b 0 10000 = false := by
            cases e : inB b 0 10000
            · rfl
            · exact absurd ((inB_iff _ _ _).1 e) hb
          obtain rfl : RES = none := by have := HR.out; rw [hin] at this; exact this
          by_cases hb1 : b < 0
          · go_wp2_with fail
            refine (HI'.out _ (by exact (Rd.grows ha (by (have bz0 := Below.size (g13); (try simp at bz0); have bz1 := Below.size (g01); (try simp at bz1); (repeat' (first | with_reducible exact Below.refl _ _ | with_reducible assumption | (with_reducible refine Below.setCell ?_ ?_ _) | (with_reducible refine Below.alloc ?_ ?_ _) | (with_reducible refine Below.drew ?_) | (with_reducible refine below_drewN ?_ _) | (with_reducible refine Below.trans ?_ (Below.mono (g13) ?_)) | (with_reducible refine Below.trans ?_ (Below.mono (g01) ?_)))); all_goals (first | omega | (simp; done) | (simp; omega) | (simp [*]; done) | (simp at *; omega))))))).mono ?_; rintro e w4 ⟨rfl, g4⟩
            go_wp2_with fail
            go_ret2
            exact ⟨_, rfl, Own.new_ _ rfl (by have := Below.size g13; have := Below.size g01; have := Below.size g4; omega), by (have bz0 := Below.size (g4); (try simp at bz0); have bz1 := Below.size (g13); (try simp at bz1); have bz2 := Below.size (g01); (try simp at bz2); (repeat' (first | with_reducible exact Below.refl _ _ | with_reducible assumption | (with_reducible refine Below.setCell ?_ ?_ _) | (with_reducible refine Below.alloc ?_ ?_ _) | (with_reducible refine Below.drew ?_) | (with_reducible refine below_drewN ?_ _) | (with_reducible refine Below.trans ?_ (Below.mono (g4) ?_)) | (with_reducible refine Below.trans ?_ (Below.mono (g13) ?_)) | (with_reducible refine Below.trans ?_ (Below.mono (g01) ?_)))); all_goals (first | omega | (simp; done) | (simp; omega) | (simp [*]; done) | (simp at *; omega)))⟩
          · have hb2 : 10000 < b := by omega
            go_wp2_with fail
            refine (HI'.out _ (by exact (Rd.grows ha (by (have bz0 := Below.size (g13); (try simp at bz0); have bz1 := Below.size (g01); (try simp at bz1); (repeat' (first | with_reducible exact Below.refl _ _ | with_reducible assumption | (with_reducible refine Below.setCell ?_ ?_ _) | (with_reducible refine Below.alloc ?_ ?_ _) | (with_reducible refine Below.drew ?_) | (with_reducible refine below_drewN ?_ _) | (with_reducible refine Below.trans ?_ (Below.mono (g13) ?_)) | (with_reducible refine Below.trans ?_ (Below.mono (g01) ?_)))); all_goals (first | omega | (simp; done) | (simp; omega) | (simp [*]; done) | (simp at *; omega))))))).mono ?_; rintro e w4 ⟨rfl, g4⟩
            go_wp2_with fail
            go_ret2
            exact ⟨_, rfl, Own.new_ _ rfl (by have := Below.size g13; have := Below.size g01; have := Below.size g4; omega), by (have bz0 := Below.size (g4); (try simp at bz0); have bz1 := Below.size (g13); (try simp at bz1); have bz2 := Below.size (g01); (try simp at bz2); (repeat' (first | with_reducible exact Below.refl _ _ | with_reducible assumption | (with_reducible refine Below.setCell ?_ ?_ _) | (with_reducible refine Below.alloc ?_ ?_ _) | (with_reducible refine Below.drew ?_) | (with_reducible refine below_drewN ?_ _) | (with_reducible refine Below.trans ?_ (Below.mono (g4) ?_)) | (with_reducible refine Below.trans ?_ (Below.mono (g13) ?_)) | (with_reducible refine Below.trans ?_ (Below.mono (g01) ?_)))); all_goals (first | omega | (simp; done) | (simp; omega) | (simp [*]; done) | (simp at *; omega)))⟩

theorem sBox_c (r c b : Int) (A : Option Addr) (l : List Int) (n cap : Nat) (w : World) (hn : l.length = n) (ha : Rd w A l) (hl : n ≤ 1099511627776) :
    Calls Try.prog 28 #[.agg #[.int .i64 r, .int .i64 c, .slice A n cap], .int .i64 b] w fun e w' => ∃ v, e = .returned (.tuple #[v, .bool (boxO ⟨r, c, l⟩ b).isSome]) ∧ Own w' w.heap.size v (oL (boxO ⟨r, c, l⟩ b)) ∧ Grows w w' := by
  have HA := Lib.hid fun W h => sAdj_c r c A l n cap W hn h hl
  have HD := Lib.hid fun W h => sDt_c r c A l n cap W hn h hl
  have HI := fun W h => sIsDef_c r c A l n cap W hn h hl
  obtain ⟨RES, hRES⟩ : ∃ x, x = boxO ⟨r, c, l⟩ b := ⟨_, rfl⟩
  rw [← hRES]
  unfold boxO at hRES
  simp only at hRES
  have hal : (oM (adjO ⟨r, c, l⟩)).l.length ≤ 576 := oM_length fun _ h => adjO_ok h
  have hsome : isDef r c l = true → ∃ d, dtO ⟨r, c, l⟩ = some d ∧ 0 < d := fun h => isDef_det h
  have hsq : isDef r c l = true → adjO ⟨r, c, l⟩ ≠ none → ∃ R : Nat, r = R ∧ R ≤ 6 ∧ (oM (adjO ⟨r, c, l⟩)).r = R ∧ (oM (adjO ⟨r, c, l⟩)).c = R ∧ (oM (adjO ⟨r, c, l⟩)).l.length = R * R ∧ ∀ i, i < (oM (adjO ⟨r, c, l⟩)).l.length → isNum (nth (oM (adjO ⟨r, c, l⟩)).l i) = true := fun h h2 => by
    obtain ⟨_, R, rfl, rfl, hR, hlen, _⟩ := isSq_nat (isDef_sq h)
    rw [adjO_yes (isDef_sq h)] at h2 ⊢
    cases hx : allNum (adjB R l)
    · rw [hx] at h2; exact absurd rfl h2
    · exact ⟨R, rfl, hR, rfl, rfl, adjB_length _ _, (allNum_iff _).1 hx⟩
  obtain ⟨w1, hw1⟩ : ∃ w1, w1 = w.alloc (.cells #[.int .i64 r, .int .i64 c, .slice A n cap] 26) := ⟨_, rfl⟩
  have mb1 : MBox w1 w.heap.size r c (.slice A n cap) := by rw [hw1]; exact MBox.mk_ _ _ _ _ _
  have g01 : Grows w w1 := by rw [hw1]; ((repeat' (first | with_reducible exact Below.refl _ _ | with_reducible assumption | (with_reducible refine Below.setCell ?_ ?_ _) | (with_reducible refine Below.alloc ?_ ?_ _) | (with_reducible refine Below.drew ?_) | (with_reducible refine below_drewN ?_ _))); all_goals (first | omega | (simp; done) | (simp; omega) | (simp [*]; done) | (simp at *; omega)))
  have HW1 := Lib.hid hw1
  have HR := Lib.hid hRES
  clear hw1 hRES hn
  generalize hAD : adjO ⟨r, c, l⟩ = AD at *
  generalize hDT : dtO ⟨r, c, l⟩ = DT at *
  generalize hDF : isDef r c l = DF at *
  have HI' := Lib.hid HI
  clear HI hAD hDT hDF
  go_enter Try.func28, Try.ntmps28
  go_wp2_with fail
  refine (HA.out _ (by exact (Rd.grows ha (by ((repeat' (first | with_reducible exact Below.refl _ _ | with_reducible assumption | (with_reducible refine Below.setCell ?_ ?_ _) | (with_reducible refine Below.alloc ?_ ?_ _) | (with_reducible refine Below.drew ?_) | (with_reducible refine below_drewN ?_ _))); all_goals (first | omega | (simp; done) | (simp; omega) | (simp [*]; done) | (simp at *; omega))))))).mono ?_; rintro e w2 ⟨v2, rfl, ho2, g2⟩
  rw [← HW1.out] at g2
  obtain ⟨A2, c2, rfl, hr2, _⟩ := ho2.val
  have ma2 := MBox.mk_ w2 (oM AD).r (oM AD).c (.slice A2 (oM AD).l.length c2) 26
  have hs2 := Below.size g2
  have hs1 := Below.size g01
  cases AD with
  | none =>
    obtain rfl : RES = none := HR.out
    go_wp2_with fail
    go_ret2
    exact ⟨_, rfl, Own.new_ _ (by simp) (by omega), by (have bz0 := Below.size (g2); (try simp at bz0); have bz1 := Below.size (g01); (try simp at bz1); (repeat' (first | with_reducible exact Below.refl _ _ | with_reducible assumption | (with_reducible refine Below.setCell ?_ ?_ _) | (with_reducible refine Below.alloc ?_ ?_ _) | (with_reducible refine Below.drew ?_) | (with_reducible refine below_drewN ?_ _) | (with_reducible refine Below.trans ?_ (Below.mono (g2) ?_)) | (with_reducible refine Below.trans ?_ (Below.mono (g01) ?_)))); all_goals (first | omega | (simp; done) | (simp; omega) | (simp [*]; done) | (simp at *; omega)))⟩
  | some ad =>
    obtain ⟨b0, b1, b2⟩ := (mb1.grows g2).cells
    have bl := (mb1.grows g2).lt
    go_wp2_with fail
    refine (HI'.out _ (by exact (Rd.grows ha (by (have bz0 := Below.size (g2); (try simp at bz0); have bz1 := Below.size (g01); (try simp at bz1); (repeat' (first | with_reducible exact Below.refl _ _ | with_reducible assumption | (with_reducible refine Below.setCell ?_ ?_ _) | (with_reducible refine Below.alloc ?_ ?_ _) | (with_reducible refine Below.drew ?_) | (with_reducible refine below_drewN ?_ _) | (with_reducible refine Below.trans ?_ (Below.mono (g2) ?_)) | (with_reducible refine Below.trans ?_ (Below.mono (g01) ?_)))); all_goals (first | omega | (simp; done) | (simp; omega) | (simp [*]; done) | (simp at *; omega))))))).mono ?_; rintro e w3 ⟨rfl, g3⟩
    clear b0 b1 b2 bl
    have ma3 := ma2.grows g3
    have hr3 : Rd w3 A2 (oM (some ad)).l := (Rd.grows hr2 (by (have bz0 := Below.size (g3); (try simp at bz0); (repeat' (first | with_reducible exact Below.refl _ _ | with_reducible assumption | (with_reducible refine Below.setCell ?_ ?_ _) | (with_reducible refine Below.alloc ?_ ?_ _) | (with_reducible refine Below.drew ?_) | (with_reducible refine below_drewN ?_ _) | (with_reducible refine Below.trans ?_ (Below.mono (g3) ?_)))); all_goals (first | omega | (simp; done) | (simp; omega) | (simp [*]; done) | (simp at *; omega)))))
    have g13 : Grows w1 w3 := by (have bz0 := Below.size (g3); (try simp at bz0); have bz1 := Below.size (g2); (try simp at bz1); (repeat' (first | with_reducible exact Below.refl _ _ | with_reducible assumption | (with_reducible refine Below.setCell ?_ ?_ _) | (with_reducible refine Below.alloc ?_ ?_ _) | (with_reducible refine Below.drew ?_) | (with_reducible refine below_drewN ?_ _) | (with_reducible refine Below.trans ?_ (Below.mono (g3) ?_)) | (with_reducible refine Below.trans ?_ (Below.mono (g2) ?_)))); all_goals (first | omega | (simp; done) | (simp; omega) | (simp [*]; done) | (simp at *; omega)))
    clear ma2 hr2 ho2 g3 g2
    have hs3 := Below.size g13
    cases DF
    · obtain rfl : RES = none := HR.out
      go_wp2_with fail
      go_ret2
      exact ⟨_, rfl, Own.new_ _ rfl (by omega), by (have bz0 := Below.size (g13); (try simp at bz0); have bz1 := Below.size (g01); (try simp at bz1); (repeat' (first | with_reducible exact Below.refl _ _ | with_reducible assumption | (with_reducible refine Below.setCell ?_ ?_ _) | (with_reducible refine Below.alloc ?_ ?_ _) | (with_reducible refine Below.drew ?_) | (with_reducible refine below_drewN ?_ _) | (with_reducible refine Below.trans ?_ (Below.mono (g13) ?_)) | (with_reducible refine Below.trans ?_ (Below.mono (g01) ?_)))); all_goals (first | omega | (simp; done) | (simp; omega) | (simp [*]; done) | (simp at *; omega)))⟩
    · obtain ⟨R, rfl, hR6, er, ec, elen, enum⟩ := hsq rfl (by simp)
      obtain ⟨d, hd, hd0⟩ := hsome rfl
      subst hd
      have HIN := fun W => l1In_c b 0 10000 W
      obtain ⟨b0, b1, b2⟩ := (mb1.grows g13).cells
      cases hin : inB b 0 10000
      · rw [hin] at HIN
        have HIN' := Lib.hid HIN
        obtain rfl : RES = none := by have := HR.out; rw [hin] at this; exact this
        clear HIN hin
        go_wp2_with fail
        refine (HIN'.out _).mono ?_; rintro e w' ⟨rfl, rfl⟩
        go_wp2_with fail
        go_ret2
        exact ⟨_, rfl, Own.new_ _ rfl (by omega), by (have bz0 := Below.size (g13); (try simp at bz0); have bz1 := Below.size (g01); (try simp at bz1); (repeat' (first | with_reducible exact Below.refl _ _ | with_reducible assumption | (with_reducible refine Below.setCell ?_ ?_ _) | (with_reducible refine Below.alloc ?_ ?_ _) | (with_reducible refine Below.drew ?_) | (with_reducible refine below_drewN ?_ _) | (with_reducible refine Below.trans ?_ (Below.mono (g13) ?_)) | (with_reducible refine Below.trans ?_ (Below.mono (g01) ?_)))); all_goals (first | omega | (simp; done) | (simp; omega) | (simp [*]; done) | (simp at *; omega)))⟩
      · rw [hin] at HIN
        have HIN' := Lib.hid HIN
        have hb := (inB_iff _ _ _).1 hin
        have hbn : isNum b = true := (isNum_iff _).2 (by omega)
        have hres : RES = bxP ad.l R d b R := by have := HR.out; rw [hin] at this; exact this
        have HRES := Lib.hid hres
        obtain ⟨ar, ac, al⟩ := ad
        simp only [oM_some] at er ec elen enum ma3 hr3 hal ⊢
        subst er
        subst ec
        have HEL := Lib.hid elen
        have HEN := Lib.hid enum
        have hRR : R * R ≤ 36 := Nat.mul_le_mul hR6 hR6
        clear elen enum hres hin HIN HR hsome hsq
        go_wp2_with fail
        refine (HIN'.out _).mono ?_; rintro e w' ⟨rfl, rfl⟩
        go_wp2_with fail
        refine (HD.out _ (by exact (Rd.grows ha (by (have bz0 := Below.size (g13); (try simp at bz0); have bz1 := Below.size (g01); (try simp at bz1); (repeat' (first | with_reducible exact Below.refl _ _ | with_reducible assumption | (with_reducible refine Below.setCell ?_ ?_ _) | (with_reducible refine Below.alloc ?_ ?_ _) | (with_reducible refine Below.drew ?_) | (with_reducible refine below_drewN ?_ _) | (with_reducible refine Below.trans ?_ (Below.mono (g13) ?_)) | (with_reducible refine Below.trans ?_ (Below.mono (g01) ?_)))); all_goals (first | omega | (simp; done) | (simp; omega) | (simp [*]; done) | (simp at *; omega))))))).mono ?_; rintro e w4 ⟨rfl, g4⟩
        clear b0 b1 b2
        have g14 : Grows w1 w4 := by (have bz0 := Below.size (g4); (try simp at bz0); have bz1 := Below.size (g13); (try simp at bz1); (repeat' (first | with_reducible exact Below.refl _ _ | with_reducible assumption | (with_reducible refine Below.setCell ?_ ?_ _) | (with_reducible refine Below.alloc ?_ ?_ _) | (with_reducible refine Below.drew ?_) | (with_reducible refine below_drewN ?_ _) | (with_reducible refine Below.trans ?_ (Below.mono (g4) ?_)) | (with_reducible refine Below.trans ?_ (Below.mono (g13) ?_)))); all_goals (first | omega | (simp; done) | (simp; omega) | (simp [*]; done) | (simp at *; omega)))
        have ma4 := ma3.grows (w' := w4) (by (have bz0 := Below.size (g4); (try simp at bz0); (repeat' (first | with_reducible exact Below.refl _ _ | with_reducible assumption | (with_reducible refine Below.setCell ?_ ?_ _) | (with_reducible refine Below.alloc ?_ ?_ _) | (with_reducible refine Below.drew ?_) | (with_reducible refine below_drewN ?_ _) | (with_reducible refine Below.trans ?_ (Below.mono (g4) ?_)))); all_goals (first | omega | (simp; done) | (simp; omega) | (simp [*]; done) | (simp at *; omega))))
        have hr4 := hr3.grows (w' := w4) (by (have bz0 := Below.size (g4); (try simp at bz0); (repeat' (first | with_reducible exact Below.refl _ _ | with_reducible assumption | (with_reducible refine Below.setCell ?_ ?_ _) | (with_reducible refine Below.alloc ?_ ?_ _) | (with_reducible refine Below.drew ?_) | (with_reducible refine below_drewN ?_ _) | (with_reducible refine Below.trans ?_ (Below.mono (g4) ?_)))); all_goals (first | omega | (simp; done) | (simp; omega) | (simp [*]; done) | (simp at *; omega))))
        have mb4 := mb1.grows g14
        have hs4 := Below.size g14
        go_wp2_with fail
        go_loopw [10, 11] (fun o i wr => ∃ (I : Nat) (A4 : Option Addr) (s : List Int) (c4 : Nat), i = .int .i64 I ∧ I ≤ R ∧ bxP al R d b I = some s ∧ o = .slice A4 s.length c4 ∧ Own wr w4.heap.size (.slice A4 s.length c4) s ∧ Grows w4 wr) (fun _ i _ => R - (intOf i).toNat)
        case atStart => exact ⟨0, _, [], _, rfl, Nat.zero_le _, rfl, rfl, Own.new_ _ rfl (by omega), by ((repeat' (first | with_reducible exact Below.refl _ _ | with_reducible assumption | (with_reducible refine Below.setCell ?_ ?_ _) | (with_reducible refine Below.alloc ?_ ?_ _) | (with_reducible refine Below.drew ?_) | (with_reducible refine below_drewN ?_ _))); all_goals (first | omega | (simp; done) | (simp; omega) | (simp [*]; done) | (simp at *; omega)))⟩
        case round =>
          obtain ⟨I, A4, s, c4, rfl, hI, hS, rfl, ho, hg⟩ := hrel
          have HS := Lib.hid hS
          have HSL := Lib.hid (bxP_length hS)
          clear hS
          obtain ⟨b0, b1, b2⟩ := (mb4.grows hg).cells
          obtain ⟨a0, a1, a2⟩ := (ma4.grows hg).cells
          by_cases hlt : I < R
          · have hix := idx_lt (R := R) (C := R) hlt hlt
            have hIR : I * R ≤ 36 := by have := Nat.mul_le_mul (Nat.le_of_lt hlt) (Nat.le_refl R); omega
            have q1 := castMul I R
            have q2 : (I : Int) * (R : Int) ≤ ((36 : Nat) : Int) := castMulLe hIR
            have q3 := castPos I R I
            have q4 : (I : Int) * (R : Int) + (I : Int) < (al.length : Int) := castLt (by rw [HEL.out]; exact hix)
            have C1 := fun W h => l12Cell_c R R A2 al al.length c2 I I W rfl h (by omega) (by omega) (by omega) (by omega) (by omega)
            rw [castIdx] at C1
            have C1' := Lib.hid C1
            have hxn := HEN.out (I * R + I) (by rw [HEL.out]; exact hix)
            have F0 := Lib.hid fun h => bxP_fail HS.out h
            have F1 := Lib.hid fun h => bxP_some HS.out h
            have hra := hr4.grows hg
            clear q1 q2 q3 q4 C1
            generalize nth al (I * R + I) = x at *
            have KM := fun W => l1Mul_c b x W (.inr hbn) (.inr hxn)
            rw [mulB_num hbn hxn] at KM
            cases hx : isNum (b * x)
            · rw [fit_no hx, show bad = -4611686018427387904 from rfl] at KM
              have KM' := Lib.hid KM
              obtain rfl : RES = none := by rw [HRES.out]; exact bxP_none (F0.out hx) (by omega)
              clear KM hx hxn
              go_wp2_with fail
              refine (C1'.out _ (by exact (Rd.grows hra (by ((repeat' (first | with_reducible exact Below.refl _ _ | with_reducible assumption | (with_reducible refine Below.setCell ?_ ?_ _) | (with_reducible refine Below.alloc ?_ ?_ _) | (with_reducible refine Below.drew ?_) | (with_reducible refine below_drewN ?_ _))); all_goals (first | omega | (simp; done) | (simp; omega) | (simp [*]; done) | (simp at *; omega))))))).mono ?_; rintro e w5 ⟨rfl, g5⟩
              go_wp2_with (go_at_call 73; refine (KM'.out _).mono ?_; rintro e w' ⟨rfl, rfl⟩)
              go_ret2
              exact ⟨_, rfl, Own.new_ _ rfl (by have := Below.size hg; have := Below.size g5; omega), by (have bz0 := Below.size (g5); (try simp at bz0); have bz1 := Below.size (hg); (try simp at bz1); have bz2 := Below.size (g14); (try simp at bz2); have bz3 := Below.size (g01); (try simp at bz3); (repeat' (first | with_reducible exact Below.refl _ _ | with_reducible assumption | (with_reducible refine Below.setCell ?_ ?_ _) | (with_reducible refine Below.alloc ?_ ?_ _) | (with_reducible refine Below.drew ?_) | (with_reducible refine below_drewN ?_ _) | (with_reducible refine Below.trans ?_ (Below.mono (g5) ?_)) | (with_reducible refine Below.trans ?_ (Below.mono (hg) ?_)) | (with_reducible refine Below.trans ?_ (Below.mono (g14) ?_)) | (with_reducible refine Below.trans ?_ (Below.mono (g01) ?_)))); all_goals (first | omega | (simp; done) | (simp; omega) | (simp [*]; done) | (simp at *; omega)))⟩
            · rw [fit_yes hx] at KM
              have KM' := Lib.hid KM
              have F := Lib.hid (F1.out hx)
              have hq := tdiv_bd hx hd0
              have hbx := (isNum_iff _).1 hx
              have hne : (b * x == -4611686018427387904) = false := by rw [beq_eq_false_iff_ne]; omega
              have HQ := Lib.hid fun W => l20Root_c ((b * x).tdiv d) W (by omega) (by omega)
              have hdne : (d == 0) = false := by rw [beq_eq_false_iff_ne]; omega
              clear KM hx hxn
              generalize b * x = bx at *
              go_wp2_with fail
              refine (C1'.out _ (by exact (Rd.grows hra (by ((repeat' (first | with_reducible exact Below.refl _ _ | with_reducible assumption | (with_reducible refine Below.setCell ?_ ?_ _) | (with_reducible refine Below.alloc ?_ ?_ _) | (with_reducible refine Below.drew ?_) | (with_reducible refine below_drewN ?_ _))); all_goals (first | omega | (simp; done) | (simp; omega) | (simp [*]; done) | (simp at *; omega))))))).mono ?_; rintro e w5 ⟨rfl, g5⟩
              go_wp2_with (go_at_call 73; refine (KM'.out _).mono ?_; rintro e w' ⟨rfl, rfl⟩)
              refine (HQ.out _).mono ?_; rintro e w' ⟨rfl, rfl⟩
              have ho5 := ho.grows (w' := w5) (by (have bz0 := Below.size (g5); (try simp at bz0); (repeat' (first | with_reducible exact Below.refl _ _ | with_reducible assumption | (with_reducible refine Below.setCell ?_ ?_ _) | (with_reducible refine Below.alloc ?_ ?_ _) | (with_reducible refine Below.drew ?_) | (with_reducible refine below_drewN ?_ _) | (with_reducible refine Below.trans ?_ (Below.mono (g5) ?_)))); all_goals (first | omega | (simp; done) | (simp; omega) | (simp [*]; done) | (simp at *; omega))))
              have hs5 : w4.heap.size ≤ w5.heap.size := by have := Below.size hg; have := Below.size g5; (try simp at this); omega
              go_wp2_with (at_builtin; refine wpList_app1 rfl (.tmp 52) (.tmp 57) rfl _ _ w4.heap.size _ s (by rfl) ho5 (by rfl) (by have := HSL.out; omega) (by omega) ?_; intro v7 w7 ho7 hg7 _)
              obtain ⟨A7, c7, rfl, _, _⟩ := ho7.val
              have hb7 : Below w4.heap.size w5 w7 := below_app ho5 (by omega) hg7
              go_round
              case rel => exact ⟨I + 1, _, _, _, by go_num, by omega, F.out, rfl, ho7, by (have bz0 := Below.size (hb7); (try simp at bz0); have bz1 := Below.size (g5); (try simp at bz1); have bz2 := Below.size (hg); (try simp at bz2); (repeat' (first | with_reducible exact Below.refl _ _ | with_reducible assumption | (with_reducible refine Below.setCell ?_ ?_ _) | (with_reducible refine Below.alloc ?_ ?_ _) | (with_reducible refine Below.drew ?_) | (with_reducible refine below_drewN ?_ _) | (with_reducible refine Below.trans ?_ (Below.mono (hb7) ?_)) | (with_reducible refine Below.trans ?_ (Below.mono (g5) ?_)) | (with_reducible refine Below.trans ?_ (Below.mono (hg) ?_)))); all_goals (first | omega | (simp; done) | (simp; omega) | (simp [*]; done) | (simp at *; omega)))⟩
              case measure => simp [intOf]; omega
          · obtain rfl : I = R := by omega
            obtain rfl : RES = some s := by rw [HRES.out]; exact HS.out
            go_wp2_with fail
            go_ret2
            exact ⟨_, rfl, ho.less (by omega), by (have bz0 := Below.size (hg); (try simp at bz0); have bz1 := Below.size (g14); (try simp at bz1); have bz2 := Below.size (g01); (try simp at bz2); (repeat' (first | with_reducible exact Below.refl _ _ | with_reducible assumption | (with_reducible refine Below.setCell ?_ ?_ _) | (with_reducible refine Below.alloc ?_ ?_ _) | (with_reducible refine Below.drew ?_) | (with_reducible refine below_drewN ?_ _) | (with_reducible refine Below.trans ?_ (Below.mono (hg) ?_)) | (with_reducible refine Below.trans ?_ (Below.mono (g14) ?_)) | (with_reducible refine Below.trans ?_ (Below.mono (g01) ?_)))); all_goals (first | omega | (simp; done) | (simp; omega) | (simp [*]; done) | (simp at *; omega)))⟩
end
end Go.Proofs.Ytpfijhcjempfjaa
