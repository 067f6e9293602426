/- Contracts: is a matrix in Hermite form? -/
import Derived.Test.YtpfijhcjempfjaaLat1
import Derived.Test.YtpfijhcjempfjaaMX
namespace Go.Proofs.Ytpfijhcjempfjaa
open Go.RowKit

/-! ### plain -/
/-- the column of the first cell of row i that is not 0: C if there is none -/
def pv (C : Nat) (l : List Int) (i : Nat) : Nat := fnz (rowL C l i)
theorem pv_le {R C i : Nat} {l : List Int} (hl : l.length = R * C) (hi : i < R) : pv C l i ≤ C := by
  have := fnz_le (rowL C l i)
  rw [rowL_length (by rw [hl]; exact Nat.mul_le_mul_right C hi)] at this
  exact this
theorem pv_zero {C i j : Nat} {l : List Int} (hj : j < C) (h : j < pv C l i) : nth l (i * C + j) = 0 := by
  rw [← rowL_nth hj]; exact fnz_zero h
theorem pv_ne {R C i : Nat} {l : List Int} (hl : l.length = R * C) (hi : i < R) (h : pv C l i < C) : nth l (i * C + pv C l i) ≠ 0 := by
  rw [← rowL_nth h]
  exact fnz_ne (by rw [rowL_length (by rw [hl]; exact Nat.mul_le_mul_right C hi)]; exact h)
theorem fcI_pv {R C i : Nat} {l : List Int} (hl : l.length = R * C) (hi : i < R) : fcI (rowL C l i) = if pv C l i = C then -1 else (pv C l i : Int) := by
  unfold fcI
  rw [rowL_length (by rw [hl]; exact Nat.mul_le_mul_right C hi)]
  rfl
/-- a cell above the pivot p of row i that is not reduced -/
def upB (C : Nat) (l : List Int) (i p k : Nat) : Bool := (List.range k).any fun t => decide (nth l (t * C + p) < 0) || decide (nth l (i * C + p) ≤ nth l (t * C + p))
theorem upB_succ (C : Nat) (l : List Int) (i p k : Nat) : upB C l i p (k + 1) = (upB C l i p k || (decide (nth l (k * C + p) < 0) || decide (nth l (i * C + p) ≤ nth l (k * C + p)))) := by
  unfold upB; rw [List.range_succ, List.any_append]; simp
theorem upB_at {C : Nat} {l : List Int} {i p k : Nat} (hk : k < i) (h : nth l (k * C + p) < 0 ∨ nth l (i * C + p) ≤ nth l (k * C + p)) : upB C l i p i = true := by
  unfold upB
  rw [List.any_eq_true]
  exact ⟨k, by simpa using hk, by simpa using h⟩
/-- the rows before i are in Hermite form: the last pivot, or the number of columns behind a row of zeros -/
def herF (C : Nat) (l : List Int) : Nat → Option Int
  | 0 => some (-1)
  | i + 1 => (herF C l i).bind fun last => if pv C l i = C then some (C : Int) else if decide ((pv C l i : Int) ≤ last) || (decide (nth l (i * C + pv C l i) < 0) || upB C l i (pv C l i) i) then none else some (pv C l i : Int)
def herB (R C : Nat) (l : List Int) : Bool := (herF C l R).isSome
theorem herF_none {C : Nat} {l : List Int} {j k : Nat} (h : herF C l j = none) (hk : j ≤ k) : herF C l k = none := by
  induction k with
  | zero => rw [show j = 0 by omega] at h; exact h
  | succ k ih =>
    by_cases e : j = k + 1
    · rw [← e]; exact h
    · rw [herF, ih (by omega)]; rfl
theorem herF_zero {C : Nat} {l : List Int} {i : Nat} {last : Int} (h : herF C l i = some last) (hp : pv C l i = C) : herF C l (i + 1) = some (C : Int) := by
  rw [herF, h]; simp [hp]
theorem herF_bad {C : Nat} {l : List Int} {i : Nat} {last : Int} (h : herF C l i = some last) (hp : pv C l i ≠ C) (hb : (pv C l i : Int) ≤ last ∨ nth l (i * C + pv C l i) < 0 ∨ upB C l i (pv C l i) i = true) : herF C l (i + 1) = none := by
  rw [herF, h]
  simp only [Option.bind_some]
  rw [if_neg hp, if_pos]
  rcases hb with hb | hb | hb <;> simp [hb]
theorem herF_good {C : Nat} {l : List Int} {i : Nat} {last : Int} (h : herF C l i = some last) (hp : pv C l i ≠ C) (h1 : ¬ (pv C l i : Int) ≤ last) (h2 : ¬ nth l (i * C + pv C l i) < 0) (h3 : upB C l i (pv C l i) i = false) : herF C l (i + 1) = some (pv C l i : Int) := by
  rw [herF, h]
  simp only [Option.bind_some]
  rw [if_neg hp, if_neg]
  simp [h1, h2, h3]
theorem herF_bd {C : Nat} {l : List Int} {i : Nat} {last : Int} (hp : ∀ j, j < i → pv C l j ≤ C) (h : herF C l i = some last) : -1 ≤ last ∧ last ≤ C := by
  cases i with
  | zero => cases h; omega
  | succ i =>
    rw [herF] at h
    obtain ⟨q, _, h2⟩ := Option.bind_eq_some_iff.1 h
    have := hp i (by omega)
    split at h2
    · cases h2; omega
    · split at h2
      · cases h2
      · cases h2; omega
/-- the pivots go up -/
theorem herF_up {C : Nat} {l : List Int} {i k : Nat} {last last' : Int} (h : herF C l i = some last) (h' : herF C l k = some last') (hik : i < k) (hlt : last < (C : Int)) : pv C l i = C ∨ last < (pv C l i : Int) := by
  have : ∃ x, herF C l (i + 1) = some x := by
    cases e : herF C l (i + 1) with
    | some x => exact ⟨x, rfl⟩
    | none => rw [herF_none e (by omega)] at h'; cases h'
  obtain ⟨x, hx⟩ := this
  rw [herF, h] at hx
  simp only [Option.bind_some] at hx
  split at hx
  · exact .inl ‹_›
  · split at hx
    · cases hx
    · rename_i hh
      simp only [Bool.or_eq_true, decide_eq_true_eq, not_or] at hh
      exact .inr (by omega)
/-- where all rows are in Hermite form, the cells below a pivot are 0 -/
theorem her_below {R C : Nat} {l : List Int} (hl : l.length = R * C) {k : Nat} {last' : Int} (h' : herF C l k = some last') (hk : k ≤ R) {i : Nat} (hi : i < k) (hp : pv C l i < C) :
    ∀ j, i < j → j < k → pv C l i < pv C l j ∨ pv C l j = C := by
  have hle : ∀ j, j < k → pv C l j ≤ C := fun j hj => pv_le hl (by omega)
  -- from row i on 'last' is at least the pivot of i
  have key : ∀ d, i + 1 + d ≤ k → ∃ x, herF C l (i + 1 + d) = some x ∧ (pv C l i : Int) ≤ x := by
    intro d
    induction d with
    | zero =>
      intro hd
      cases e : herF C l (i + 1) with
      | none => rw [herF_none e hd] at h'; cases h'
      | some x =>
        refine ⟨x, rfl, ?_⟩
        rw [herF] at e
        obtain ⟨q, _, h2⟩ := Option.bind_eq_some_iff.1 e
        split at h2
        · omega
        · split at h2
          · cases h2
          · cases h2; exact Int.le_refl _
    | succ d ih =>
      intro hd
      obtain ⟨y, hy, hyl⟩ := ih (by omega)
      cases e : herF C l (i + 1 + (d + 1)) with
      | none => rw [herF_none e hd] at h'; cases h'
      | some x =>
        refine ⟨x, rfl, ?_⟩
        rw [show i + 1 + (d + 1) = (i + 1 + d) + 1 by omega, herF, hy] at e
        simp only [Option.bind_some] at e
        split at e
        · cases e; have := hle i hi; omega
        · split at e
          · cases e
          · rename_i hh
            cases e
            simp only [Bool.or_eq_true, decide_eq_true_eq, not_or] at hh
            omega
  intro j hij hjk
  obtain ⟨y, hy, hyl⟩ := key (j - i - 1) (by omega)
  rw [show i + 1 + (j - i - 1) = j by omega] at hy
  cases e : herF C l (j + 1) with
  | none => rw [herF_none e (by omega)] at h'; cases h'
  | some x =>
    rw [herF, hy] at e
    simp only [Option.bind_some] at e
    split at e
    · exact .inr ‹_›
    · split at e
      · cases e
      · rename_i hh
        simp only [Bool.or_eq_true, decide_eq_true_eq, not_or] at hh
        left; omega
theorem her_cell {R C : Nat} {l : List Int} (hl : l.length = R * C) (h : herB R C l = true) {i j : Nat} (hi : i < R) (hp : pv C l i < C) (hij : i < j) (hj : j < R) : nth l (j * C + pv C l i) = 0 := by
  obtain ⟨x, hx⟩ := Option.isSome_iff_exists.1 h
  refine pv_zero hp ?_
  rcases her_below hl hx (Nat.le_refl R) hi hp j hij hj with e | e <;> omega

section
set_option maxHeartbeats 1000000
theorem iHer_c (r c : Int) (A : Option Addr) (l : List Int) (n cap : Nat) (w : World) (hn : l.length = n) (hcap : n ≤ cap) (hcap2 : cap ≤ 9223372036854775807) (ha : Rd w A l) (hl : n ≤ 1099511627776) :
    Calls Try.prog 116 #[.agg #[.int .i64 r, .int .i64 c, .slice A n cap]] w fun e w' => e = .returned (.bool (isMat r c l && herB r.toNat c.toNat l)) ∧ Grows w w' := by
  have HS := fun w h => iIsMatrix_c r c A l n cap w hn h hl
  obtain ⟨w1, hw1⟩ : ∃ w1, w1 = w.alloc (.cells #[.int .i64 r, .int .i64 c, .slice A n cap] 26) := ⟨_, rfl⟩
  have mb1 : MBox w1 w.heap.size r c (.slice A n cap) := by rw [hw1]; exact MBox.mk_ _ _ _ _ _
  have g01 : Grows w w1 := by rw [hw1]; ((repeat' (first | with_reducible exact Below.refl _ _ | with_reducible assumption | (with_reducible refine Below.setCell ?_ ?_ _) | (with_reducible refine Below.alloc ?_ ?_ _) | (with_reducible refine Below.drew ?_) | (with_reducible refine below_drewN ?_ _))); all_goals (first | omega | (simp; done) | (simp; omega) | (simp [*]; done) | (simp at *; omega)))
  have HW1 := Lib.hid hw1
  clear hw1
  cases hq : isMat r c l
  · rw [hq] at HS
    have HS' := Lib.hid HS
    clear HS hq hn
    go_enter Try.func116, Try.ntmps116
    go_wp2_with fail
    refine (HS'.out _ (by exact (Rd.grows ha (by ((repeat' (first | with_reducible exact Below.refl _ _ | with_reducible assumption | (with_reducible refine Below.setCell ?_ ?_ _) | (with_reducible refine Below.alloc ?_ ?_ _) | (with_reducible refine Below.drew ?_) | (with_reducible refine below_drewN ?_ _))); all_goals (first | omega | (simp; done) | (simp; omega) | (simp [*]; done) | (simp at *; omega))))))).mono ?_; rintro e w2 ⟨rfl, g2⟩
    go_wp2_with fail
    go_ret
    exact ⟨by simp, by (have bz0 := Below.size (g2); (try simp at bz0); (repeat' (first | with_reducible exact Below.refl _ _ | with_reducible assumption | (with_reducible refine Below.setCell ?_ ?_ _) | (with_reducible refine Below.alloc ?_ ?_ _) | (with_reducible refine Below.drew ?_) | (with_reducible refine below_drewN ?_ _) | (with_reducible refine Below.trans ?_ (Below.mono (g2) ?_)))); all_goals (first | omega | (simp; done) | (simp; omega) | (simp [*]; done) | (simp at *; omega)))⟩
  · obtain ⟨R, C, rfl, rfl, hR, hC, hlen, hnum⟩ := isMat_nat hq
    rw [hq] at HS
    have HS' := Lib.hid HS
    simp only [Int.toNat_natCast]
    rw [show (true && herB R C l) = (herF C l R).isSome from rfl]
    have HN := Lib.hid hn
    have HLN := Lib.hid hlen
    have ha1 : Rd w1 A l := ha.grows g01
    have HPV := Lib.hid fun i hi => pv_le (i := i) hlen hi
    have HRC : R * C ≤ 576 := Nat.mul_le_mul hR hC
    clear HS hq hn hlen hnum
    go_enter Try.func116, Try.ntmps116
    go_wp2_with fail
    refine (HS'.out _ (by exact (Rd.grows ha (by ((repeat' (first | with_reducible exact Below.refl _ _ | with_reducible assumption | (with_reducible refine Below.setCell ?_ ?_ _) | (with_reducible refine Below.alloc ?_ ?_ _) | (with_reducible refine Below.drew ?_) | (with_reducible refine below_drewN ?_ _))); all_goals (first | omega | (simp; done) | (simp; omega) | (simp [*]; done) | (simp at *; omega))))))).mono ?_; rintro e w2 ⟨rfl, g2⟩
    rw [← HW1.out] at g2
    go_wp2_with fail
    go_loopw [3, 4] (fun q i wr => ∃ (I : Nat) (last : Int), i = .int .i64 I ∧ I ≤ R ∧ q = .int .i64 last ∧ herF C l I = some last ∧ Grows w1 wr) (fun _ i _ => R - (intOf i).toNat)
    case atStart => exact ⟨0, -1, rfl, Nat.zero_le _, rfl, rfl, by (have bz0 := Below.size (g2); (try simp at bz0); (repeat' (first | with_reducible exact Below.refl _ _ | with_reducible assumption | (with_reducible refine Below.setCell ?_ ?_ _) | (with_reducible refine Below.alloc ?_ ?_ _) | (with_reducible refine Below.drew ?_) | (with_reducible refine below_drewN ?_ _) | (with_reducible refine Below.trans ?_ (Below.mono (g2) ?_)))); all_goals (first | omega | (simp; done) | (simp; omega) | (simp [*]; done) | (simp at *; omega)))⟩
    case round =>
      clear g2
      obtain ⟨I, last, rfl, hI, rfl, hH, hg⟩ := hrel
      have HH := Lib.hid hH
      have hlb := herF_bd (fun j hj => HPV.out j (by omega)) hH
      clear hH
      obtain ⟨b0, b1, b2⟩ := (mb1.grows hg).cells
      by_cases hlt : I < R
      · have hIR : (I + 1) * C ≤ R * C := Nat.mul_le_mul_right C hlt
        have hIC : I * C + C ≤ R * C := by have := hIR; rw [Nat.add_mul, Nat.one_mul] at this; exact this
        have CR := Lib.hid fun W => row_c R C A l n cap I I W rfl HN.out hcap hcap2 (by have := HLN.out; have := HN.out; omega) (by omega) (by omega)
        have hra := (ha1.grows hg)
        have rr := rowA_rd (cap := cap) (C := C) (I := I) hra (by rw [HLN.out]; exact hIR) (by rw [HN.out]; exact hcap)
        have rl : (rowL C l I).length = C := rowL_length (by rw [HLN.out]; exact hIR)
        have CF := fun W h => firstCell_c (rowA cap C A I) (rowL C l I) C (cap - I * C) W rl h (by omega)
        rw [fcI_pv HLN.out hlt] at CF
        have hpv := HPV.out I hlt
        have RR := Lib.hid rr
        have HLI := Lib.hid hIC
        clear rl hIR hIC rr
        generalize rowA cap C A I = dS at *
        by_cases hz : pv C l I = C
        · rw [if_pos hz] at CF
          have CF' := Lib.hid CF
          have F := Lib.hid (herF_zero HH.out hz)
          clear CF hz
          go_wp2_with fail
          refine (CR.out _).mono ?_; rintro e w3 ⟨rfl, g3⟩
          have hrs := RR.out
          go_wp2_with fail
          refine (CF'.out _ (by exact (Rd.grows hrs (by (have bz0 := Below.size (g3); (try simp at bz0); (repeat' (first | with_reducible exact Below.refl _ _ | with_reducible assumption | (with_reducible refine Below.setCell ?_ ?_ _) | (with_reducible refine Below.alloc ?_ ?_ _) | (with_reducible refine Below.drew ?_) | (with_reducible refine below_drewN ?_ _) | (with_reducible refine Below.trans ?_ (Below.mono (g3) ?_)))); all_goals (first | omega | (simp; done) | (simp; omega) | (simp [*]; done) | (simp at *; omega))))))).mono ?_; rintro e w' ⟨rfl, rfl⟩
          clear b0 b1 b2 hrs
          obtain ⟨b0, b1, b2⟩ := (mb1.grows (w' := w3) (by (have bz0 := Below.size (g3); (try simp at bz0); have bz1 := Below.size (hg); (try simp at bz1); (repeat' (first | with_reducible exact Below.refl _ _ | with_reducible assumption | (with_reducible refine Below.setCell ?_ ?_ _) | (with_reducible refine Below.alloc ?_ ?_ _) | (with_reducible refine Below.drew ?_) | (with_reducible refine below_drewN ?_ _) | (with_reducible refine Below.trans ?_ (Below.mono (g3) ?_)) | (with_reducible refine Below.trans ?_ (Below.mono (hg) ?_)))); all_goals (first | omega | (simp; done) | (simp; omega) | (simp [*]; done) | (simp at *; omega))))).cells
          go_wp2_with fail
          go_round
          case rel => exact ⟨I + 1, _, by go_num, by omega, rfl, F.out, by (have bz0 := Below.size (g3); (try simp at bz0); have bz1 := Below.size (hg); (try simp at bz1); (repeat' (first | with_reducible exact Below.refl _ _ | with_reducible assumption | (with_reducible refine Below.setCell ?_ ?_ _) | (with_reducible refine Below.alloc ?_ ?_ _) | (with_reducible refine Below.drew ?_) | (with_reducible refine below_drewN ?_ _) | (with_reducible refine Below.trans ?_ (Below.mono (g3) ?_)) | (with_reducible refine Below.trans ?_ (Below.mono (hg) ?_)))); all_goals (first | omega | (simp; done) | (simp; omega) | (simp [*]; done) | (simp at *; omega)))⟩
          case measure => simp [intOf]; omega
        · rw [if_neg hz] at CF
          have CF' := Lib.hid CF
          have hix : I * C + pv C l I < l.length := by rw [HLN.out]; exact idx_lt hlt (by omega)
          have q1 := castMul I C
          have q2 : (I : Int) * (C : Int) ≤ ((576 : Nat) : Int) := castMulLe (by have := HLI.out; omega)
          have q3 := castPos I C (pv C l I)
          have q4 : (I : Int) * (C : Int) + (pv C l I : Int) < (l.length : Int) := castLt hix
          have CA := fun W h => at_c R C A l n cap I (pv C l I) W HN.out h (by omega) (by omega) (by omega) (by omega) (by rw [HLN.out]; omega)
          rw [castIdx] at CA
          have FB := Lib.hid fun hb => herF_bad HH.out hz hb
          have FG := Lib.hid fun h1 h2 h3 => herF_good HH.out hz h1 h2 h3
          have HAT := Lib.hid fun k (hk : k < I) h => upB_at (C := C) (l := l) (i := I) (p := pv C l I) hk h
          have HUS := Lib.hid fun k => upB_succ C l I (pv C l I) k
          have CK := Lib.hid fun (k : Nat) (hk : k < I) W h => at_c R C A l n cap k (pv C l I) W HN.out h (castMul k C) (by have := castMulLe (i := k) (c := C) (n := 576) (by have := Nat.mul_le_mul_right C (Nat.le_of_lt hk); have := HLI.out; omega); omega) (castPos k C (pv C l I)) (castLt (by rw [HLN.out]; exact idx_lt (by omega) (by omega))) (by rw [HLN.out]; omega)
          have hpz : ¬ ((pv C l I : Int) < 0) := by omega
          have HPC := Lib.hid (show pv C l I < C by omega)
          clear CF hz q1 q2 q3 q4 hix
          generalize hP : pv C l I = P at *
          generalize hX : nth l (I * C + P) = X at *
          have HP := Lib.hid hP
          have HX := Lib.hid hX
          have CA' := Lib.hid CA
          clear CA hP hX
          by_cases h1 : (P : Int) ≤ last
          · have FD := Lib.hid (herF_none (k := R) (FB.out (.inl h1)) (by omega))
            go_wp2_with fail
            refine (CR.out _).mono ?_; rintro e w3 ⟨rfl, g3⟩
            have hrs := RR.out
            go_wp2_with fail
            refine (CF'.out _ (by exact (Rd.grows hrs (by (have bz0 := Below.size (g3); (try simp at bz0); (repeat' (first | with_reducible exact Below.refl _ _ | with_reducible assumption | (with_reducible refine Below.setCell ?_ ?_ _) | (with_reducible refine Below.alloc ?_ ?_ _) | (with_reducible refine Below.drew ?_) | (with_reducible refine below_drewN ?_ _) | (with_reducible refine Below.trans ?_ (Below.mono (g3) ?_)))); all_goals (first | omega | (simp; done) | (simp; omega) | (simp [*]; done) | (simp at *; omega))))))).mono ?_; rintro e w' ⟨rfl, rfl⟩
            go_wp2_with fail
            go_ret
            exact ⟨ret_bool (by rw [FD.out]; rfl), by (have bz0 := Below.size (g3); (try simp at bz0); have bz1 := Below.size (hg); (try simp at bz1); have bz2 := Below.size (g01); (try simp at bz2); (repeat' (first | with_reducible exact Below.refl _ _ | with_reducible assumption | (with_reducible refine Below.setCell ?_ ?_ _) | (with_reducible refine Below.alloc ?_ ?_ _) | (with_reducible refine Below.drew ?_) | (with_reducible refine below_drewN ?_ _) | (with_reducible refine Below.trans ?_ (Below.mono (g3) ?_)) | (with_reducible refine Below.trans ?_ (Below.mono (hg) ?_)) | (with_reducible refine Below.trans ?_ (Below.mono (g01) ?_)))); all_goals (first | omega | (simp; done) | (simp; omega) | (simp [*]; done) | (simp at *; omega)))⟩
          · by_cases h2 : X < 0
            · have FD := Lib.hid (herF_none (k := R) (FB.out (.inr (.inl h2))) (by omega))
              have hg1 : Grows w1 wr := hg
              go_wp2_with fail
              refine (CR.out _).mono ?_; rintro e w3 ⟨rfl, g3⟩
              have hrs := RR.out
              go_wp2_with fail
              refine (CF'.out _ (by exact (Rd.grows hrs (by (have bz0 := Below.size (g3); (try simp at bz0); (repeat' (first | with_reducible exact Below.refl _ _ | with_reducible assumption | (with_reducible refine Below.setCell ?_ ?_ _) | (with_reducible refine Below.alloc ?_ ?_ _) | (with_reducible refine Below.drew ?_) | (with_reducible refine below_drewN ?_ _) | (with_reducible refine Below.trans ?_ (Below.mono (g3) ?_)))); all_goals (first | omega | (simp; done) | (simp; omega) | (simp [*]; done) | (simp at *; omega))))))).mono ?_; rintro e w' ⟨rfl, rfl⟩
              clear b0 b1 b2 hrs
              obtain ⟨b0, b1, b2⟩ := (mb1.grows (w' := w3) (by (have bz0 := Below.size (g3); (try simp at bz0); have bz1 := Below.size (hg); (try simp at bz1); (repeat' (first | with_reducible exact Below.refl _ _ | with_reducible assumption | (with_reducible refine Below.setCell ?_ ?_ _) | (with_reducible refine Below.alloc ?_ ?_ _) | (with_reducible refine Below.drew ?_) | (with_reducible refine below_drewN ?_ _) | (with_reducible refine Below.trans ?_ (Below.mono (g3) ?_)) | (with_reducible refine Below.trans ?_ (Below.mono (hg) ?_)))); all_goals (first | omega | (simp; done) | (simp; omega) | (simp [*]; done) | (simp at *; omega))))).cells
              go_wp2_with fail
              refine (CA'.out _ (by exact (Rd.grows hra (by (have bz0 := Below.size (g3); (try simp at bz0); (repeat' (first | with_reducible exact Below.refl _ _ | with_reducible assumption | (with_reducible refine Below.setCell ?_ ?_ _) | (with_reducible refine Below.alloc ?_ ?_ _) | (with_reducible refine Below.drew ?_) | (with_reducible refine below_drewN ?_ _) | (with_reducible refine Below.trans ?_ (Below.mono (g3) ?_)))); all_goals (first | omega | (simp; done) | (simp; omega) | (simp [*]; done) | (simp at *; omega))))))).mono ?_; rintro e w4 ⟨rfl, g4⟩
              go_wp2_with fail
              go_ret
              exact ⟨ret_bool (by rw [FD.out]; rfl), by (have bz0 := Below.size (g4); (try simp at bz0); have bz1 := Below.size (g3); (try simp at bz1); have bz2 := Below.size (hg); (try simp at bz2); have bz3 := Below.size (g01); (try simp at bz3); (repeat' (first | with_reducible exact Below.refl _ _ | with_reducible assumption | (with_reducible refine Below.setCell ?_ ?_ _) | (with_reducible refine Below.alloc ?_ ?_ _) | (with_reducible refine Below.drew ?_) | (with_reducible refine below_drewN ?_ _) | (with_reducible refine Below.trans ?_ (Below.mono (g4) ?_)) | (with_reducible refine Below.trans ?_ (Below.mono (g3) ?_)) | (with_reducible refine Below.trans ?_ (Below.mono (hg) ?_)) | (with_reducible refine Below.trans ?_ (Below.mono (g01) ?_)))); all_goals (first | omega | (simp; done) | (simp; omega) | (simp [*]; done) | (simp at *; omega)))⟩
            · have H12 := Lib.hid (show ¬ (P : Int) ≤ last ∧ ¬ X < 0 from ⟨h1, h2⟩)
              go_wp2_with fail
              refine (CR.out _).mono ?_; rintro e w3 ⟨rfl, g3⟩
              have hrs := RR.out
              go_wp2_with fail
              refine (CF'.out _ (by exact (Rd.grows hrs (by (have bz0 := Below.size (g3); (try simp at bz0); (repeat' (first | with_reducible exact Below.refl _ _ | with_reducible assumption | (with_reducible refine Below.setCell ?_ ?_ _) | (with_reducible refine Below.alloc ?_ ?_ _) | (with_reducible refine Below.drew ?_) | (with_reducible refine below_drewN ?_ _) | (with_reducible refine Below.trans ?_ (Below.mono (g3) ?_)))); all_goals (first | omega | (simp; done) | (simp; omega) | (simp [*]; done) | (simp at *; omega))))))).mono ?_; rintro e w' ⟨rfl, rfl⟩
              clear b0 b1 b2 hrs
              obtain ⟨b0, b1, b2⟩ := (mb1.grows (w' := w3) (by (have bz0 := Below.size (g3); (try simp at bz0); have bz1 := Below.size (hg); (try simp at bz1); (repeat' (first | with_reducible exact Below.refl _ _ | with_reducible assumption | (with_reducible refine Below.setCell ?_ ?_ _) | (with_reducible refine Below.alloc ?_ ?_ _) | (with_reducible refine Below.drew ?_) | (with_reducible refine below_drewN ?_ _) | (with_reducible refine Below.trans ?_ (Below.mono (g3) ?_)) | (with_reducible refine Below.trans ?_ (Below.mono (hg) ?_)))); all_goals (first | omega | (simp; done) | (simp; omega) | (simp [*]; done) | (simp at *; omega))))).cells
              go_wp2_with fail
              refine (CA'.out _ (by exact (Rd.grows hra (by (have bz0 := Below.size (g3); (try simp at bz0); (repeat' (first | with_reducible exact Below.refl _ _ | with_reducible assumption | (with_reducible refine Below.setCell ?_ ?_ _) | (with_reducible refine Below.alloc ?_ ?_ _) | (with_reducible refine Below.drew ?_) | (with_reducible refine below_drewN ?_ _) | (with_reducible refine Below.trans ?_ (Below.mono (g3) ?_)))); all_goals (first | omega | (simp; done) | (simp; omega) | (simp [*]; done) | (simp at *; omega))))))).mono ?_; rintro e w4 ⟨rfl, g4⟩
              have g14 : Grows w1 w4 := by (have bz0 := Below.size (g4); (try simp at bz0); have bz1 := Below.size (g3); (try simp at bz1); have bz2 := Below.size (hg); (try simp at bz2); (repeat' (first | with_reducible exact Below.refl _ _ | with_reducible assumption | (with_reducible refine Below.setCell ?_ ?_ _) | (with_reducible refine Below.alloc ?_ ?_ _) | (with_reducible refine Below.drew ?_) | (with_reducible refine below_drewN ?_ _) | (with_reducible refine Below.trans ?_ (Below.mono (g4) ?_)) | (with_reducible refine Below.trans ?_ (Below.mono (g3) ?_)) | (with_reducible refine Below.trans ?_ (Below.mono (hg) ?_)))); all_goals (first | omega | (simp; done) | (simp; omega) | (simp [*]; done) | (simp at *; omega)))
              clear b0 b1 b2 g3 g4 hg hra
              go_wp2_with fail
              obtain ⟨wo, rfl⟩ : ∃ wo : World, wo = wr := ⟨_, rfl⟩
              go_loopw [6] (fun k wr => ∃ (K : Nat), k = .int .i64 K ∧ K ≤ I ∧ upB C l I P K = false ∧ Grows w1 wr) (fun k _ => I - (intOf k).toNat)
              case atStart => exact ⟨0, rfl, Nat.zero_le _, rfl, g14⟩
              case round =>
                clear g14
                obtain ⟨K, rfl, hK, hup, hg⟩ := hrel
                have HUP := Lib.hid hup
                clear hup
                by_cases hlt2 : K < I
                · have hd := ha1.grows hg
                  obtain ⟨x0, x1, x2⟩ := (mb1.grows hg).ext
                  have CKK := fun W h => CK.out K hlt2 W h
                  rw [castIdx] at CKK
                  have HAK := Lib.hid (HAT.out K hlt2)
                  have HSK := Lib.hid (HUS.out K)
                  generalize nth l (K * C + P) = y at *
                  have CKK' := Lib.hid CKK
                  clear CKK
                  by_cases hy : y < 0
                  · have FD := Lib.hid (herF_none (k := R) (FB.out (.inr (.inr (HAK.out (.inl hy))))) (by omega))
                    have hy' : decide (y < 0) = true := by simpa using hy
                    go_wp2_with fail
                    ((refine wp_region_ext (by kernel_rfl) (by kernel_rfl) ?_); (repeat (go_big_quiet_step ((go_at_call 78; with_reducible exact extC (CKK'.out _ (Rd.ext hd _)))))); refine wpQuiet_nil ?_; rintro w5 ⟨w50, hw50⟩; have g5 := grows_of_ext hw50; clear hw50 w50)
                    go_wp2_with fail
                    go_ret
                    exact ⟨ret_bool (by rw [FD.out]; rfl), by (have bz0 := Below.size (g5); (try simp at bz0); have bz1 := Below.size (hg); (try simp at bz1); have bz2 := Below.size (g01); (try simp at bz2); (repeat' (first | with_reducible exact Below.refl _ _ | with_reducible assumption | (with_reducible refine Below.setCell ?_ ?_ _) | (with_reducible refine Below.alloc ?_ ?_ _) | (with_reducible refine Below.drew ?_) | (with_reducible refine below_drewN ?_ _) | (with_reducible refine Below.trans ?_ (Below.mono (g5) ?_)) | (with_reducible refine Below.trans ?_ (Below.mono (hg) ?_)) | (with_reducible refine Below.trans ?_ (Below.mono (g01) ?_)))); all_goals (first | omega | (simp; done) | (simp; omega) | (simp [*]; done) | (simp at *; omega)))⟩
                  · by_cases hy2 : X ≤ y
                    · have FD := Lib.hid (herF_none (k := R) (FB.out (.inr (.inr (HAK.out (.inr hy2))))) (by omega))
                      have hy' : decide (y < 0) = false := by simpa using hy
                      have hy2' : decide (X ≤ y) = true := by simpa using hy2
                      go_wp2_with fail
                      ((refine wp_region_ext (by kernel_rfl) (by kernel_rfl) ?_); (repeat (go_big_quiet_step ((first | (go_at_call 78; with_reducible exact extC (CKK'.out _ (Rd.ext hd _))) | (go_at_call 78; with_reducible exact extC (CA'.out _ (Rd.ext hd _))))))); refine wpQuiet_nil ?_; rintro w5 ⟨w50, hw50⟩; have g5 := grows_of_ext hw50; clear hw50 w50)
                      go_wp2_with fail
                      go_ret
                      exact ⟨ret_bool (by rw [FD.out]; rfl), by (have bz0 := Below.size (g5); (try simp at bz0); have bz1 := Below.size (hg); (try simp at bz1); have bz2 := Below.size (g01); (try simp at bz2); (repeat' (first | with_reducible exact Below.refl _ _ | with_reducible assumption | (with_reducible refine Below.setCell ?_ ?_ _) | (with_reducible refine Below.alloc ?_ ?_ _) | (with_reducible refine Below.drew ?_) | (with_reducible refine below_drewN ?_ _) | (with_reducible refine Below.trans ?_ (Below.mono (g5) ?_)) | (with_reducible refine Below.trans ?_ (Below.mono (hg) ?_)) | (with_reducible refine Below.trans ?_ (Below.mono (g01) ?_)))); all_goals (first | omega | (simp; done) | (simp; omega) | (simp [*]; done) | (simp at *; omega)))⟩
                    · have HNX := Lib.hid (show upB C l I P (K + 1) = false by rw [HSK.out, HUP.out]; simp; omega)
                      have hy' : decide (y < 0) = false := by simpa using hy
                      have hy2' : decide (X ≤ y) = false := by simpa using hy2
                      go_wp2_with fail
                      ((refine wp_region_ext (by kernel_rfl) (by kernel_rfl) ?_); (repeat (go_big_quiet_step ((first | (go_at_call 78; with_reducible exact extC (CKK'.out _ (Rd.ext hd _))) | (go_at_call 78; with_reducible exact extC (CA'.out _ (Rd.ext hd _))))))); refine wpQuiet_nil ?_; rintro w5 ⟨w50, hw50⟩; have g5 := grows_of_ext hw50; clear hw50 w50)
                      go_wp2_with fail
                      go_round
                      case rel => exact ⟨K + 1, by go_num, by omega, HNX.out, by (have bz0 := Below.size (g5); (try simp at bz0); have bz1 := Below.size (hg); (try simp at bz1); (repeat' (first | with_reducible exact Below.refl _ _ | with_reducible assumption | (with_reducible refine Below.setCell ?_ ?_ _) | (with_reducible refine Below.alloc ?_ ?_ _) | (with_reducible refine Below.drew ?_) | (with_reducible refine below_drewN ?_ _) | (with_reducible refine Below.trans ?_ (Below.mono (g5) ?_)) | (with_reducible refine Below.trans ?_ (Below.mono (hg) ?_)))); all_goals (first | omega | (simp; done) | (simp; omega) | (simp [*]; done) | (simp at *; omega)))⟩
                      case measure => simp [intOf]; omega
                · obtain rfl : K = I := by omega
                  have FD := Lib.hid (FG.out H12.out.1 H12.out.2 HUP.out)
                  go_wp2_with fail
                  go_round
                  case rel => exact ⟨K + 1, _, by go_num, by omega, rfl, FD.out, hg⟩
                  case measure => simp [intOf]; omega
      · obtain rfl : I = R := by omega
        go_wp2_with fail
        go_ret
        exact ⟨ret_bool (by rw [HH.out]; rfl), by (have bz0 := Below.size (hg); (try simp at bz0); have bz1 := Below.size (g01); (try simp at bz1); (repeat' (first | with_reducible exact Below.refl _ _ | with_reducible assumption | (with_reducible refine Below.setCell ?_ ?_ _) | (with_reducible refine Below.alloc ?_ ?_ _) | (with_reducible refine Below.drew ?_) | (with_reducible refine below_drewN ?_ _) | (with_reducible refine Below.trans ?_ (Below.mono (hg) ?_)) | (with_reducible refine Below.trans ?_ (Below.mono (g01) ?_)))); all_goals (first | omega | (simp; done) | (simp; omega) | (simp [*]; done) | (simp at *; omega)))⟩
end
end Go.Proofs.Ytpfijhcjempfjaa
