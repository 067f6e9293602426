/- Contracts: determinants by expansion. -/
import Derived.Test.YtpfijhcjempfjaaCross
namespace Go.Proofs.Ytpfijhcjempfjaa
open Go.RowKit

/-! ### plain -/
def numO (x : Int) : Option Int := if isNum x then some x else none
theorem numO_some {x y : Int} (h : numO x = some y) : x = y ∧ isNum y = true := by
  unfold numO at h
  split at h
  · cases h; exact ⟨rfl, by assumption⟩
  · cases h
def sgn (j : Nat) : Int := if j % 2 = 1 then -1 else 1
/-- the first j summands of an expansion along the first row -/
def dpart (D : List Int → Option Int) (C : Nat) (l : List Int) : Nat → Option Int
  | 0 => some 0
  | j + 1 => (dpart D C l j).bind fun s => if nth l j = 0 then some s else (D (crs C l 0 j (C * C))).map fun d => s + sgn j * nth l j * d
/-- the determinant of a square of n rows, where it and what it needs fit -/
def detO : Nat → List Int → Option Int
  | 0, _ => some 1
  | n + 1, l => (dpart (detO n) (n + 1) l (n + 1)).bind numO
theorem detO_num {n : Nat} {l : List Int} {d : Int} (h : detO n l = some d) : isNum d = true := by
  cases n with
  | zero => cases h; rfl
  | succ n =>
    rw [detO] at h
    obtain ⟨s, _, hs⟩ := Option.bind_eq_some_iff.1 h
    exact (numO_some hs).2
theorem dpart_none {D : List Int → Option Int} {C : Nat} {l : List Int} {j k : Nat} (h : dpart D C l j = none) (hk : j ≤ k) : dpart D C l k = none := by
  induction k with
  | zero => rw [show j = 0 by omega] at h; exact h
  | succ k ih =>
    by_cases e : j = k + 1
    · rw [← e]; exact h
    · rw [dpart, ih (by omega)]; rfl
theorem dpart_zero {D : List Int → Option Int} {C : Nat} {l : List Int} {j : Nat} {s : Int} (h : dpart D C l j = some s) (hz : nth l j = 0) : dpart D C l (j + 1) = some s := by
  rw [dpart, h]; simp [hz]
theorem dpart_fail {D : List Int → Option Int} {C : Nat} {l : List Int} {j : Nat} {s : Int} (h : dpart D C l j = some s) (hz : nth l j ≠ 0) (hd : D (crs C l 0 j (C * C)) = none) : dpart D C l (j + 1) = none := by
  rw [dpart, h]; simp [hz, hd]
theorem dpart_some {D : List Int → Option Int} {C : Nat} {l : List Int} {j : Nat} {s d : Int} (h : dpart D C l j = some s) (hz : nth l j ≠ 0) (hd : D (crs C l 0 j (C * C)) = some d) : dpart D C l (j + 1) = some (s + sgn j * nth l j * d) := by
  rw [dpart, h]; simp [hz, hd]
theorem sgn_odd {j : Nat} (h : j % 2 = 1) : sgn j = -1 := by unfold sgn; rw [if_pos h]
theorem sgn_even {j : Nat} (h : ¬ j % 2 = 1) : sgn j = 1 := by unfold sgn; rw [if_neg h]
theorem sgn_succ (j : Nat) : sgn (j + 1) = -sgn j := by
  unfold sgn; split <;> split <;> first | rfl | omega
theorem neg_num {x : Int} (h : isNum x = true) : isNum (-x) = true := by rw [isNum_iff] at *; omega
theorem sgn_mul (j : Nat) (x d : Int) (hx : isNum x = true) (hd : isNum d = true) : -160000000000000000 ≤ sgn j * x * d ∧ sgn j * x * d ≤ 160000000000000000 := by
  unfold sgn
  split
  · rw [Int.neg_one_mul]; exact mul_bd (neg_num hx) hd
  · rw [Int.one_mul]; exact mul_bd hx hd
theorem dpart_bd {D : List Int → Option Int} {C : Nat} {l : List Int} (hD : ∀ m d, D m = some d → isNum d = true) (hl : ∀ i, i < l.length → isNum (nth l i) = true) {j : Nat} (hj : j ≤ l.length) {s : Int} (h : dpart D C l j = some s) :
    -(160000000000000000 * (j : Int)) ≤ s ∧ s ≤ 160000000000000000 * (j : Int) := by
  induction j generalizing s with
  | zero => cases h; simp
  | succ j ih =>
    rw [dpart] at h
    obtain ⟨s', h1, h2⟩ := Option.bind_eq_some_iff.1 h
    have := ih (by omega) h1
    split at h2
    · cases h2; omega
    · obtain ⟨d, h3, rfl⟩ := Option.map_eq_some_iff.1 h2
      have := sgn_mul j (nth l j) d (hl j (by omega)) (hD _ _ h3)
      omega

theorem crs_len_row {C : Nat} {l : List Int} {ri ci I : Nat} (J : Nat) (hJ : J ≤ C) : (crs C l ri ci (I * C + J)).length = (crs C l ri ci (I * C)).length + (if I = ri then 0 else if ci < J then J - 1 else J) := by
  induction J with
  | zero => simp
  | succ J ih =>
    by_cases h : I ≠ ri ∧ J ≠ ci
    · rw [crs_take (by omega) h.1 h.2, List.length_append, ih (by omega), if_neg h.1, if_neg h.1]
      have := h.2
      simp only [List.length_singleton]
      split <;> split <;> omega
    · rw [crs_skip (by omega) (by omega), ih (by omega)]
      by_cases e : I = ri
      · rw [if_pos e, if_pos e]
      · rw [if_neg e, if_neg e]
        have : J = ci := by omega
        subst this
        simp
theorem crs_len {C : Nat} {l : List Int} {ri ci : Nat} (hci : ci < C) (I : Nat) : (crs C l ri ci (I * C)).length = (if ri < I then I - 1 else I) * (C - 1) := by
  induction I with
  | zero => simp [crs]
  | succ I ih =>
    have := crs_len_row (C := C) (l := l) (ri := ri) (ci := ci) (I := I) C (Nat.le_refl _)
    rw [show (I + 1) * C = I * C + C by rw [Nat.add_mul, Nat.one_mul], this, ih]
    by_cases e : I = ri
    · subst e
      rw [if_pos rfl, if_neg (by omega), if_pos (by omega)]
      simp
    · rw [if_neg e, if_pos hci]
      by_cases h : ri < I
      · rw [if_pos h, if_pos (by omega)]
        rw [show I + 1 - 1 = (I - 1) + 1 by omega, Nat.add_mul, Nat.one_mul]
      · rw [if_neg h, if_neg (by omega), Nat.add_mul, Nat.one_mul]
theorem crs_length_eq {R C : Nat} {l : List Int} {ri ci : Nat} (hri : ri < R) (hci : ci < C) : (crs C l ri ci (R * C)).length = (R - 1) * (C - 1) := by
  rw [crs_len hci, if_pos hri]
theorem crs_mem {C : Nat} {l : List Int} {ri ci k : Nat} {x : Int} (h : x ∈ crs C l ri ci k) : ∃ i, i < k ∧ x = nth l i := by
  induction k with
  | zero => simp [crs] at h
  | succ k ih =>
    rw [crs, List.mem_append] at h
    rcases h with h | h
    · obtain ⟨i, hi, e⟩ := ih h; exact ⟨i, by omega, e⟩
    · split at h
      · exact ⟨k, by omega, by simpa using h⟩
      · simp at h
theorem crs_num {C : Nat} {l : List Int} {ri ci k : Nat} (hk : k ≤ l.length) (hl : ∀ i, i < l.length → isNum (nth l i) = true) (i : Nat) (hi : i < (crs C l ri ci k).length) : isNum (nth (crs C l ri ci k) i) = true := by
  rw [nth_get _ _ hi]
  obtain ⟨j, hj, e⟩ := crs_mem (List.getElem_mem hi)
  rw [e]; exact hl j (by omega)

/-- the end of a function that finds a determinant -/
def DetPost (d : Option Int) (e : Ending) : Prop := ∃ x, e = .returned (.tuple #[.int .i64 x, .bool d.isSome]) ∧ ∀ y, d = some y → x = y
def oBad (d : Option Int) : Int := d.getD bad
theorem oBad_num {n : Nat} {l : List Int} : oBad (detO n l) = bad ∨ isNum (oBad (detO n l)) = true := by
  cases h : detO n l with
  | none => exact .inl rfl
  | some d => exact .inr (detO_num h)

section
set_option maxHeartbeats 1000000
theorem iDet_step (n N : Nat) (hN : N = n + 1) (hN2 : N ≤ 24)
    (ih : ∀ (l : List Int) (A : Option Addr) (m cap : Nat) (r : Int) (w : World), r = n → l.length = m → m = n * n → (∀ i, i < l.length → isNum (nth l i) = true) → Rd w A l →
      Calls Try.prog 121 #[.agg #[.int .i64 r, .int .i64 r, .slice A m cap]] w fun e w' => DetPost (detO n l) e ∧ Grows w w')
    (l : List Int) (A : Option Addr) (m cap : Nat) (w : World) (hm : l.length = m) (hmn : m = N * N) (hl : ∀ i, i < l.length → isNum (nth l i) = true) (ha : Rd w A l) :
    Calls Try.prog 121 #[.agg #[.int .i64 N, .int .i64 N, .slice A m cap]] w fun e w' => DetPost (detO N l) e ∧ Grows w w' := by
  have IH := Lib.hid ih
  have HN := Lib.hid hN
  have HM := Lib.hid hm
  have HMN := Lib.hid hmn
  have HL := Lib.hid hl
  have hNN : N * N ≤ 576 := Nat.mul_le_mul hN2 hN2
  have hNl : N ≤ l.length := by rw [hm, hmn]; exact Nat.le_mul_of_pos_left _ (by omega)
  have hl5 : l.length ≤ 576 := by rw [hm, hmn]; exact hNN
  have HB := Lib.hid fun (j : Nat) (s : Int) (hj : j ≤ l.length) (h : dpart (detO n) N l j = some s) => dpart_bd (fun m d h => detO_num h) hl hj h
  have HD := Lib.hid (show detO N l = (dpart (detO n) N l N).bind numO by rw [hN]; rfl)
  have e0 : ((N : Int) == 0) = false := by rw [beq_eq_false_iff_ne]; omega
  clear ih hN hm hmn hl
  obtain ⟨w1, hw1⟩ : ∃ w1, w1 = w.alloc (.cells #[.int .i64 N, .int .i64 N, .slice A m cap] 26) := ⟨_, rfl⟩
  have mb1 : MBox w1 w.heap.size N N (.slice A m cap) := by rw [hw1]; exact MBox.mk_ _ _ _ _ _
  have hg01 : Grows w w1 := by rw [hw1]; ((repeat' (first | with_reducible exact Below.refl _ _ | with_reducible assumption | (with_reducible refine Below.setCell ?_ ?_ _) | (with_reducible refine Below.alloc ?_ ?_ _) | (with_reducible refine Below.drew ?_) | (with_reducible refine below_drewN ?_ _))); all_goals (first | omega | (simp; done) | (simp; omega) | (simp [*]; done) | (simp at *; omega)))
  have ha1 : Rd w1 A l := ha.grows hg01
  have HW1 := Lib.hid hw1
  clear hw1
  go_enter Try.func121, Try.ntmps121
  go_wp2_with fail
  go_loopw [4, 5] (fun s j wr => ∃ (J : Nat) (S : Int), j = .int .i64 J ∧ s = .int .i64 S ∧ J ≤ N ∧ dpart (detO n) N l J = some S ∧ Grows w1 wr) (fun _ j _ => N - (intOf j).toNat)
  case atStart => exact ⟨0, 0, rfl, rfl, Nat.zero_le _, rfl, by rw [HW1.out]; ((repeat' (first | with_reducible exact Below.refl _ _ | with_reducible assumption | (with_reducible refine Below.setCell ?_ ?_ _) | (with_reducible refine Below.alloc ?_ ?_ _) | (with_reducible refine Below.drew ?_) | (with_reducible refine below_drewN ?_ _))); all_goals (first | omega | (simp; done) | (simp; omega) | (simp [*]; done) | (simp at *; omega)))⟩
  case round =>
    obtain ⟨J, S, rfl, rfl, hJ, hS, hg⟩ := hrel
    have HS := Lib.hid hS
    clear hS
    have mb := mb1.grows hg
    obtain ⟨b0, b1, b2⟩ := mb.cells
    by_cases hlt : J < N
    · have C0 := fun W (hrd : Rd W A l) => at_c N N A l m cap 0 J W HM.out hrd (by omega) (by omega) (by omega) (by omega) (by omega)
      rw [show (0 * (N : Int) + (J : Int)).toNat = J by simp] at C0
      have C0' := Lib.hid C0
      clear C0
      have hd := ha1.grows hg
      by_cases hz : nth l J = 0
      · have HZ := Lib.hid hz
        have hz' : (nth l J == 0) = true := by simpa using hz
        clear hz
        go_wp2_with fail
        refine (C0'.out _ (by exact (Rd.grows hd (by ((repeat' (first | with_reducible exact Below.refl _ _ | with_reducible assumption | (with_reducible refine Below.setCell ?_ ?_ _) | (with_reducible refine Below.alloc ?_ ?_ _) | (with_reducible refine Below.drew ?_) | (with_reducible refine below_drewN ?_ _))); all_goals (first | omega | (simp; done) | (simp; omega) | (simp [*]; done) | (simp at *; omega))))))).mono ?_; rintro e w2 ⟨rfl, g2⟩
        go_wp2_with fail
        go_round
        case rel => exact ⟨J + 1, S, by go_num, rfl, by omega, dpart_zero HS.out HZ.out, by (have bz0 := Below.size (g2); (try simp at bz0); have bz1 := Below.size (hg); (try simp at bz1); (repeat' (first | with_reducible exact Below.refl _ _ | with_reducible assumption | (with_reducible refine Below.setCell ?_ ?_ _) | (with_reducible refine Below.alloc ?_ ?_ _) | (with_reducible refine Below.drew ?_) | (with_reducible refine below_drewN ?_ _) | (with_reducible refine Below.trans ?_ (Below.mono (g2) ?_)) | (with_reducible refine Below.trans ?_ (Below.mono (hg) ?_)))); all_goals (first | omega | (simp; done) | (simp; omega) | (simp [*]; done) | (simp at *; omega)))⟩
        case measure => simp [intOf]; omega
      · have HZ := Lib.hid hz
        have hz' : (nth l J == 0) = false := by simpa using hz
        have hx := (isNum_iff _).1 (HL.out J (by omega))
        clear hz
        have CC := Lib.hid fun W (hrd : Rd W A l) => iCross_c N N A l m cap 0 J 0 J W HM.out rfl rfl HMN.out hN2 hN2 hrd
        have cl : (crs N l 0 J (N * N)).length = n * n := by rw [crs_length_eq (by omega) hlt, HN.out]; rfl
        have cn := crs_num (C := N) (l := l) (ri := 0) (ci := J) (k := N * N) (by rw [HM.out, HMN.out]; exact Nat.le_refl _) HL.out
        have II := Lib.hid fun W A' c' (hrd : Rd W A' (crs N l 0 J (N * N))) => IH.out (crs N l 0 J (N * N)) A' _ c' ((N : Int) - 1) W (by have := HN.out; omega) rfl cl cn hrd
        clear cl cn
        have F0 := Lib.hid fun h => dpart_fail (D := detO n) (C := N) (l := l) HS.out HZ.out h
        have F1 := Lib.hid fun d h => dpart_some (D := detO n) (C := N) (l := l) (d := d) HS.out HZ.out h
        have NN := Lib.hid fun d h => detO_num (n := n) (l := crs N l 0 J (N * N)) (d := d) h
        generalize crs N l 0 J (N * N) = t at *
        generalize hdd : detO n t = D at *
        go_wp2_with fail
        refine (C0'.out _ (by exact (Rd.grows hd (by ((repeat' (first | with_reducible exact Below.refl _ _ | with_reducible assumption | (with_reducible refine Below.setCell ?_ ?_ _) | (with_reducible refine Below.alloc ?_ ?_ _) | (with_reducible refine Below.drew ?_) | (with_reducible refine below_drewN ?_ _))); all_goals (first | omega | (simp; done) | (simp; omega) | (simp [*]; done) | (simp at *; omega))))))).mono ?_; rintro e w2 ⟨rfl, g2⟩
        clear b0 b1 b2
        obtain ⟨b0, b1, b2⟩ := (mb.grows g2).cells
        go_wp2_with fail
        refine (CC.out _ (by exact (Rd.grows hd (by (have bz0 := Below.size (g2); (try simp at bz0); (repeat' (first | with_reducible exact Below.refl _ _ | with_reducible assumption | (with_reducible refine Below.setCell ?_ ?_ _) | (with_reducible refine Below.alloc ?_ ?_ _) | (with_reducible refine Below.drew ?_) | (with_reducible refine below_drewN ?_ _) | (with_reducible refine Below.trans ?_ (Below.mono (g2) ?_)))); all_goals (first | omega | (simp; done) | (simp; omega) | (simp [*]; done) | (simp at *; omega))))))).mono ?_; rintro e w3 ⟨v3, rfl, ho3, g3⟩
        obtain ⟨A3, c3, rfl, hr3, _⟩ := ho3.val
        go_wp2_with fail
        refine (II.out _ _ _ (by exact (Rd.grows hr3 (by ((repeat' (first | with_reducible exact Below.refl _ _ | with_reducible assumption | (with_reducible refine Below.setCell ?_ ?_ _) | (with_reducible refine Below.alloc ?_ ?_ _) | (with_reducible refine Below.drew ?_) | (with_reducible refine below_drewN ?_ _))); all_goals (first | omega | (simp; done) | (simp; omega) | (simp [*]; done) | (simp at *; omega))))))).mono ?_; rintro e w4 ⟨⟨x, rfl, hx4⟩, g4⟩
        clear ho3 b0 b1 b2
        cases D with
        | none =>
          clear hx4
          have FD := Lib.hid (show detO N l = none by rw [HD.out, dpart_none (F0.out rfl) (show J + 1 ≤ N by omega)]; rfl)
          go_wp2_with fail
          go_ret2
          exact ⟨⟨0, by rw [FD.out]; rfl, fun y h => by rw [FD.out] at h; cases h⟩, by (have bz0 := Below.size (g4); (try simp at bz0); have bz1 := Below.size (g3); (try simp at bz1); have bz2 := Below.size (g2); (try simp at bz2); have bz3 := Below.size (hg); (try simp at bz3); have bz4 := Below.size (hg01); (try simp at bz4); (repeat' (first | with_reducible exact Below.refl _ _ | with_reducible assumption | (with_reducible refine Below.setCell ?_ ?_ _) | (with_reducible refine Below.alloc ?_ ?_ _) | (with_reducible refine Below.drew ?_) | (with_reducible refine below_drewN ?_ _) | (with_reducible refine Below.trans ?_ (Below.mono (g4) ?_)) | (with_reducible refine Below.trans ?_ (Below.mono (g3) ?_)) | (with_reducible refine Below.trans ?_ (Below.mono (g2) ?_)) | (with_reducible refine Below.trans ?_ (Below.mono (hg) ?_)) | (with_reducible refine Below.trans ?_ (Below.mono (hg01) ?_)))); all_goals (first | omega | (simp; done) | (simp; omega) | (simp [*]; done) | (simp at *; omega)))⟩
        | some d =>
          obtain rfl : x = d := hx4 d rfl
          have hd4 := (isNum_iff _).1 (NN.out x rfl)
          have hsb := HB.out J S (by omega) HS.out
          have hm1 := mul_bd (HL.out J (by omega)) (NN.out x rfl)
          have hm2 := mul_bd (neg_num (HL.out J (by omega))) (NN.out x rfl)
          have F := Lib.hid (F1.out x rfl)
          have HDD := Lib.hid hdd
          clear hx4 hdd
          by_cases hp : J % 2 = 1
          · have hp1 : ((J : Int) % 2 == 1) = true := by rw [beq_iff_eq]; omega
            have HP := Lib.hid (sgn_odd hp)
            clear hp
            go_wp2_with fail
            go_round
            case rel => exact ⟨J + 1, _, by go_num, rfl, by omega, by rw [F.out, HP.out, Int.neg_one_mul], by (have bz0 := Below.size (g4); (try simp at bz0); have bz1 := Below.size (g3); (try simp at bz1); have bz2 := Below.size (g2); (try simp at bz2); have bz3 := Below.size (hg); (try simp at bz3); (repeat' (first | with_reducible exact Below.refl _ _ | with_reducible assumption | (with_reducible refine Below.setCell ?_ ?_ _) | (with_reducible refine Below.alloc ?_ ?_ _) | (with_reducible refine Below.drew ?_) | (with_reducible refine below_drewN ?_ _) | (with_reducible refine Below.trans ?_ (Below.mono (g4) ?_)) | (with_reducible refine Below.trans ?_ (Below.mono (g3) ?_)) | (with_reducible refine Below.trans ?_ (Below.mono (g2) ?_)) | (with_reducible refine Below.trans ?_ (Below.mono (hg) ?_)))); all_goals (first | omega | (simp; done) | (simp; omega) | (simp [*]; done) | (simp at *; omega)))⟩
            case measure => simp [intOf]; omega
          · have hp1 : ((J : Int) % 2 == 1) = false := by rw [beq_eq_false_iff_ne]; omega
            have HP := Lib.hid (sgn_even hp)
            clear hp
            go_wp2_with fail
            go_round
            case rel => exact ⟨J + 1, _, by go_num, rfl, by omega, by rw [F.out, HP.out, Int.one_mul], by (have bz0 := Below.size (g4); (try simp at bz0); have bz1 := Below.size (g3); (try simp at bz1); have bz2 := Below.size (g2); (try simp at bz2); have bz3 := Below.size (hg); (try simp at bz3); (repeat' (first | with_reducible exact Below.refl _ _ | with_reducible assumption | (with_reducible refine Below.setCell ?_ ?_ _) | (with_reducible refine Below.alloc ?_ ?_ _) | (with_reducible refine Below.drew ?_) | (with_reducible refine below_drewN ?_ _) | (with_reducible refine Below.trans ?_ (Below.mono (g4) ?_)) | (with_reducible refine Below.trans ?_ (Below.mono (g3) ?_)) | (with_reducible refine Below.trans ?_ (Below.mono (g2) ?_)) | (with_reducible refine Below.trans ?_ (Below.mono (hg) ?_)))); all_goals (first | omega | (simp; done) | (simp; omega) | (simp [*]; done) | (simp at *; omega)))⟩
            case measure => simp [intOf]; omega
    · obtain rfl : J = N := by omega
      have NS := Lib.hid fun W => iIsNumber_c S W
      go_wp2_with (go_at_call 79; refine (NS.out _).mono ?_; rintro e w' ⟨rfl, rfl⟩)
      go_ret2
      refine ⟨⟨S, ?_, ?_⟩, by (have bz0 := Below.size (hg); (try simp at bz0); have bz1 := Below.size (hg01); (try simp at bz1); (repeat' (first | with_reducible exact Below.refl _ _ | with_reducible assumption | (with_reducible refine Below.setCell ?_ ?_ _) | (with_reducible refine Below.alloc ?_ ?_ _) | (with_reducible refine Below.drew ?_) | (with_reducible refine below_drewN ?_ _) | (with_reducible refine Below.trans ?_ (Below.mono (hg) ?_)) | (with_reducible refine Below.trans ?_ (Below.mono (hg01) ?_)))); all_goals (first | omega | (simp; done) | (simp; omega) | (simp [*]; done) | (simp at *; omega)))⟩
      · rw [HD.out, HS.out]; show _ = Ending.returned (.tuple #[.int .i64 S, .bool (numO S).isSome]); unfold numO; cases isNum S <;> rfl
      · intro y h; rw [HD.out, HS.out] at h; exact (numO_some h).1
theorem iDet_c (n : Nat) (hn2 : n ≤ 24) : ∀ (l : List Int) (A : Option Addr) (m cap : Nat) (r : Int) (w : World), r = n → l.length = m → m = n * n → (∀ i, i < l.length → isNum (nth l i) = true) → Rd w A l →
      Calls Try.prog 121 #[.agg #[.int .i64 r, .int .i64 r, .slice A m cap]] w fun e w' => DetPost (detO n l) e ∧ Grows w w' := by
  induction n with
  | zero =>
    intro l A m cap r w hr hm hmn hl ha
    obtain rfl : r = 0 := by simpa using hr
    clear hr hm hmn hl
    go_enter Try.func121, Try.ntmps121
    go_wp2_with fail
    go_ret2
    exact ⟨⟨1, rfl, fun y h => by cases h; rfl⟩, by ((repeat' (first | with_reducible exact Below.refl _ _ | with_reducible assumption | (with_reducible refine Below.setCell ?_ ?_ _) | (with_reducible refine Below.alloc ?_ ?_ _) | (with_reducible refine Below.drew ?_) | (with_reducible refine below_drewN ?_ _))); all_goals (first | omega | (simp; done) | (simp; omega) | (simp [*]; done) | (simp at *; omega)))⟩
  | succ n ih =>
    intro l A m cap r w hr hm hmn hl ha
    subst hr
    exact iDet_step n (n + 1) rfl hn2 (ih (by omega)) l A m cap w hm hmn hl ha

theorem Rd.cell {w : World} {b off : Nat} {l : List Int} (h : Rd w (some ⟨b, off, none⟩) l) (i : Nat) (hi : i < l.length) : w.cell? ⟨b, off + i, none⟩ = some (.int .i64 (nth l i)) := by
  obtain ⟨b', off', e, _, hc⟩ := h i hi
  simp only [Option.some.injEq, Addr.mk.injEq, and_true] at e
  obtain ⟨rfl, rfl⟩ := e
  exact hc

theorem sDet_step (n N : Nat) (hN : N = n + 1) (hN2 : N ≤ 24)
    (ih : ∀ (l : List Int) (A : Option Addr) (m cap : Nat) (r : Int) (w : World), r = n → l.length = m → m = n * n → (∀ i, i < l.length → isNum (nth l i) = true) → Rd w A l →
      Calls Try.prog 119 #[.agg #[.int .i64 r, .int .i64 r, .slice A m cap]] w fun e w' => e = .returned (.int .i64 (oBad (detO n l))) ∧ Grows w w')
    (l : List Int) (A : Option Addr) (m cap : Nat) (w : World) (hm : l.length = m) (hmn : m = N * N) (hl : ∀ i, i < l.length → isNum (nth l i) = true) (ha : Rd w A l) :
    Calls Try.prog 119 #[.agg #[.int .i64 N, .int .i64 N, .slice A m cap]] w fun e w' => e = .returned (.int .i64 (oBad (detO N l))) ∧ Grows w w' := by
  have IH := Lib.hid ih
  have HN := Lib.hid hN
  have HM := Lib.hid hm
  have HMN := Lib.hid hmn
  have HL := Lib.hid hl
  have hNN : N * N ≤ 576 := Nat.mul_le_mul hN2 hN2
  have hNl : N ≤ l.length := by rw [hm, hmn]; exact Nat.le_mul_of_pos_left _ (by omega)
  have hNm : N ≤ m := by omega
  have hl5 : l.length ≤ 576 := by rw [hm, hmn]; exact hNN
  have HB := Lib.hid fun (j : Nat) (s : Int) (hj : j ≤ l.length) (h : dpart (detO n) N l j = some s) => dpart_bd (fun m d h => detO_num h) hl hj h
  have HD := Lib.hid (show detO N l = (dpart (detO n) N l N).bind numO by rw [hN]; rfl)
  have e0 : ((N : Int) == 0) = false := by rw [beq_eq_false_iff_ne]; omega
  obtain ⟨b, off, rfl, hbs, _⟩ := ha.at_ 0 (by omega)
  clear ih hN hm hmn hl
  obtain ⟨w1, hw1⟩ : ∃ w1, w1 = w.alloc (.cells #[.int .i64 N, .int .i64 N, .slice (some ⟨b, off, none⟩) m cap] 26) := ⟨_, rfl⟩
  have mb1 : MBox w1 w.heap.size N N (.slice (some ⟨b, off, none⟩) m cap) := by rw [hw1]; exact MBox.mk_ _ _ _ _ _
  have hg01 : Grows w w1 := by rw [hw1]; ((repeat' (first | with_reducible exact Below.refl _ _ | with_reducible assumption | (with_reducible refine Below.setCell ?_ ?_ _) | (with_reducible refine Below.alloc ?_ ?_ _) | (with_reducible refine Below.drew ?_) | (with_reducible refine below_drewN ?_ _))); all_goals (first | omega | (simp; done) | (simp; omega) | (simp [*]; done) | (simp at *; omega)))
  have ha1 : Rd w1 (some ⟨b, off, none⟩) l := ha.grows hg01
  have HW1 := Lib.hid hw1
  clear hw1
  go_enter Try.func119, Try.ntmps119
  go_wp2_with fail
  go_loopw [3, 4, 5] (fun s q j wr => ∃ (J : Nat) (S : Int), j = .int .i64 J ∧ s = .int .i64 S ∧ q = .int .i64 (sgn J) ∧ J ≤ N ∧ dpart (detO n) N l J = some S ∧ Grows w1 wr) (fun _ _ j _ => N - (intOf j).toNat)
  case atStart => exact ⟨0, 0, rfl, rfl, rfl, Nat.zero_le _, rfl, by rw [HW1.out]; ((repeat' (first | with_reducible exact Below.refl _ _ | with_reducible assumption | (with_reducible refine Below.setCell ?_ ?_ _) | (with_reducible refine Below.alloc ?_ ?_ _) | (with_reducible refine Below.drew ?_) | (with_reducible refine below_drewN ?_ _))); all_goals (first | omega | (simp; done) | (simp; omega) | (simp [*]; done) | (simp at *; omega)))⟩
  case round =>
    obtain ⟨J, S, rfl, rfl, rfl, hJ, hS, hg⟩ := hrel
    have HS := Lib.hid hS
    clear hS
    have mb := mb1.grows hg
    obtain ⟨b0, b1, b2⟩ := mb.cells
    by_cases hlt : J < N
    · have hd := ha1.grows hg
      have hc := hd.cell J (by omega)
      have i1 : (J : Int) < (m : Int) := by omega
      have hsg : -1 ≤ sgn J ∧ sgn J ≤ 1 := by unfold sgn; split <;> decide
      have HSG := Lib.hid (sgn_succ J)
      by_cases hz : nth l J = 0
      · have HZ := Lib.hid hz
        have hz' : (nth l J != 0) = false := by simpa using hz
        clear hz
        go_wp2_with fail
        go_round
        case rel => exact ⟨J + 1, S, by go_num, rfl, by rw [HSG.out], by omega, dpart_zero HS.out HZ.out, hg⟩
        case measure => simp [intOf]; omega
      · have HZ := Lib.hid hz
        have hz' : (nth l J != 0) = true := by simpa using hz
        have hx := (isNum_iff _).1 (HL.out J (by omega))
        clear hz
        have CC := Lib.hid fun W (hrd : Rd W (some ⟨b, off, none⟩) l) => sCross_c N N (some ⟨b, off, none⟩) l m cap 0 J 0 J W HM.out rfl rfl HMN.out hN2 hN2 hrd
        have cl : (crs N l 0 J (N * N)).length = n * n := by rw [crs_length_eq (by omega) hlt, HN.out]; rfl
        have cn := crs_num (C := N) (l := l) (ri := 0) (ci := J) (k := N * N) (by rw [HM.out, HMN.out]; exact Nat.le_refl _) HL.out
        have II := Lib.hid fun W A' c' (hrd : Rd W A' (crs N l 0 J (N * N))) => IH.out (crs N l 0 J (N * N)) A' _ c' ((N : Int) - 1) W (by have := HN.out; omega) rfl cl cn hrd
        clear cl cn
        have F0 := Lib.hid fun h => dpart_fail (D := detO n) (C := N) (l := l) HS.out HZ.out h
        have F1 := Lib.hid fun d h => dpart_some (D := detO n) (C := N) (l := l) (d := d) HS.out HZ.out h
        have NN := Lib.hid fun d h => detO_num (n := n) (l := crs N l 0 J (N * N)) (d := d) h
        generalize crs N l 0 J (N * N) = t at *
        generalize hdd : detO n t = D at *
        cases D with
        | none =>
          have FD := Lib.hid (show detO N l = none by rw [HD.out, dpart_none (F0.out rfl) (show J + 1 ≤ N by omega)]; rfl)
          have II' := Lib.hid fun W A' c' h => II.out W A' c' h
          clear II
          rw [show oBad none = -4611686018427387904 from rfl] at II'
          go_wp2_with fail
          refine (CC.out _ (by exact (Rd.grows hd (by ((repeat' (first | with_reducible exact Below.refl _ _ | with_reducible assumption | (with_reducible refine Below.setCell ?_ ?_ _) | (with_reducible refine Below.alloc ?_ ?_ _) | (with_reducible refine Below.drew ?_) | (with_reducible refine below_drewN ?_ _))); all_goals (first | omega | (simp; done) | (simp; omega) | (simp [*]; done) | (simp at *; omega))))))).mono ?_; rintro e w3 ⟨v3, rfl, ho3, g3⟩
          obtain ⟨A3, c3, rfl, hr3, _⟩ := ho3.val
          go_wp2_with fail
          refine (II'.out _ _ _ (by exact (Rd.grows hr3 (by ((repeat' (first | with_reducible exact Below.refl _ _ | with_reducible assumption | (with_reducible refine Below.setCell ?_ ?_ _) | (with_reducible refine Below.alloc ?_ ?_ _) | (with_reducible refine Below.drew ?_) | (with_reducible refine below_drewN ?_ _))); all_goals (first | omega | (simp; done) | (simp; omega) | (simp [*]; done) | (simp at *; omega))))))).mono ?_; rintro e w4 ⟨rfl, g4⟩
          go_wp2_with fail
          go_ret
          exact ⟨by rw [FD.out]; rfl, by (have bz0 := Below.size (g4); (try simp at bz0); have bz1 := Below.size (g3); (try simp at bz1); have bz2 := Below.size (hg); (try simp at bz2); have bz3 := Below.size (hg01); (try simp at bz3); (repeat' (first | with_reducible exact Below.refl _ _ | with_reducible assumption | (with_reducible refine Below.setCell ?_ ?_ _) | (with_reducible refine Below.alloc ?_ ?_ _) | (with_reducible refine Below.drew ?_) | (with_reducible refine below_drewN ?_ _) | (with_reducible refine Below.trans ?_ (Below.mono (g4) ?_)) | (with_reducible refine Below.trans ?_ (Below.mono (g3) ?_)) | (with_reducible refine Below.trans ?_ (Below.mono (hg) ?_)) | (with_reducible refine Below.trans ?_ (Below.mono (hg01) ?_)))); all_goals (first | omega | (simp; done) | (simp; omega) | (simp [*]; done) | (simp at *; omega)))⟩
        | some d =>
          have II' := Lib.hid fun W A' c' h => II.out W A' c' h
          clear II
          rw [show oBad (some d) = d from rfl] at II'
          have hd4 := (isNum_iff _).1 (NN.out d rfl)
          have hsb := HB.out J S (by omega) HS.out
          have hm1 : -400000000 ≤ sgn J * nth l J ∧ sgn J * nth l J ≤ 400000000 := by unfold sgn; split <;> omega
          have hm2 := sgn_mul J (nth l J) d (HL.out J (by omega)) (NN.out d rfl)
          have F := Lib.hid (F1.out d rfl)
          have hdb : (d == -4611686018427387904) = false := by rw [beq_eq_false_iff_ne]; omega
          clear hdd
          go_wp2_with fail
          refine (CC.out _ (by exact (Rd.grows hd (by ((repeat' (first | with_reducible exact Below.refl _ _ | with_reducible assumption | (with_reducible refine Below.setCell ?_ ?_ _) | (with_reducible refine Below.alloc ?_ ?_ _) | (with_reducible refine Below.drew ?_) | (with_reducible refine below_drewN ?_ _))); all_goals (first | omega | (simp; done) | (simp; omega) | (simp [*]; done) | (simp at *; omega))))))).mono ?_; rintro e w3 ⟨v3, rfl, ho3, g3⟩
          obtain ⟨A3, c3, rfl, hr3, _⟩ := ho3.val
          go_wp2_with fail
          refine (II'.out _ _ _ (by exact (Rd.grows hr3 (by ((repeat' (first | with_reducible exact Below.refl _ _ | with_reducible assumption | (with_reducible refine Below.setCell ?_ ?_ _) | (with_reducible refine Below.alloc ?_ ?_ _) | (with_reducible refine Below.drew ?_) | (with_reducible refine below_drewN ?_ _))); all_goals (first | omega | (simp; done) | (simp; omega) | (simp [*]; done) | (simp at *; omega))))))).mono ?_; rintro e w4 ⟨rfl, g4⟩
          clear b0 b1 b2 ho3
          have mb4 := mb.grows (w' := w4) (by (have bz0 := Below.size (g4); (try simp at bz0); have bz1 := Below.size (g3); (try simp at bz1); (repeat' (first | with_reducible exact Below.refl _ _ | with_reducible assumption | (with_reducible refine Below.setCell ?_ ?_ _) | (with_reducible refine Below.alloc ?_ ?_ _) | (with_reducible refine Below.drew ?_) | (with_reducible refine below_drewN ?_ _) | (with_reducible refine Below.trans ?_ (Below.mono (g4) ?_)) | (with_reducible refine Below.trans ?_ (Below.mono (g3) ?_)))); all_goals (first | omega | (simp; done) | (simp; omega) | (simp [*]; done) | (simp at *; omega))))
          obtain ⟨b0, b1, b2⟩ := mb4.cells
          have hc4 := (hd.grows (w' := w4) (by (have bz0 := Below.size (g4); (try simp at bz0); have bz1 := Below.size (g3); (try simp at bz1); (repeat' (first | with_reducible exact Below.refl _ _ | with_reducible assumption | (with_reducible refine Below.setCell ?_ ?_ _) | (with_reducible refine Below.alloc ?_ ?_ _) | (with_reducible refine Below.drew ?_) | (with_reducible refine below_drewN ?_ _) | (with_reducible refine Below.trans ?_ (Below.mono (g4) ?_)) | (with_reducible refine Below.trans ?_ (Below.mono (g3) ?_)))); all_goals (first | omega | (simp; done) | (simp; omega) | (simp [*]; done) | (simp at *; omega))))).cell J (by omega)
          go_wp2_with fail
          go_round
          case rel => exact ⟨J + 1, _, by go_num, rfl, by rw [HSG.out], by omega, by rw [F.out], by (have bz0 := Below.size (g4); (try simp at bz0); have bz1 := Below.size (g3); (try simp at bz1); have bz2 := Below.size (hg); (try simp at bz2); (repeat' (first | with_reducible exact Below.refl _ _ | with_reducible assumption | (with_reducible refine Below.setCell ?_ ?_ _) | (with_reducible refine Below.alloc ?_ ?_ _) | (with_reducible refine Below.drew ?_) | (with_reducible refine below_drewN ?_ _) | (with_reducible refine Below.trans ?_ (Below.mono (g4) ?_)) | (with_reducible refine Below.trans ?_ (Below.mono (g3) ?_)) | (with_reducible refine Below.trans ?_ (Below.mono (hg) ?_)))); all_goals (first | omega | (simp; done) | (simp; omega) | (simp [*]; done) | (simp at *; omega)))⟩
          case measure => simp [intOf]; omega
    · obtain rfl : J = N := by omega
      have NS := Lib.hid fun W => l1Fit_c S W
      go_wp2_with (go_at_call 129; refine (NS.out _).mono ?_; rintro e w' ⟨rfl, rfl⟩)
      go_ret
      refine ⟨?_, by (have bz0 := Below.size (hg); (try simp at bz0); have bz1 := Below.size (hg01); (try simp at bz1); (repeat' (first | with_reducible exact Below.refl _ _ | with_reducible assumption | (with_reducible refine Below.setCell ?_ ?_ _) | (with_reducible refine Below.alloc ?_ ?_ _) | (with_reducible refine Below.drew ?_) | (with_reducible refine below_drewN ?_ _) | (with_reducible refine Below.trans ?_ (Below.mono (hg) ?_)) | (with_reducible refine Below.trans ?_ (Below.mono (hg01) ?_)))); all_goals (first | omega | (simp; done) | (simp; omega) | (simp [*]; done) | (simp at *; omega)))⟩
      rw [HD.out, HS.out]; show _ = Ending.returned (.int .i64 ((numO S).getD bad)); unfold numO fit; cases isNum S <;> rfl
theorem sDet_c (n : Nat) (hn2 : n ≤ 24) : ∀ (l : List Int) (A : Option Addr) (m cap : Nat) (r : Int) (w : World), r = n → l.length = m → m = n * n → (∀ i, i < l.length → isNum (nth l i) = true) → Rd w A l →
      Calls Try.prog 119 #[.agg #[.int .i64 r, .int .i64 r, .slice A m cap]] w fun e w' => e = .returned (.int .i64 (oBad (detO n l))) ∧ Grows w w' := by
  induction n with
  | zero =>
    intro l A m cap r w hr hm hmn hl ha
    obtain rfl : r = 0 := by simpa using hr
    clear hr hm hmn hl
    go_enter Try.func119, Try.ntmps119
    go_wp2_with fail
    go_ret
    exact ⟨rfl, by ((repeat' (first | with_reducible exact Below.refl _ _ | with_reducible assumption | (with_reducible refine Below.setCell ?_ ?_ _) | (with_reducible refine Below.alloc ?_ ?_ _) | (with_reducible refine Below.drew ?_) | (with_reducible refine below_drewN ?_ _))); all_goals (first | omega | (simp; done) | (simp; omega) | (simp [*]; done) | (simp at *; omega)))⟩
  | succ n ih =>
    intro l A m cap r w hr hm hmn hl ha
    subst hr
    exact sDet_step n (n + 1) rfl hn2 (ih (by omega)) l A m cap w hm hmn hl ha
end
end Go.Proofs.Ytpfijhcjempfjaa
