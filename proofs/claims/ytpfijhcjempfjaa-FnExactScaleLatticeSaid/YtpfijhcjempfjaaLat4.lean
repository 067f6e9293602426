/- Contracts: the rows of zeros of a matrix; is it a lattice's basis? -/
import Derived.Test.YtpfijhcjempfjaaLat3
import Derived.Test.YtpfijhcjempfjaaApp
namespace Go.Proofs.Ytpfijhcjempfjaa
open Go.RowKit

theorem Own.other {w w' : World} {B : Nat} {v o : Value} {m : List Int} (h : Own w B o m) (hg : w.grownBy w' v.ownBlock) (hne : ∀ g, v.ownBlock = some g → o.ownBlock ≠ some g) : Own w' B o m := by
  refine World.ownsRow.kept h hg ?_
  cases e : o.ownBlock with
  | none => exact .inl rfl
  | some g =>
    right
    intro h2
    exact hne g h2.symm e
/-- two rows apart from each other stay so behind an append to one. -/
theorem apart_app {w : World} {B : Nat} {v v' o : Value} {m : List Int} (ho : Own w B o m) (hne : ∀ g, v.ownBlock = some g → o.ownBlock ≠ some g) (h : v'.ownBlock = v.ownBlock ∨ ∃ g, v'.ownBlock = some g ∧ w.heap.size ≤ g) : ∀ g, v'.ownBlock = some g → o.ownBlock ≠ some g := by
  intro g hg hog
  rcases h with h | ⟨g', h1, h2⟩
  · exact hne g (by rw [← h]; exact hg) hog
  · rw [hg] at h1
    cases h1
    have := (World.ownsRow.lt ho g hog).2
    omega

/-! ### plain -/
/-- the rows before i that are not zeros, and those that are -/
def fullR (C : Nat) (l : List Int) : Nat → List Int
  | 0 => []
  | i + 1 => if pv C l i = C then fullR C l i else fullR C l i ++ [(i : Int)]
def zeroR (C : Nat) (l : List Int) : Nat → List Int
  | 0 => []
  | i + 1 => if pv C l i = C then zeroR C l i ++ [(i : Int)] else zeroR C l i
theorem fullR_length (C : Nat) (l : List Int) (i : Nat) : (fullR C l i).length ≤ i := by
  induction i with
  | zero => simp [fullR]
  | succ i ih => rw [fullR]; split <;> (try simp) <;> omega
theorem zeroR_length (C : Nat) (l : List Int) (i : Nat) : (zeroR C l i).length ≤ i := by
  induction i with
  | zero => simp [zeroR]
  | succ i ih => rw [zeroR]; split <;> (try simp) <;> omega
theorem zb_pv {R C i : Nat} {l : List Int} (hl : l.length = R * C) (hi : i < R) : zeroB (rowL C l i) = decide (pv C l i = C) := by
  unfold zeroB
  rw [rowL_length (by rw [hl]; exact Nat.mul_le_mul_right C hi)]
  by_cases h : pv C l i = C
  · rw [show (fnz (rowL C l i) == C) = true by rw [beq_iff_eq]; exact h]; simp [h]
  · rw [show (fnz (rowL C l i) == C) = false by rw [beq_eq_false_iff_ne]; exact h]; simp [h]
theorem zeroR_nil {C : Nat} {l : List Int} {n : Nat} : zeroR C l n = [] ↔ ∀ i, i < n → pv C l i ≠ C := by
  induction n with
  | zero => simp [zeroR]
  | succ n ih =>
    rw [zeroR]
    split
    · rename_i h
      simp only [List.append_eq_nil_iff, List.cons_ne_self, and_false, false_iff]
      intro h2; exact h2 n (by omega) h
    · rename_i h
      rw [ih]
      constructor
      · intro h2 i hi
        by_cases e : i = n
        · subst e; exact h
        · exact h2 i (by omega)
      · intro h2 i hi; exact h2 i (by omega)
/-- 1 + the last row before i that is not zeros -/
def nzN (C : Nat) (l : List Int) : Nat → Nat
  | 0 => 0
  | i + 1 => if pv C l i = C then nzN C l i else i + 1
theorem nzN_le (C : Nat) (l : List Int) (i : Nat) : nzN C l i ≤ i := by
  induction i with
  | zero => simp [nzN]
  | succ i ih => rw [nzN]; split <;> omega
/-- behind a row of zeros there are rows of zeros only -/
theorem her_zero {R C : Nat} {l : List Int} (hl : l.length = R * C) {k : Nat} {last' : Int} (h' : herF C l k = some last') (hk : k ≤ R) {i j : Nat} (hi : pv C l i = C) (hij : i < j) (hjk : j < k) : pv C l j = C := by
  have step : ∀ m, m < k → herF C l m = some (C : Int) → pv C l m = C ∧ herF C l (m + 1) = some (C : Int) := by
    intro m hm hf
    have hp : pv C l m = C := by
      cases e : herF C l (m + 1) with
      | none => rw [herF_none e (by omega)] at h'; cases h'
      | some x =>
        rw [herF, hf] at e
        simp only [Option.bind_some] at e
        split at e
        · assumption
        · split at e
          · cases e
          · rename_i hh
            have := pv_le (i := m) hl (by omega)
            simp only [Bool.or_eq_true, decide_eq_true_eq, not_or] at hh
            omega
    exact ⟨hp, herF_zero hf hp⟩
  have base : herF C l (i + 1) = some (C : Int) := by
    cases e : herF C l i with
    | none => rw [herF_none e (by omega)] at h'; cases h'
    | some x => exact herF_zero e hi
  have all : ∀ d, i + 1 + d ≤ k → herF C l (i + 1 + d) = some (C : Int) := by
    intro d
    induction d with
    | zero => intro _; exact base
    | succ d ih => intro hd; exact (step (i + 1 + d) (by omega) (ih (by omega))).2
  have := all (j - i - 1) (by omega)
  rw [show i + 1 + (j - i - 1) = j by omega] at this
  exact (step j hjk this).1
theorem nzN_zeroR {R C : Nat} {l : List Int} (hl : l.length = R * C) (h : herB R C l = true) : decide (nzN C l R = R) = decide ((zeroR C l R).length = 0) := by
  rw [decide_eq_decide, List.length_eq_zero_iff, zeroR_nil]
  obtain ⟨x, hx⟩ := Option.isSome_iff_exists.1 h
  constructor
  · intro hn i hi hp
    cases R with
    | zero => omega
    | succ R =>
      rw [nzN] at hn
      split at hn
      · have := nzN_le C l R; omega
      · rename_i hne
        by_cases e : i = R
        · exact hne (e ▸ hp)
        · exact hne (her_zero hl hx (Nat.le_refl _) hp (by omega) (by omega))
  · intro hall
    cases R with
    | zero => rfl
    | succ R => rw [nzN, if_neg (hall R (by omega))]
def latB (r c : Int) (l : List Int) : Bool := (isMat r c l && herB r.toNat c.toNat l) && decide ((zeroR c.toNat l r.toNat).length = 0)

section
set_option maxHeartbeats 1000000
theorem split_c (R C : Nat) (A : Option Addr) (l : List Int) (n cap : Nat) (w : World) (hn : l.length = n) (hlen : n = R * C) (hR : R ≤ 24) (hC : C ≤ 24) (hcap : n ≤ cap) (hcap2 : cap ≤ 9223372036854775807) (ha : Rd w A l) :
    Calls Try.prog 117 #[.agg #[.int .i64 R, .int .i64 C, .slice A n cap]] w fun e w' => ∃ v1 v2, e = .returned (.tuple #[v1, v2]) ∧ Own w' w.heap.size v1 (fullR C l R) ∧ Own w' w.heap.size v2 (zeroR C l R) ∧ Grows w w' := by
  obtain ⟨w1, hw1⟩ : ∃ w1, w1 = w.alloc (.cells #[.int .i64 R, .int .i64 C, .slice A n cap] 26) := ⟨_, rfl⟩
  have mb1 : MBox w1 w.heap.size R C (.slice A n cap) := by rw [hw1]; exact MBox.mk_ _ _ _ _ _
  have g01 : Grows w w1 := by rw [hw1]; ((repeat' (first | with_reducible exact Below.refl _ _ | with_reducible assumption | (with_reducible refine Below.setCell ?_ ?_ _) | (with_reducible refine Below.alloc ?_ ?_ _) | (with_reducible refine Below.drew ?_) | (with_reducible refine below_drewN ?_ _))); all_goals (first | omega | (simp; done) | (simp; omega) | (simp [*]; done) | (simp at *; omega)))
  have hs1 : w1.heap.size = w.heap.size + 1 := by rw [hw1]; simp
  have HW1 := Lib.hid hw1
  have ha1 : Rd w1 A l := ha.grows g01
  clear hw1
  have hRC : R * C ≤ 576 := Nat.mul_le_mul hR hC
  have HN := Lib.hid hn
  have HL := Lib.hid hlen
  have HZB := Lib.hid fun i (hi : i < R) => zb_pv (i := i) (hn.trans hlen) hi
  clear hn hlen
  go_enter Try.func117, Try.ntmps117
  go_wp2_with fail
  rw [← HW1.out]
  go_loopw [4, 5, 6] (fun f z i wr => ∃ (I : Nat), i = .int .i64 I ∧ I ≤ R ∧ Own wr w1.heap.size f (fullR C l I) ∧ Own wr w1.heap.size z (zeroR C l I) ∧ (∀ g, f.ownBlock = some g → z.ownBlock ≠ some g) ∧ Grows w1 wr) (fun _ _ i _ => R - (intOf i).toNat)
  case atStart => exact ⟨0, rfl, Nat.zero_le _, Own.alloc (Own.new_ _ (by simp [hs1]) (by simp [hs1])) _, Own.new_ _ (by simp [hs1]) (by simp [hs1]), by simp [Value.ownBlock], by ((repeat' (first | with_reducible exact Below.refl _ _ | with_reducible assumption | (with_reducible refine Below.setCell ?_ ?_ _) | (with_reducible refine Below.alloc ?_ ?_ _) | (with_reducible refine Below.drew ?_) | (with_reducible refine below_drewN ?_ _))); all_goals (first | omega | (simp; done) | (simp; omega) | (simp [*]; done) | (simp at *; omega)))⟩
  case round =>
    obtain ⟨I, rfl, hI, hof, hoz, hne, hg⟩ := hrel
    have HNE := Lib.hid hne
    clear hne
    obtain ⟨b0, b1, b2⟩ := (mb1.grows hg).cells
    have hd := ha1.grows hg
    obtain ⟨A1, c1, rfl, _, _⟩ := hof.val
    obtain ⟨A2, c2, rfl, _, _⟩ := hoz.val
    have hfl := fullR_length C l I
    have hzl := zeroR_length C l I
    by_cases hlt : I < R
    · have hIR : (I + 1) * C ≤ R * C := Nat.mul_le_mul_right C hlt
      have hIC : I * C + C ≤ R * C := by have := hIR; rw [Nat.add_mul, Nat.one_mul] at this; exact this
      have CR := Lib.hid fun W => row_c R C A l n cap I I W rfl HN.out hcap hcap2 (by have := HL.out; omega) (by omega) (by omega)
      have rr := rowA_rd (cap := cap) (C := C) (I := I) hd (by rw [HN.out, HL.out]; exact hIR) (by rw [HN.out]; exact hcap)
      have rl : (rowL C l I).length = C := rowL_length (by rw [HN.out, HL.out]; exact hIR)
      have CF := fun W h => isZeroRow_c (rowA cap C A I) (rowL C l I) C (cap - I * C) W rl h (by omega)
      rw [HZB.out I hlt] at CF
      have RR := Lib.hid rr
      clear rl hIR hIC rr
      generalize rowA cap C A I = dS at *
      by_cases hz : pv C l I = C
      · rw [decide_eq_true hz] at CF
        have CF' := Lib.hid CF
        have F1 := Lib.hid (show fullR C l (I + 1) = fullR C l I by rw [fullR, if_pos hz])
        have F2 := Lib.hid (show zeroR C l (I + 1) = zeroR C l I ++ [(I : Int)] by rw [zeroR, if_pos hz])
        clear CF hz
        go_wp2_with fail
        refine (CR.out _).mono ?_; rintro e w3 ⟨rfl, g3⟩
        have hrs := RR.out
        go_wp2_with fail
        refine (CF'.out _ (by exact (Rd.grows hrs (by (have bz0 := Below.size (g3); (try simp at bz0); (repeat' (first | with_reducible exact Below.refl _ _ | with_reducible assumption | (with_reducible refine Below.setCell ?_ ?_ _) | (with_reducible refine Below.alloc ?_ ?_ _) | (with_reducible refine Below.drew ?_) | (with_reducible refine below_drewN ?_ _) | (with_reducible refine Below.trans ?_ (Below.mono (g3) ?_)))); all_goals (first | omega | (simp; done) | (simp; omega) | (simp [*]; done) | (simp at *; omega))))))).mono ?_; rintro e w' ⟨rfl, rfl⟩
        clear b0 b1 b2 hrs
        have hof3 := hof.grows (w' := w3) (by (have bz0 := Below.size (g3); (try simp at bz0); (repeat' (first | with_reducible exact Below.refl _ _ | with_reducible assumption | (with_reducible refine Below.setCell ?_ ?_ _) | (with_reducible refine Below.alloc ?_ ?_ _) | (with_reducible refine Below.drew ?_) | (with_reducible refine below_drewN ?_ _) | (with_reducible refine Below.trans ?_ (Below.mono (g3) ?_)))); all_goals (first | omega | (simp; done) | (simp; omega) | (simp [*]; done) | (simp at *; omega))))
        have hoz3 := hoz.grows (w' := w3) (by (have bz0 := Below.size (g3); (try simp at bz0); (repeat' (first | with_reducible exact Below.refl _ _ | with_reducible assumption | (with_reducible refine Below.setCell ?_ ?_ _) | (with_reducible refine Below.alloc ?_ ?_ _) | (with_reducible refine Below.drew ?_) | (with_reducible refine below_drewN ?_ _) | (with_reducible refine Below.trans ?_ (Below.mono (g3) ?_)))); all_goals (first | omega | (simp; done) | (simp; omega) | (simp [*]; done) | (simp at *; omega))))
        have h13 : w1.heap.size ≤ w3.heap.size := Below.size (show Grows w1 w3 by (have bz0 := Below.size (g3); (try simp at bz0); have bz1 := Below.size (hg); (try simp at bz1); (repeat' (first | with_reducible exact Below.refl _ _ | with_reducible assumption | (with_reducible refine Below.setCell ?_ ?_ _) | (with_reducible refine Below.alloc ?_ ?_ _) | (with_reducible refine Below.drew ?_) | (with_reducible refine below_drewN ?_ _) | (with_reducible refine Below.trans ?_ (Below.mono (g3) ?_)) | (with_reducible refine Below.trans ?_ (Below.mono (hg) ?_)))); all_goals (first | omega | (simp; done) | (simp; omega) | (simp [*]; done) | (simp at *; omega))))
        generalize fullR C l I = fl at *
        generalize zeroR C l I = zl at *
        go_wp2_with (at_builtin; refine wpList_app1 rfl (.tmp 19) (.tmp 21) rfl _ (I : Int) w1.heap.size _ zl (by rfl) hoz3 (by rfl) (by omega) (by omega) ?_; intro v7 w7 ho7 hg7 hv7)
        have hb7 := below_app hoz3 h13 hg7
        have hof7 := Own.other hof3 hg7 (fun g h h2 => HNE.out g h2 h)
        have hap := apart_app hof3 (fun g h h2 => HNE.out g h2 h) hv7
        clear hg7
        go_wp2_with fail
        go_round
        case rel => exact ⟨I + 1, by go_num, by omega, by rw [F1.out]; exact hof7, by rw [F2.out]; exact ho7, fun g h h2 => hap g h2 h, Below.trans (show Grows w1 w3 by (have bz0 := Below.size (g3); (try simp at bz0); have bz1 := Below.size (hg); (try simp at bz1); (repeat' (first | with_reducible exact Below.refl _ _ | with_reducible assumption | (with_reducible refine Below.setCell ?_ ?_ _) | (with_reducible refine Below.alloc ?_ ?_ _) | (with_reducible refine Below.drew ?_) | (with_reducible refine below_drewN ?_ _) | (with_reducible refine Below.trans ?_ (Below.mono (g3) ?_)) | (with_reducible refine Below.trans ?_ (Below.mono (hg) ?_)))); all_goals (first | omega | (simp; done) | (simp; omega) | (simp [*]; done) | (simp at *; omega)))) hb7⟩
        case measure => simp [intOf]; omega
      · rw [decide_eq_false hz] at CF
        have CF' := Lib.hid CF
        have F1 := Lib.hid (show fullR C l (I + 1) = fullR C l I ++ [(I : Int)] by rw [fullR, if_neg hz])
        have F2 := Lib.hid (show zeroR C l (I + 1) = zeroR C l I by rw [zeroR, if_neg hz])
        clear CF hz
        go_wp2_with fail
        refine (CR.out _).mono ?_; rintro e w3 ⟨rfl, g3⟩
        have hrs := RR.out
        go_wp2_with fail
        refine (CF'.out _ (by exact (Rd.grows hrs (by (have bz0 := Below.size (g3); (try simp at bz0); (repeat' (first | with_reducible exact Below.refl _ _ | with_reducible assumption | (with_reducible refine Below.setCell ?_ ?_ _) | (with_reducible refine Below.alloc ?_ ?_ _) | (with_reducible refine Below.drew ?_) | (with_reducible refine below_drewN ?_ _) | (with_reducible refine Below.trans ?_ (Below.mono (g3) ?_)))); all_goals (first | omega | (simp; done) | (simp; omega) | (simp [*]; done) | (simp at *; omega))))))).mono ?_; rintro e w' ⟨rfl, rfl⟩
        clear b0 b1 b2 hrs
        have hof3 := hof.grows (w' := w3) (by (have bz0 := Below.size (g3); (try simp at bz0); (repeat' (first | with_reducible exact Below.refl _ _ | with_reducible assumption | (with_reducible refine Below.setCell ?_ ?_ _) | (with_reducible refine Below.alloc ?_ ?_ _) | (with_reducible refine Below.drew ?_) | (with_reducible refine below_drewN ?_ _) | (with_reducible refine Below.trans ?_ (Below.mono (g3) ?_)))); all_goals (first | omega | (simp; done) | (simp; omega) | (simp [*]; done) | (simp at *; omega))))
        have hoz3 := hoz.grows (w' := w3) (by (have bz0 := Below.size (g3); (try simp at bz0); (repeat' (first | with_reducible exact Below.refl _ _ | with_reducible assumption | (with_reducible refine Below.setCell ?_ ?_ _) | (with_reducible refine Below.alloc ?_ ?_ _) | (with_reducible refine Below.drew ?_) | (with_reducible refine below_drewN ?_ _) | (with_reducible refine Below.trans ?_ (Below.mono (g3) ?_)))); all_goals (first | omega | (simp; done) | (simp; omega) | (simp [*]; done) | (simp at *; omega))))
        have h13 : w1.heap.size ≤ w3.heap.size := Below.size (show Grows w1 w3 by (have bz0 := Below.size (g3); (try simp at bz0); have bz1 := Below.size (hg); (try simp at bz1); (repeat' (first | with_reducible exact Below.refl _ _ | with_reducible assumption | (with_reducible refine Below.setCell ?_ ?_ _) | (with_reducible refine Below.alloc ?_ ?_ _) | (with_reducible refine Below.drew ?_) | (with_reducible refine below_drewN ?_ _) | (with_reducible refine Below.trans ?_ (Below.mono (g3) ?_)) | (with_reducible refine Below.trans ?_ (Below.mono (hg) ?_)))); all_goals (first | omega | (simp; done) | (simp; omega) | (simp [*]; done) | (simp at *; omega))))
        generalize fullR C l I = fl at *
        generalize zeroR C l I = zl at *
        go_wp2_with (at_builtin; refine wpList_app1 rfl (.tmp 23) (.tmp 25) rfl _ (I : Int) w1.heap.size _ fl (by rfl) hof3 (by rfl) (by omega) (by omega) ?_; intro v7 w7 ho7 hg7 hv7)
        have hb7 := below_app hof3 h13 hg7
        have hoz7 := Own.other hoz3 hg7 HNE.out
        have hap := apart_app hoz3 HNE.out hv7
        clear hg7
        go_wp2_with fail
        go_round
        case rel => exact ⟨I + 1, by go_num, by omega, by rw [F1.out]; exact ho7, by rw [F2.out]; exact hoz7, hap, Below.trans (show Grows w1 w3 by (have bz0 := Below.size (g3); (try simp at bz0); have bz1 := Below.size (hg); (try simp at bz1); (repeat' (first | with_reducible exact Below.refl _ _ | with_reducible assumption | (with_reducible refine Below.setCell ?_ ?_ _) | (with_reducible refine Below.alloc ?_ ?_ _) | (with_reducible refine Below.drew ?_) | (with_reducible refine below_drewN ?_ _) | (with_reducible refine Below.trans ?_ (Below.mono (g3) ?_)) | (with_reducible refine Below.trans ?_ (Below.mono (hg) ?_)))); all_goals (first | omega | (simp; done) | (simp; omega) | (simp [*]; done) | (simp at *; omega)))) hb7⟩
        case measure => simp [intOf]; omega
    · obtain rfl : I = R := by omega
      go_wp2_with fail
      go_ret2
      exact ⟨_, _, rfl, hof.less (Below.size g01), hoz.less (Below.size g01), by (have bz0 := Below.size (hg); (try simp at bz0); have bz1 := Below.size (g01); (try simp at bz1); (repeat' (first | with_reducible exact Below.refl _ _ | with_reducible assumption | (with_reducible refine Below.setCell ?_ ?_ _) | (with_reducible refine Below.alloc ?_ ?_ _) | (with_reducible refine Below.drew ?_) | (with_reducible refine below_drewN ?_ _) | (with_reducible refine Below.trans ?_ (Below.mono (hg) ?_)) | (with_reducible refine Below.trans ?_ (Below.mono (g01) ?_)))); all_goals (first | omega | (simp; done) | (simp; omega) | (simp [*]; done) | (simp at *; omega)))⟩
theorem l12Rows_c (R C : Nat) (A : Option Addr) (l : List Int) (n cap : Nat) (w : World) (hn : l.length = n) (hlen : n = R * C) (hR : R ≤ 24) (hC : C ≤ 24) (ha : Rd w A l) :
    Calls Try.prog 115 #[.agg #[.int .i64 R, .int .i64 C, .slice A n cap]] w fun e w' => e = .returned (.int .i64 (nzN C l R)) ∧ Grows w w' := by
  obtain ⟨w1, hw1⟩ : ∃ w1, w1 = w.alloc (.cells #[.int .i64 R, .int .i64 C, .slice A n cap] 26) := ⟨_, rfl⟩
  have mb1 : MBox w1 w.heap.size R C (.slice A n cap) := by rw [hw1]; exact MBox.mk_ _ _ _ _ _
  have g01 : Grows w w1 := by rw [hw1]; ((repeat' (first | with_reducible exact Below.refl _ _ | with_reducible assumption | (with_reducible refine Below.setCell ?_ ?_ _) | (with_reducible refine Below.alloc ?_ ?_ _) | (with_reducible refine Below.drew ?_) | (with_reducible refine below_drewN ?_ _))); all_goals (first | omega | (simp; done) | (simp; omega) | (simp [*]; done) | (simp at *; omega)))
  have HW1 := Lib.hid hw1
  have ha1 : Rd w1 A l := ha.grows g01
  clear hw1
  have hRC : R * C ≤ 576 := Nat.mul_le_mul hR hC
  have HB : ∀ i, i < R → i * C ≤ 576 := fun i hi => by have := Nat.mul_le_mul_right C (Nat.le_of_lt hi); omega
  have CC := Lib.hid fun (i : Nat) (hi : i < R) (j : Nat) (hj : j < C) W h => l12Cell_c R C A l n cap i j W hn h (castMul i C) (by have := castMulLe (HB i hi); omega) (castPos i C j) (castLt (by rw [hn, hlen]; exact idx_lt hi hj)) (by rw [hn, hlen]; omega)
  have HPV := Lib.hid fun i hi => pv_le (R := R) (i := i) (hn.trans hlen) hi
  have HNE := Lib.hid fun i hi h => pv_ne (R := R) (i := i) (hn.trans hlen) hi h
  have HZE := Lib.hid fun i j (hj : j < C) h => pv_zero (l := l) (i := i) hj h
  clear hn hlen HB
  go_enter Try.func115, Try.ntmps115
  go_wp2_with fail
  rw [← HW1.out]
  go_loopw [3, 4] (fun q i wr => ∃ (I : Nat), i = .int .i64 I ∧ I ≤ R ∧ q = .int .i64 (nzN C l I : Nat) ∧ Grows w1 wr) (fun _ i _ => R - (intOf i).toNat)
  case atStart => exact ⟨0, rfl, Nat.zero_le _, rfl, by ((repeat' (first | with_reducible exact Below.refl _ _ | with_reducible assumption | (with_reducible refine Below.setCell ?_ ?_ _) | (with_reducible refine Below.alloc ?_ ?_ _) | (with_reducible refine Below.drew ?_) | (with_reducible refine below_drewN ?_ _))); all_goals (first | omega | (simp; done) | (simp; omega) | (simp [*]; done) | (simp at *; omega)))⟩
  case round =>
    obtain ⟨I, rfl, hI, rfl, hg⟩ := hrel
    obtain ⟨b0, b1, b2⟩ := (mb1.grows hg).cells
    by_cases hlt : I < R
    · have hNX := Lib.hid (show nzN C l (I + 1) = if pv C l I = C then nzN C l I else I + 1 from rfl)
      generalize hq : nzN C l I = q at *
      go_wp2_with fail
      obtain ⟨wo, rfl⟩ : ∃ wo : World, wo = wr := ⟨_, rfl⟩
      go_loopw [3, 5] (fun x j wr => ∃ (J : Nat), j = .int .i64 J ∧ J ≤ C ∧ x = .int .i64 ((if pv C l I < J then I + 1 else q : Nat)) ∧ Grows w1 wr) (fun _ j _ => C - (intOf j).toNat)
      case atStart => exact ⟨0, rfl, Nat.zero_le _, rfl, hg⟩
      case round =>
        clear hg b0 b1 b2
        obtain ⟨J, rfl, hJ, rfl, hg⟩ := hrel
        obtain ⟨b0, b1, b2⟩ := (mb1.grows hg).cells
        have hd := ha1.grows hg
        have hIi : (I : Int) < (R : Int) := by omega
        by_cases hlt2 : J < C
        · have C1 := fun W h => CC.out I hlt J hlt2 W h
          rw [castIdx] at C1
          have hz0 := fun h => HZE.out I J hlt2 h
          have hz1 := fun (h : J = pv C l I) => HNE.out I hlt (by omega)
          have hz1' : J = pv C l I → nth l (I * C + J) ≠ 0 := fun h => by rw [h]; exact hz1 h
          clear hz1
          generalize nth l (I * C + J) = x at *
          have C1' := Lib.hid C1
          clear C1
          have HX : (if pv C l I < J + 1 then I + 1 else q) = if x = 0 then (if pv C l I < J then I + 1 else q) else I + 1 := by
            rcases Nat.lt_trichotomy J (pv C l I) with h | h | h
            · rw [if_neg (by omega), if_pos (hz0 h), if_neg (by omega)]
            · rw [if_pos (by omega), if_neg (hz1' h)]
            · rw [if_pos (by omega), if_pos h]; split <;> rfl
          have HX' := Lib.hid HX
          clear HX hz0 hz1'
          generalize (if pv C l I < J then I + 1 else q) = y at *
          by_cases hx : x = 0
          · have HX2 := Lib.hid (HX'.out.trans (if_pos hx))
            subst hx
            go_wp2_with fail
            refine (C1'.out _ (by exact (Rd.grows hd (by ((repeat' (first | with_reducible exact Below.refl _ _ | with_reducible assumption | (with_reducible refine Below.setCell ?_ ?_ _) | (with_reducible refine Below.alloc ?_ ?_ _) | (with_reducible refine Below.drew ?_) | (with_reducible refine below_drewN ?_ _))); all_goals (first | omega | (simp; done) | (simp; omega) | (simp [*]; done) | (simp at *; omega))))))).mono ?_; rintro e w3 ⟨rfl, g3⟩
            go_wp2_with fail
            go_round
            case rel => exact ⟨J + 1, by go_num, by omega, by rw [HX2.out], by (have bz0 := Below.size (g3); (try simp at bz0); have bz1 := Below.size (hg); (try simp at bz1); (repeat' (first | with_reducible exact Below.refl _ _ | with_reducible assumption | (with_reducible refine Below.setCell ?_ ?_ _) | (with_reducible refine Below.alloc ?_ ?_ _) | (with_reducible refine Below.drew ?_) | (with_reducible refine below_drewN ?_ _) | (with_reducible refine Below.trans ?_ (Below.mono (g3) ?_)) | (with_reducible refine Below.trans ?_ (Below.mono (hg) ?_)))); all_goals (first | omega | (simp; done) | (simp; omega) | (simp [*]; done) | (simp at *; omega)))⟩
            case measure => simp [intOf]; omega
          · have HX2 := Lib.hid (HX'.out.trans (if_neg hx))
            go_wp2_with fail
            refine (C1'.out _ (by exact (Rd.grows hd (by ((repeat' (first | with_reducible exact Below.refl _ _ | with_reducible assumption | (with_reducible refine Below.setCell ?_ ?_ _) | (with_reducible refine Below.alloc ?_ ?_ _) | (with_reducible refine Below.drew ?_) | (with_reducible refine below_drewN ?_ _))); all_goals (first | omega | (simp; done) | (simp; omega) | (simp [*]; done) | (simp at *; omega))))))).mono ?_; rintro e w3 ⟨rfl, g3⟩
            go_wp2_with fail
            go_round
            case rel => exact ⟨J + 1, by go_num, by omega, by rw [HX2.out]; go_num, by (have bz0 := Below.size (g3); (try simp at bz0); have bz1 := Below.size (hg); (try simp at bz1); (repeat' (first | with_reducible exact Below.refl _ _ | with_reducible assumption | (with_reducible refine Below.setCell ?_ ?_ _) | (with_reducible refine Below.alloc ?_ ?_ _) | (with_reducible refine Below.drew ?_) | (with_reducible refine below_drewN ?_ _) | (with_reducible refine Below.trans ?_ (Below.mono (g3) ?_)) | (with_reducible refine Below.trans ?_ (Below.mono (hg) ?_)))); all_goals (first | omega | (simp; done) | (simp; omega) | (simp [*]; done) | (simp at *; omega)))⟩
            case measure => simp [intOf]; omega
        · obtain rfl : J = C := by omega
          have HX := Lib.hid (show nzN J l (I + 1) = if pv J l I < J then I + 1 else q by
            rw [hNX.out]
            have := HPV.out I hlt
            by_cases h : pv J l I = J
            · rw [if_pos h, if_neg (by omega)]
            · rw [if_neg h, if_pos (by omega)])
          generalize (if pv J l I < J then I + 1 else q) = y at *
          go_wp2_with fail
          go_round
          case rel => exact ⟨I + 1, by go_num, by omega, by rw [HX.out], hg⟩
          case measure => simp [intOf]; omega
    · obtain rfl : I = R := by omega
      go_wp2_with fail
      go_ret
      exact ⟨rfl, by (have bz0 := Below.size (hg); (try simp at bz0); have bz1 := Below.size (g01); (try simp at bz1); (repeat' (first | with_reducible exact Below.refl _ _ | with_reducible assumption | (with_reducible refine Below.setCell ?_ ?_ _) | (with_reducible refine Below.alloc ?_ ?_ _) | (with_reducible refine Below.drew ?_) | (with_reducible refine below_drewN ?_ _) | (with_reducible refine Below.trans ?_ (Below.mono (hg) ?_)) | (with_reducible refine Below.trans ?_ (Below.mono (g01) ?_)))); all_goals (first | omega | (simp; done) | (simp; omega) | (simp [*]; done) | (simp at *; omega)))⟩
theorem latB_parts {r c : Int} {l : List Int} (h : latB r c l = true) : isMat r c l = true ∧ herB r.toNat c.toNat l = true ∧ ∀ i, i < r.toNat → pv c.toNat l i ≠ c.toNat := by
  unfold latB at h
  simp only [Bool.and_eq_true, decide_eq_true_eq] at h
  exact ⟨h.1.1, h.1.2, zeroR_nil.1 (List.length_eq_zero_iff.1 h.2)⟩
theorem iIsLat_c (r c : Int) (A : Option Addr) (l : List Int) (n cap : Nat) (w : World) (hn : l.length = n) (hcap : n ≤ cap) (hcap2 : cap ≤ 9223372036854775807) (ha : Rd w A l) (hl : n ≤ 1099511627776) :
    Calls Try.prog 61 #[.agg #[.int .i64 r, .int .i64 c, .slice A n cap]] w fun e w' => e = .returned (.bool (latB r c l)) ∧ Grows w w' := by
  have HS := fun w h => iHer_c r c A l n cap w hn hcap hcap2 h hl
  obtain ⟨w1, hw1⟩ : ∃ w1, w1 = w.alloc (.cells #[.int .i64 r, .int .i64 c, .slice A n cap] 26) := ⟨_, rfl⟩
  have mb1 : MBox w1 w.heap.size r c (.slice A n cap) := by rw [hw1]; exact MBox.mk_ _ _ _ _ _
  have g01 : Grows w w1 := by rw [hw1]; ((repeat' (first | with_reducible exact Below.refl _ _ | with_reducible assumption | (with_reducible refine Below.setCell ?_ ?_ _) | (with_reducible refine Below.alloc ?_ ?_ _) | (with_reducible refine Below.drew ?_) | (with_reducible refine below_drewN ?_ _))); all_goals (first | omega | (simp; done) | (simp; omega) | (simp [*]; done) | (simp at *; omega)))
  have ha1 : Rd w1 A l := ha.grows g01
  have HW1 := Lib.hid hw1
  clear hw1
  unfold latB
  cases hq : isMat r c l && herB r.toNat c.toNat l
  · rw [hq] at HS
    have HS' := Lib.hid HS
    clear HS hq hn
    go_enter Try.func61, Try.ntmps61
    go_wp2_with fail
    refine (HS'.out _ (by exact (Rd.grows ha (by ((repeat' (first | with_reducible exact Below.refl _ _ | with_reducible assumption | (with_reducible refine Below.setCell ?_ ?_ _) | (with_reducible refine Below.alloc ?_ ?_ _) | (with_reducible refine Below.drew ?_) | (with_reducible refine below_drewN ?_ _))); all_goals (first | omega | (simp; done) | (simp; omega) | (simp [*]; done) | (simp at *; omega))))))).mono ?_; rintro e w2 ⟨rfl, g2⟩
    go_wp2_with fail
    go_ret
    exact ⟨by simp, by (have bz0 := Below.size (g2); (try simp at bz0); (repeat' (first | with_reducible exact Below.refl _ _ | with_reducible assumption | (with_reducible refine Below.setCell ?_ ?_ _) | (with_reducible refine Below.alloc ?_ ?_ _) | (with_reducible refine Below.drew ?_) | (with_reducible refine below_drewN ?_ _) | (with_reducible refine Below.trans ?_ (Below.mono (g2) ?_)))); all_goals (first | omega | (simp; done) | (simp; omega) | (simp [*]; done) | (simp at *; omega)))⟩
  · rw [hq] at HS
    have HS' := Lib.hid HS
    rw [Bool.and_eq_true] at hq
    obtain ⟨R, C, rfl, rfl, hR, hC, hlen, hnum⟩ := isMat_nat hq.1
    have HSP := Lib.hid fun W h => split_c R C A l n cap W hn (hn.symm.trans hlen) hR hC hcap hcap2 h
    simp only [Int.toNat_natCast, Bool.true_and]
    have HZL := Lib.hid (zeroR_length C l R)
    clear HS hq hn hlen hnum
    have hzl := HZL.out
    obtain ⟨Z, hZ⟩ : ∃ Z, Z = decide ((zeroR C l R).length = 0) := ⟨_, rfl⟩
    rw [← hZ]
    have HZ := Lib.hid hZ
    clear hZ
    go_enter Try.func61, Try.ntmps61
    go_wp2_with fail
    refine (HS'.out _ (by exact (Rd.grows ha (by ((repeat' (first | with_reducible exact Below.refl _ _ | with_reducible assumption | (with_reducible refine Below.setCell ?_ ?_ _) | (with_reducible refine Below.alloc ?_ ?_ _) | (with_reducible refine Below.drew ?_) | (with_reducible refine below_drewN ?_ _))); all_goals (first | omega | (simp; done) | (simp; omega) | (simp [*]; done) | (simp at *; omega))))))).mono ?_; rintro e w2 ⟨rfl, g2⟩
    rw [← HW1.out] at g2
    obtain ⟨b0, b1, b2⟩ := (mb1.grows g2).cells
    go_wp2_with fail
    refine (HSP.out _ (by exact (Rd.grows ha1 (by (have bz0 := Below.size (g2); (try simp at bz0); (repeat' (first | with_reducible exact Below.refl _ _ | with_reducible assumption | (with_reducible refine Below.setCell ?_ ?_ _) | (with_reducible refine Below.alloc ?_ ?_ _) | (with_reducible refine Below.drew ?_) | (with_reducible refine below_drewN ?_ _) | (with_reducible refine Below.trans ?_ (Below.mono (g2) ?_)))); all_goals (first | omega | (simp; done) | (simp; omega) | (simp [*]; done) | (simp at *; omega))))))).mono ?_; rintro e w3 ⟨v1, v2, rfl, o1, o2, g3⟩
    obtain ⟨A1, c1, rfl, _, _⟩ := o1.val
    obtain ⟨A2, c2, rfl, _, _⟩ := o2.val
    go_wp2_with fail
    go_ret
    refine ⟨ret_bool ?_, by (have bz0 := Below.size (g3); (try simp at bz0); have bz1 := Below.size (g2); (try simp at bz1); have bz2 := Below.size (g01); (try simp at bz2); (repeat' (first | with_reducible exact Below.refl _ _ | with_reducible assumption | (with_reducible refine Below.setCell ?_ ?_ _) | (with_reducible refine Below.alloc ?_ ?_ _) | (with_reducible refine Below.drew ?_) | (with_reducible refine below_drewN ?_ _) | (with_reducible refine Below.trans ?_ (Below.mono (g3) ?_)) | (with_reducible refine Below.trans ?_ (Below.mono (g2) ?_)) | (with_reducible refine Below.trans ?_ (Below.mono (g01) ?_)))); all_goals (first | omega | (simp; done) | (simp; omega) | (simp [*]; done) | (simp at *; omega)))⟩
    rw [HZ.out]
    by_cases h : (zeroR C l R).length = 0
    · simp [h]
    · simp [h]
theorem sIsLat_c (r c : Int) (A : Option Addr) (l : List Int) (n cap : Nat) (w : World) (hn : l.length = n) (ha : Rd w A l) (hl : n ≤ 1099511627776) :
    Calls Try.prog 60 #[.agg #[.int .i64 r, .int .i64 c, .slice A n cap]] w fun e w' => e = .returned (.bool (latB r c l)) ∧ Grows w w' := by
  have HS := fun w h => sHer_c r c A l n cap w hn h hl
  obtain ⟨w1, hw1⟩ : ∃ w1, w1 = w.alloc (.cells #[.int .i64 r, .int .i64 c, .slice A n cap] 26) := ⟨_, rfl⟩
  have mb1 : MBox w1 w.heap.size r c (.slice A n cap) := by rw [hw1]; exact MBox.mk_ _ _ _ _ _
  have g01 : Grows w w1 := by rw [hw1]; ((repeat' (first | with_reducible exact Below.refl _ _ | with_reducible assumption | (with_reducible refine Below.setCell ?_ ?_ _) | (with_reducible refine Below.alloc ?_ ?_ _) | (with_reducible refine Below.drew ?_) | (with_reducible refine below_drewN ?_ _))); all_goals (first | omega | (simp; done) | (simp; omega) | (simp [*]; done) | (simp at *; omega)))
  have ha1 : Rd w1 A l := ha.grows g01
  have HW1 := Lib.hid hw1
  clear hw1
  unfold latB
  cases hq : isMat r c l && herB r.toNat c.toNat l
  · rw [hq] at HS
    have HS' := Lib.hid fun W h => HS W h
    clear HS hq hn
    go_enter Try.func60, Try.ntmps60
    go_wp2_with fail
    rw [← HW1.out]
    obtain ⟨x0, x1, x2⟩ := mb1.ext
    ((refine wp_region_ext (by kernel_rfl) (by kernel_rfl) ?_); (repeat (go_big_quiet_step ((go_at_call 114; with_reducible exact extC (HS'.out _ (Rd.ext ha1 _)))))); refine wpQuiet_nil ?_; rintro w5 ⟨w50, hw50⟩; have g5 := grows_of_ext hw50; clear hw50 w50)
    go_wp2_with fail
    go_ret
    exact ⟨by simp, by (have bz0 := Below.size (g5); (try simp at bz0); have bz1 := Below.size (g01); (try simp at bz1); (repeat' (first | with_reducible exact Below.refl _ _ | with_reducible assumption | (with_reducible refine Below.setCell ?_ ?_ _) | (with_reducible refine Below.alloc ?_ ?_ _) | (with_reducible refine Below.drew ?_) | (with_reducible refine below_drewN ?_ _) | (with_reducible refine Below.trans ?_ (Below.mono (g5) ?_)) | (with_reducible refine Below.trans ?_ (Below.mono (g01) ?_)))); all_goals (first | omega | (simp; done) | (simp; omega) | (simp [*]; done) | (simp at *; omega)))⟩
  · rw [hq] at HS
    have HS' := Lib.hid fun W h => HS W h
    rw [Bool.and_eq_true] at hq
    have HNZ := Lib.hid hq.2
    obtain ⟨R, C, rfl, rfl, hR, hC, hlen, hnum⟩ := isMat_nat hq.1
    have HSP := Lib.hid fun W h => l12Rows_c R C A l n cap W hn (hn.symm.trans hlen) hR hC h
    have HZ := Lib.hid (nzN_zeroR hlen hq.2)
    simp only [Int.toNat_natCast, Bool.true_and]
    clear HS hq hn hlen hnum
    rw [← HZ.out]
    have HZ2 := nzN_le C l R
    generalize nzN C l R = q at *
    go_enter Try.func60, Try.ntmps60
    go_wp2_with fail
    rw [← HW1.out]
    obtain ⟨x0, x1, x2⟩ := mb1.ext
    ((refine wp_region_ext (by kernel_rfl) (by kernel_rfl) ?_); (repeat (go_big_quiet_step ((first | (go_at_call 114; with_reducible exact extC (HS'.out _ (Rd.ext ha1 _))) | (go_at_call 115; with_reducible exact extC (HSP.out _ (Rd.ext ha1 _))))))); refine wpQuiet_nil ?_; rintro w5 ⟨w50, hw50⟩; have g5 := grows_of_ext hw50; clear hw50 w50)
    go_wp2_with fail
    go_ret
    refine ⟨ret_bool ?_, by (have bz0 := Below.size (g5); (try simp at bz0); have bz1 := Below.size (g01); (try simp at bz1); (repeat' (first | with_reducible exact Below.refl _ _ | with_reducible assumption | (with_reducible refine Below.setCell ?_ ?_ _) | (with_reducible refine Below.alloc ?_ ?_ _) | (with_reducible refine Below.drew ?_) | (with_reducible refine below_drewN ?_ _) | (with_reducible refine Below.trans ?_ (Below.mono (g5) ?_)) | (with_reducible refine Below.trans ?_ (Below.mono (g01) ?_)))); all_goals (first | omega | (simp; done) | (simp; omega) | (simp [*]; done) | (simp at *; omega)))⟩
    by_cases h : q = R
    · simp [h]
    · simp [h]; omega
end
end Go.Proofs.Ytpfijhcjempfjaa
