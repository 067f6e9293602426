/- Contracts: matrices: validity, cells, squares. -/
import Derived.Test.YtpfijhcjempfjaaNumL
import Derived.Test.YtpfijhcjempfjaaReg
namespace Go.Proofs.Ytpfijhcjempfjaa
open Go.RowKit

def isMat (r c : Int) (l : List Int) : Bool := inB r 0 24 && inB c 0 24 && decide ((l.length : Int) = r * c) && allNum l
theorem isMat_iff (r c : Int) (l : List Int) : isMat r c l = true ↔ (0 ≤ r ∧ r ≤ 24) ∧ (0 ≤ c ∧ c ≤ 24) ∧ (l.length : Int) = r * c ∧ allNum l = true := by
  unfold isMat
  simp only [Bool.and_eq_true, inB_iff, decide_eq_true_eq]
  constructor
  · rintro ⟨⟨⟨h1, h2⟩, h3⟩, h4⟩; exact ⟨h1, h2, h3, h4⟩
  · rintro ⟨h1, h2, h3, h4⟩; exact ⟨⟨⟨h1, h2⟩, h3⟩, h4⟩
theorem rc_bd {r c : Int} (h : 0 ≤ r ∧ r ≤ 24 ∧ 0 ≤ c ∧ c ≤ 24) : 0 ≤ r * c ∧ r * c ≤ 576 := by
  obtain ⟨h1, h2, h3, h4⟩ := h
  have := Int.mul_nonneg h1 h3
  have := Int.mul_le_mul h2 h4 h3 (by omega)
  omega

section
set_option maxHeartbeats 1000000
theorem iIsMatrix_c (r c : Int) (A : Option Addr) (l : List Int) (n cap : Nat) (w : World) (hn : l.length = n) (ha : Rd w A l) (hl : n ≤ 1099511627776) :
    Calls Try.prog 109 #[.agg #[.int .i64 r, .int .i64 c, .slice A n cap]] w fun e w' => e = .returned (.bool (isMat r c l)) ∧ Grows w w' := by
  by_cases hp : 0 ≤ r ∧ r ≤ 24 ∧ 0 ≤ c ∧ c ≤ 24
  · have hb := rc_bd hp
    obtain ⟨h1, h2, h3, h4⟩ := hp
    by_cases hL : (n : Int) = r * c
    · have e : isMat r c l = allNum l := by
        unfold isMat
        rw [(inB_iff r 0 24).2 ⟨h1, h2⟩, (inB_iff c 0 24).2 ⟨h3, h4⟩, hn]
        simp [hL]
      have C := fun w h => areNumbers_c A l n cap w hn h hl
      rw [e]
      have hL' : ((n : Int) == r * c) = true := by rw [beq_iff_eq]; exact hL
      generalize allNum l = b at *
      have HC := Lib.hid C
      clear C e hL hn
      go_enter Try.func109, Try.ntmps109
      go_wp2_with fail
      refine (HC.out _ (by exact (Rd.grows ha (by ((repeat' (first | with_reducible exact Below.refl _ _ | with_reducible assumption | (with_reducible refine Below.setCell ?_ ?_ _) | (with_reducible refine Below.alloc ?_ ?_ _) | (with_reducible refine Below.drew ?_) | (with_reducible refine below_drewN ?_ _))); all_goals (first | omega | (simp; done) | (simp; omega) | (simp [*]; done) | (simp at *; omega))))))).mono ?_; rintro e w1 ⟨rfl, rfl⟩
      go_wp2_with fail
      go_ret
      exact ⟨by simp, by ((repeat' (first | with_reducible exact Below.refl _ _ | with_reducible assumption | (with_reducible refine Below.setCell ?_ ?_ _) | (with_reducible refine Below.alloc ?_ ?_ _) | (with_reducible refine Below.drew ?_) | (with_reducible refine below_drewN ?_ _))); all_goals (first | omega | (simp; done) | (simp; omega) | (simp [*]; done) | (simp at *; omega)))⟩
    · have e : isMat r c l = false := by
        unfold isMat
        rw [hn]
        simp [hL]
      rw [e]
      have hL' : ((n : Int) == r * c) = false := by rw [beq_eq_false_iff_ne]; exact hL
      clear e hL hn
      go_enter Try.func109, Try.ntmps109
      go_wp2_with fail
      go_ret
      exact ⟨by simp, by ((repeat' (first | with_reducible exact Below.refl _ _ | with_reducible assumption | (with_reducible refine Below.setCell ?_ ?_ _) | (with_reducible refine Below.alloc ?_ ?_ _) | (with_reducible refine Below.drew ?_) | (with_reducible refine below_drewN ?_ _))); all_goals (first | omega | (simp; done) | (simp; omega) | (simp [*]; done) | (simp at *; omega)))⟩
  · have e : isMat r c l = false := by
      unfold isMat
      simp only [Bool.and_eq_false_iff, inB_no]
      omega
    rw [e]
    clear e hn
    go_enter Try.func109, Try.ntmps109
    go_wp2_with fail
    all_goals go_ret
    all_goals exact ⟨by simp, by ((repeat' (first | with_reducible exact Below.refl _ _ | with_reducible assumption | (with_reducible refine Below.setCell ?_ ?_ _) | (with_reducible refine Below.alloc ?_ ?_ _) | (with_reducible refine Below.drew ?_) | (with_reducible refine below_drewN ?_ _))); all_goals (first | omega | (simp; done) | (simp; omega) | (simp [*]; done) | (simp at *; omega)))⟩

theorem at_c (r c : Int) (A : Option Addr) (l : List Int) (n cap : Nat) (i j : Int) (w : World) (hn : l.length = n) (ha : Rd w A l) (h1 : 0 ≤ i * c) (h2 : i * c ≤ 1099511627776) (h3 : 0 ≤ i * c + j) (h4 : i * c + j < l.length) (h5 : l.length ≤ 1099511627776) :
    Calls Try.prog 78 #[.agg #[.int .i64 r, .int .i64 c, .slice A n cap], .int .i64 i, .int .i64 j] w fun e w' => e = .returned (.int .i64 (nth l (i * c + j).toNat)) ∧ Grows w w' := by
  subst hn
  obtain ⟨b, off, rfl, hb, hc⟩ := ha.at_ (i * c + j).toNat (by omega)
  go_enter Try.func78, Try.ntmps78
  go_wp2_with fail
  go_ret
  exact ⟨rfl, by ((repeat' (first | with_reducible exact Below.refl _ _ | with_reducible assumption | (with_reducible refine Below.setCell ?_ ?_ _) | (with_reducible refine Below.alloc ?_ ?_ _) | (with_reducible refine Below.drew ?_) | (with_reducible refine below_drewN ?_ _))); all_goals (first | omega | (simp; done) | (simp; omega) | (simp [*]; done) | (simp at *; omega)))⟩

theorem l12Cell_c (r c : Int) (A : Option Addr) (l : List Int) (n cap : Nat) (i j : Int) (w : World) (hn : l.length = n) (ha : Rd w A l) (h1 : 0 ≤ i * c) (h2 : i * c ≤ 1099511627776) (h3 : 0 ≤ i * c + j) (h4 : i * c + j < l.length) (h5 : l.length ≤ 1099511627776) :
    Calls Try.prog 74 #[.agg #[.int .i64 r, .int .i64 c, .slice A n cap], .int .i64 i, .int .i64 j] w fun e w' => e = .returned (.int .i64 (nth l (i * c + j).toNat)) ∧ Grows w w' := by
  subst hn
  obtain ⟨b, off, rfl, hb, hc⟩ := ha.at_ (i * c + j).toNat (by omega)
  go_enter Try.func74, Try.ntmps74
  go_wp2_with fail
  go_ret
  exact ⟨rfl, by ((repeat' (first | with_reducible exact Below.refl _ _ | with_reducible assumption | (with_reducible refine Below.setCell ?_ ?_ _) | (with_reducible refine Below.alloc ?_ ?_ _) | (with_reducible refine Below.drew ?_) | (with_reducible refine below_drewN ?_ _))); all_goals (first | omega | (simp; done) | (simp; omega) | (simp [*]; done) | (simp at *; omega)))⟩

theorem sIsMatrix_c (r c : Int) (A : Option Addr) (l : List Int) (n cap : Nat) (w : World) (hn : l.length = n) (ha : Rd w A l) (hl : n ≤ 1099511627776) :
    Calls Try.prog 91 #[.agg #[.int .i64 r, .int .i64 c, .slice A n cap]] w fun e w' => e = .returned (.bool (isMat r c l)) ∧ Grows w w' := by
  subst hn
  have HN := Lib.hid fun w x => sIsNumber_c x w
  have C1 := fun w => l1In_c r 0 24 w
  have C2 := fun w => l1In_c c 0 24 w
  cases h1 : inB r 0 24
  · have e : isMat r c l = false := by unfold isMat; rw [h1]; simp
    rw [h1] at C1
    have H1 := Lib.hid C1
    rw [e]
    clear C1 C2 h1 e
    go_enter Try.func91, Try.ntmps91
    go_wp2_with fail
    refine (H1.out _).mono ?_; rintro e w1 ⟨rfl, rfl⟩
    go_wp2_with fail
    go_ret
    exact ⟨by simp, by ((repeat' (first | with_reducible exact Below.refl _ _ | with_reducible assumption | (with_reducible refine Below.setCell ?_ ?_ _) | (with_reducible refine Below.alloc ?_ ?_ _) | (with_reducible refine Below.drew ?_) | (with_reducible refine below_drewN ?_ _))); all_goals (first | omega | (simp; done) | (simp; omega) | (simp [*]; done) | (simp at *; omega)))⟩
  · cases h2 : inB c 0 24
    · have e : isMat r c l = false := by unfold isMat; rw [h2]; simp
      rw [h1] at C1
      rw [h2] at C2
      have H1 := Lib.hid C1
      have H2 := Lib.hid C2
      rw [e]
      clear C1 C2 h1 h2 e
      go_enter Try.func91, Try.ntmps91
      go_wp2_with fail
      refine (H1.out _).mono ?_; rintro e w1 ⟨rfl, rfl⟩
      go_wp2_with fail
      refine (H2.out _).mono ?_; rintro e w1 ⟨rfl, rfl⟩
      go_wp2_with fail
      go_ret
      exact ⟨by simp, by ((repeat' (first | with_reducible exact Below.refl _ _ | with_reducible assumption | (with_reducible refine Below.setCell ?_ ?_ _) | (with_reducible refine Below.alloc ?_ ?_ _) | (with_reducible refine Below.drew ?_) | (with_reducible refine below_drewN ?_ _))); all_goals (first | omega | (simp; done) | (simp; omega) | (simp [*]; done) | (simp at *; omega)))⟩
    · have b1 := (inB_iff _ _ _).1 h1
      have b2 := (inB_iff _ _ _).1 h2
      have hb := rc_bd (r := r) (c := c) (by omega)
      have e0 : isMat r c l = (decide ((l.length : Int) = r * c) && allNum l) := by unfold isMat; rw [h1, h2]; simp
      rw [h1] at C1
      rw [h2] at C2
      have H1 := Lib.hid C1
      have H2 := Lib.hid C2
      rw [e0]
      clear C1 C2 h1 h2 e0
      by_cases hL : (l.length : Int) = r * c
      · have hL' : ((l.length : Int) != r * c) = false := by simpa using hL
        have HL := Lib.hid hL
        have e1 : decide ((l.length : Int) = r * c) = true := by simpa using hL
        rw [e1]
        clear hL e1
        go_enter Try.func91, Try.ntmps91
        go_wp2_with fail
        refine (H1.out _).mono ?_; rintro e w1 ⟨rfl, rfl⟩
        go_wp2_with fail
        refine (H2.out _).mono ?_; rintro e w1 ⟨rfl, rfl⟩
        go_wp2_with fail
        go_loop [3] (fun k => ∃ (i : Nat), k = .int .i64 i ∧ i ≤ l.length ∧ ∀ t, t < i → isNum (nth l t) = true) (fun k => l.length - (intOf k).toNat)
        case atStart => exact ⟨0, rfl, Nat.zero_le _, fun t h => by omega⟩
        case round =>
          obtain ⟨i, rfl, hi, hnum⟩ := hrel
          have HU := Lib.hid hnum
          clear hnum
          by_cases hlt : i < l.length
          · obtain ⟨b, o, rfl, hbs, hc⟩ := ha.at_ i hlt
            cases h1 : isNum (nth l i)
            · have H1 := Lib.hid fun w => HN.out w (nth l i)
              have hno := Lib.hid (allNum_no hlt h1)
              rw [h1] at H1
              clear h1
              go_wp2_with (go_at_call 113; refine (H1.out _).mono ?_; rintro e w' ⟨rfl, rfl⟩)
              go_ret
              exact ⟨by rw [hno.out]; rfl, by ((repeat' (first | with_reducible exact Below.refl _ _ | with_reducible assumption | (with_reducible refine Below.setCell ?_ ?_ _) | (with_reducible refine Below.alloc ?_ ?_ _) | (with_reducible refine Below.drew ?_) | (with_reducible refine below_drewN ?_ _))); all_goals (first | omega | (simp; done) | (simp; omega) | (simp [*]; done) | (simp at *; omega)))⟩
            · have H1 := Lib.hid fun w => HN.out w (nth l i)
              have K1 := Lib.hid h1
              rw [h1] at H1
              clear h1
              go_wp2_with (go_at_call 113; refine (H1.out _).mono ?_; rintro e w' ⟨rfl, rfl⟩)
              go_round
              case rel => exact ⟨i + 1, by go_num, by omega, fun t ht => by (by_cases e : t = i); (· subst e; exact K1.out); (· exact HU.out t (by omega))⟩
              case measure => simp [intOf]; omega
          · obtain rfl : i = l.length := by omega
            have hok := Lib.hid ((allNum_iff l).2 HU.out)
            go_wp2_with fail
            go_ret
            exact ⟨by rw [hok.out]; rfl, by ((repeat' (first | with_reducible exact Below.refl _ _ | with_reducible assumption | (with_reducible refine Below.setCell ?_ ?_ _) | (with_reducible refine Below.alloc ?_ ?_ _) | (with_reducible refine Below.drew ?_) | (with_reducible refine below_drewN ?_ _))); all_goals (first | omega | (simp; done) | (simp; omega) | (simp [*]; done) | (simp at *; omega)))⟩
      · have hL' : ((l.length : Int) != r * c) = true := by simpa using hL
        have e1 : decide ((l.length : Int) = r * c) = false := by simpa using hL
        rw [e1]
        clear hL e1
        go_enter Try.func91, Try.ntmps91
        go_wp2_with fail
        refine (H1.out _).mono ?_; rintro e w1 ⟨rfl, rfl⟩
        go_wp2_with fail
        refine (H2.out _).mono ?_; rintro e w1 ⟨rfl, rfl⟩
        go_wp2_with fail
        go_ret
        exact ⟨by simp, by ((repeat' (first | with_reducible exact Below.refl _ _ | with_reducible assumption | (with_reducible refine Below.setCell ?_ ?_ _) | (with_reducible refine Below.alloc ?_ ?_ _) | (with_reducible refine Below.drew ?_) | (with_reducible refine below_drewN ?_ _))); all_goals (first | omega | (simp; done) | (simp; omega) | (simp [*]; done) | (simp at *; omega)))⟩

def isSq (r c : Int) (l : List Int) : Bool := isMat r c l && (r == c) && decide (r ≤ 6)

theorem iIsSquare_c (r c : Int) (A : Option Addr) (l : List Int) (n cap : Nat) (w : World) (hn : l.length = n) (ha : Rd w A l) (hl : n ≤ 1099511627776) :
    Calls Try.prog 112 #[.agg #[.int .i64 r, .int .i64 c, .slice A n cap]] w fun e w' => e = .returned (.bool (isSq r c l)) ∧ Grows w w' := by
  have C := fun w h => iIsMatrix_c r c A l n cap w hn h hl
  unfold isSq
  generalize isMat r c l = b at *
  have HC := Lib.hid C
  clear C hn
  cases b
  · go_enter Try.func112, Try.ntmps112
    go_wp2_with fail
    refine (HC.out _ (by exact (Rd.grows ha (by ((repeat' (first | with_reducible exact Below.refl _ _ | with_reducible assumption | (with_reducible refine Below.setCell ?_ ?_ _) | (with_reducible refine Below.alloc ?_ ?_ _) | (with_reducible refine Below.drew ?_) | (with_reducible refine below_drewN ?_ _))); all_goals (first | omega | (simp; done) | (simp; omega) | (simp [*]; done) | (simp at *; omega))))))).mono ?_; rintro e w1 ⟨rfl, g1⟩
    go_wp2_with fail
    go_ret
    exact ⟨by simp, by (have bz0 := Below.size (g1); (try simp at bz0); (repeat' (first | with_reducible exact Below.refl _ _ | with_reducible assumption | (with_reducible refine Below.setCell ?_ ?_ _) | (with_reducible refine Below.alloc ?_ ?_ _) | (with_reducible refine Below.drew ?_) | (with_reducible refine below_drewN ?_ _) | (with_reducible refine Below.trans ?_ (Below.mono (g1) ?_)))); all_goals (first | omega | (simp; done) | (simp; omega) | (simp [*]; done) | (simp at *; omega)))⟩
  · cases h2 : (r == c)
    · go_enter Try.func112, Try.ntmps112
      go_wp2_with fail
      refine (HC.out _ (by exact (Rd.grows ha (by ((repeat' (first | with_reducible exact Below.refl _ _ | with_reducible assumption | (with_reducible refine Below.setCell ?_ ?_ _) | (with_reducible refine Below.alloc ?_ ?_ _) | (with_reducible refine Below.drew ?_) | (with_reducible refine below_drewN ?_ _))); all_goals (first | omega | (simp; done) | (simp; omega) | (simp [*]; done) | (simp at *; omega))))))).mono ?_; rintro e w1 ⟨rfl, g1⟩
      obtain ⟨cg1, fg1⟩ := bcell g1; have zg10 : w.heap.size < w1.heap.size := by (have := g1.size; (try simp at this); omega)
      go_wp2_with fail
      go_ret
      exact ⟨by simp, by (have bz0 := Below.size (g1); (try simp at bz0); (repeat' (first | with_reducible exact Below.refl _ _ | with_reducible assumption | (with_reducible refine Below.setCell ?_ ?_ _) | (with_reducible refine Below.alloc ?_ ?_ _) | (with_reducible refine Below.drew ?_) | (with_reducible refine below_drewN ?_ _) | (with_reducible refine Below.trans ?_ (Below.mono (g1) ?_)))); all_goals (first | omega | (simp; done) | (simp; omega) | (simp [*]; done) | (simp at *; omega)))⟩
    · go_enter Try.func112, Try.ntmps112
      go_wp2_with fail
      refine (HC.out _ (by exact (Rd.grows ha (by ((repeat' (first | with_reducible exact Below.refl _ _ | with_reducible assumption | (with_reducible refine Below.setCell ?_ ?_ _) | (with_reducible refine Below.alloc ?_ ?_ _) | (with_reducible refine Below.drew ?_) | (with_reducible refine below_drewN ?_ _))); all_goals (first | omega | (simp; done) | (simp; omega) | (simp [*]; done) | (simp at *; omega))))))).mono ?_; rintro e w1 ⟨rfl, g1⟩
      obtain ⟨cg1, fg1⟩ := bcell g1; have zg10 : w.heap.size < w1.heap.size := by (have := g1.size; (try simp at this); omega)
      go_wp2_with fail
      go_ret
      exact ⟨by simp, by (have bz0 := Below.size (g1); (try simp at bz0); (repeat' (first | with_reducible exact Below.refl _ _ | with_reducible assumption | (with_reducible refine Below.setCell ?_ ?_ _) | (with_reducible refine Below.alloc ?_ ?_ _) | (with_reducible refine Below.drew ?_) | (with_reducible refine below_drewN ?_ _) | (with_reducible refine Below.trans ?_ (Below.mono (g1) ?_)))); all_goals (first | omega | (simp; done) | (simp; omega) | (simp [*]; done) | (simp at *; omega)))⟩

theorem sIsSquare_c (r c : Int) (A : Option Addr) (l : List Int) (n cap : Nat) (w : World) (hn : l.length = n) (ha : Rd w A l) (hl : n ≤ 1099511627776) :
    Calls Try.prog 105 #[.agg #[.int .i64 r, .int .i64 c, .slice A n cap]] w fun e w' => e = .returned (.bool (isSq r c l)) ∧ Grows w w' := by
  have C := fun w h => sIsMatrix_c r c A l n cap w hn h hl
  unfold isSq
  generalize isMat r c l = b at *
  have HC := Lib.hid C
  clear C hn
  cases b
  · go_enter Try.func105, Try.ntmps105
    go_wp2_with fail
    refine (HC.out _ (by exact (Rd.grows ha (by ((repeat' (first | with_reducible exact Below.refl _ _ | with_reducible assumption | (with_reducible refine Below.setCell ?_ ?_ _) | (with_reducible refine Below.alloc ?_ ?_ _) | (with_reducible refine Below.drew ?_) | (with_reducible refine below_drewN ?_ _))); all_goals (first | omega | (simp; done) | (simp; omega) | (simp [*]; done) | (simp at *; omega))))))).mono ?_; rintro e w1 ⟨rfl, g1⟩
    go_wp2_with fail
    go_ret
    exact ⟨by simp, by (have bz0 := Below.size (g1); (try simp at bz0); (repeat' (first | with_reducible exact Below.refl _ _ | with_reducible assumption | (with_reducible refine Below.setCell ?_ ?_ _) | (with_reducible refine Below.alloc ?_ ?_ _) | (with_reducible refine Below.drew ?_) | (with_reducible refine below_drewN ?_ _) | (with_reducible refine Below.trans ?_ (Below.mono (g1) ?_)))); all_goals (first | omega | (simp; done) | (simp; omega) | (simp [*]; done) | (simp at *; omega)))⟩
  · cases h2 : (r == c)
    all_goals
      go_enter Try.func105, Try.ntmps105
      go_wp2_with fail
      refine (HC.out _ (by exact (Rd.grows ha (by ((repeat' (first | with_reducible exact Below.refl _ _ | with_reducible assumption | (with_reducible refine Below.setCell ?_ ?_ _) | (with_reducible refine Below.alloc ?_ ?_ _) | (with_reducible refine Below.drew ?_) | (with_reducible refine below_drewN ?_ _))); all_goals (first | omega | (simp; done) | (simp; omega) | (simp [*]; done) | (simp at *; omega))))))).mono ?_; rintro e w1 ⟨rfl, g1⟩
      obtain ⟨cg1, fg1⟩ := bcell g1; have zg10 : w.heap.size < w1.heap.size := by (have := g1.size; (try simp at this); omega)
      go_wp2_with fail
      go_ret
      exact ⟨by simp, by (have bz0 := Below.size (g1); (try simp at bz0); (repeat' (first | with_reducible exact Below.refl _ _ | with_reducible assumption | (with_reducible refine Below.setCell ?_ ?_ _) | (with_reducible refine Below.alloc ?_ ?_ _) | (with_reducible refine Below.drew ?_) | (with_reducible refine below_drewN ?_ _) | (with_reducible refine Below.trans ?_ (Below.mono (g1) ?_)))); all_goals (first | omega | (simp; done) | (simp; omega) | (simp [*]; done) | (simp at *; omega)))⟩
end
end Go.Proofs.Ytpfijhcjempfjaa
