/- Contracts: definite forms. -/
import Derived.Test.YtpfijhcjempfjaaSLMin
namespace Go.Proofs.Ytpfijhcjempfjaa
open Go.RowKit

/-! ### plain -/
def allPos (s : List Int) : Bool := s.all fun x => decide (0 < x)
theorem allPos_iff (s : List Int) : allPos s = true ↔ ∀ i, i < s.length → 0 < nth s i := by
  unfold allPos
  rw [List.all_eq_true]
  constructor
  · intro h i hi
    rw [nth_get s i hi]
    simpa using h _ (List.getElem_mem hi)
  · intro h x hx
    obtain ⟨i, hi, rfl⟩ := List.getElem_of_mem hx
    have := h i hi
    rw [nth_get s i hi] at this
    simpa using this
/-- is a form definite? -/
def isDef (r c : Int) (l : List Int) : Bool := (lmO r c l).isSome && allPos (oL (lmO r c l)) && isGram r c l

def posUpto (s : List Int) (k : Nat) : Bool := allPos (s.take k)
theorem posUpto_zero (s : List Int) : posUpto s 0 = true := rfl
theorem posUpto_succ {s : List Int} {k : Nat} (h : k < s.length) : posUpto s (k + 1) = (posUpto s k && decide (0 < nth s k)) := by
  unfold posUpto allPos
  rw [List.take_succ_eq_append_getElem h, List.all_append, nth_get s k h]; simp
theorem posUpto_all (s : List Int) : posUpto s s.length = allPos s := by unfold posUpto; rw [List.take_length]

section
set_option maxHeartbeats 1000000
theorem iIsDef_c (r c : Int) (A : Option Addr) (l : List Int) (n cap : Nat) (w : World) (hn : l.length = n) (hcap : n ≤ cap) (hcap2 : cap ≤ 9223372036854775807) (ha : Rd w A l) (hl : n ≤ 1099511627776) :
    Calls Try.prog 25 #[.agg #[.int .i64 r, .int .i64 c, .slice A n cap]] w fun e w' => e = .returned (.bool (isDef r c l)) ∧ Grows w w' := by
  have HL := Lib.hid fun W h => iLMin_c r c A l n cap W hn hcap hcap2 h hl
  have HG := Lib.hid fun W h => iIsGram_c r c A l n cap W hn h hl
  have hsl : (oL (lmO r c l)).length ≤ 6 := by
    cases hx : lmO r c l with
    | none => simp [oL]
    | some s => exact lmO_length hx
  unfold isDef
  clear hn
  generalize oL (lmO r c l) = S at *
  generalize (lmO r c l).isSome = ok at *
  generalize isGram r c l = gb at *
  obtain ⟨w1, hw1⟩ : ∃ w1, w1 = w.alloc (.cells #[.int .i64 r, .int .i64 c, .slice A n cap] 26) := ⟨_, rfl⟩
  have mb1 : MBox w1 w.heap.size r c (.slice A n cap) := by rw [hw1]; exact MBox.mk_ _ _ _ _ _
  have g01 : Grows w w1 := by rw [hw1]; ((repeat' (first | with_reducible exact Below.refl _ _ | with_reducible assumption | (with_reducible refine Below.setCell ?_ ?_ _) | (with_reducible refine Below.alloc ?_ ?_ _) | (with_reducible refine Below.drew ?_) | (with_reducible refine below_drewN ?_ _))); all_goals (first | omega | (simp; done) | (simp; omega) | (simp [*]; done) | (simp at *; omega)))
  have HW1 := Lib.hid hw1
  clear hw1
  go_enter Try.func25, Try.ntmps25
  go_wp2_with fail
  refine (HL.out _ (by exact (Rd.grows ha (by ((repeat' (first | with_reducible exact Below.refl _ _ | with_reducible assumption | (with_reducible refine Below.setCell ?_ ?_ _) | (with_reducible refine Below.alloc ?_ ?_ _) | (with_reducible refine Below.drew ?_) | (with_reducible refine below_drewN ?_ _))); all_goals (first | omega | (simp; done) | (simp; omega) | (simp [*]; done) | (simp at *; omega))))))).mono ?_; rintro e w2 ⟨v2, rfl, ho2, g2⟩
  rw [← HW1.out] at g2 ho2
  obtain ⟨A2, c2, rfl, hr2, _⟩ := ho2.val
  go_wp2_with fail
  go_loop [4, 14] (fun o i => ∃ I : Nat, i = .int .i64 I ∧ I ≤ S.length ∧ o = .bool (ok && posUpto S I)) (fun _ i => S.length - (intOf i).toNat)
  case atStart => exact ⟨0, rfl, Nat.zero_le _, by rw [posUpto_zero, Bool.and_true]⟩
  case round =>
    obtain ⟨I, rfl, hI, rfl⟩ := hrel
    by_cases hlt : I < S.length
    · obtain ⟨b, off, rfl, hbs, hcell⟩ := hr2.at_ I hlt
      have HP := Lib.hid (posUpto_succ hlt)
      have i1 : (I : Int) < (S.length : Int) := by omega
      generalize hpo : (ok && posUpto S I) = po at *
      have HPO := Lib.hid hpo
      clear hpo
      cases po
      · go_wp2_with fail
        go_round
        case rel => exact ⟨I + 1, by go_num, by omega, by rw [HP.out, ← Bool.and_assoc, HPO.out]; rfl⟩
        case measure => simp [intOf]; omega
      · go_wp2_with fail
        go_round
        case rel => exact ⟨I + 1, by go_num, by omega, by rw [HP.out, ← Bool.and_assoc, HPO.out]; rfl⟩
        case measure => simp [intOf]; omega
    · obtain rfl : I = S.length := by omega
      rw [posUpto_all] at *
      obtain ⟨b0, b1, b2⟩ := (mb1.grows g2).cells
      generalize hpo : (ok && allPos S) = po at *
      have HPO := Lib.hid hpo
      clear hpo
      cases po
      · go_wp2_with fail
        go_ret
        exact ⟨ret_bool (by rw [HPO.out]; rfl), by (have bz0 := Below.size (g2); (try simp at bz0); have bz1 := Below.size (g01); (try simp at bz1); (repeat' (first | with_reducible exact Below.refl _ _ | with_reducible assumption | (with_reducible refine Below.setCell ?_ ?_ _) | (with_reducible refine Below.alloc ?_ ?_ _) | (with_reducible refine Below.drew ?_) | (with_reducible refine below_drewN ?_ _) | (with_reducible refine Below.trans ?_ (Below.mono (g2) ?_)) | (with_reducible refine Below.trans ?_ (Below.mono (g01) ?_)))); all_goals (first | omega | (simp; done) | (simp; omega) | (simp [*]; done) | (simp at *; omega)))⟩
      · go_wp2_with fail
        refine (HG.out _ (by exact (Rd.grows ha (by (have bz0 := Below.size (g2); (try simp at bz0); have bz1 := Below.size (g01); (try simp at bz1); (repeat' (first | with_reducible exact Below.refl _ _ | with_reducible assumption | (with_reducible refine Below.setCell ?_ ?_ _) | (with_reducible refine Below.alloc ?_ ?_ _) | (with_reducible refine Below.drew ?_) | (with_reducible refine below_drewN ?_ _) | (with_reducible refine Below.trans ?_ (Below.mono (g2) ?_)) | (with_reducible refine Below.trans ?_ (Below.mono (g01) ?_)))); all_goals (first | omega | (simp; done) | (simp; omega) | (simp [*]; done) | (simp at *; omega))))))).mono ?_; rintro e w3 ⟨rfl, g3⟩
        go_wp2_with fail
        go_ret
        exact ⟨ret_bool (by rw [HPO.out]; rfl), by (have bz0 := Below.size (g3); (try simp at bz0); have bz1 := Below.size (g2); (try simp at bz1); have bz2 := Below.size (g01); (try simp at bz2); (repeat' (first | with_reducible exact Below.refl _ _ | with_reducible assumption | (with_reducible refine Below.setCell ?_ ?_ _) | (with_reducible refine Below.alloc ?_ ?_ _) | (with_reducible refine Below.drew ?_) | (with_reducible refine below_drewN ?_ _) | (with_reducible refine Below.trans ?_ (Below.mono (g3) ?_)) | (with_reducible refine Below.trans ?_ (Below.mono (g2) ?_)) | (with_reducible refine Below.trans ?_ (Below.mono (g01) ?_)))); all_goals (first | omega | (simp; done) | (simp; omega) | (simp [*]; done) | (simp at *; omega)))⟩
theorem sIsDef_c (r c : Int) (A : Option Addr) (l : List Int) (n cap : Nat) (w : World) (hn : l.length = n) (ha : Rd w A l) (hl : n ≤ 1099511627776) :
    Calls Try.prog 24 #[.agg #[.int .i64 r, .int .i64 c, .slice A n cap]] w fun e w' => e = .returned (.bool (isDef r c l)) ∧ Grows w w' := by
  have HL := Lib.hid fun W h => sLMin_c r c A l n cap W hn h hl
  have HG := Lib.hid fun W h => sIsGram_c r c A l n cap W hn h hl
  have hsl : (oL (lmO r c l)).length ≤ 6 := by
    cases hx : lmO r c l with
    | none => simp [oL]
    | some s => exact lmO_length hx
  have hnone : (lmO r c l).isSome = false → oL (lmO r c l) = [] := by cases lmO r c l <;> simp [oL]
  unfold isDef
  clear hn
  generalize oL (lmO r c l) = S at *
  generalize (lmO r c l).isSome = ok at *
  generalize isGram r c l = gb at *
  have HNO := Lib.hid hnone
  clear hnone
  obtain ⟨w1, hw1⟩ : ∃ w1, w1 = w.alloc (.cells #[.int .i64 r, .int .i64 c, .slice A n cap] 26) := ⟨_, rfl⟩
  have mb1 : MBox w1 w.heap.size r c (.slice A n cap) := by rw [hw1]; exact MBox.mk_ _ _ _ _ _
  have g01 : Grows w w1 := by rw [hw1]; ((repeat' (first | with_reducible exact Below.refl _ _ | with_reducible assumption | (with_reducible refine Below.setCell ?_ ?_ _) | (with_reducible refine Below.alloc ?_ ?_ _) | (with_reducible refine Below.drew ?_) | (with_reducible refine below_drewN ?_ _))); all_goals (first | omega | (simp; done) | (simp; omega) | (simp [*]; done) | (simp at *; omega)))
  have HW1 := Lib.hid hw1
  clear hw1
  go_enter Try.func24, Try.ntmps24
  go_wp2_with fail
  refine (HL.out _ (by exact (Rd.grows ha (by ((repeat' (first | with_reducible exact Below.refl _ _ | with_reducible assumption | (with_reducible refine Below.setCell ?_ ?_ _) | (with_reducible refine Below.alloc ?_ ?_ _) | (with_reducible refine Below.drew ?_) | (with_reducible refine below_drewN ?_ _))); all_goals (first | omega | (simp; done) | (simp; omega) | (simp [*]; done) | (simp at *; omega))))))).mono ?_; rintro e w2 ⟨v2, rfl, ho2, g2⟩
  rw [← HW1.out] at g2 ho2
  obtain ⟨A2, c2, rfl, hr2, _⟩ := ho2.val
  go_wp2_with fail
  go_loop [5] (fun i => ∃ I : Nat, i = .int .i64 I ∧ I ≤ S.length ∧ posUpto S I = true) (fun i => S.length - (intOf i).toNat)
  case atStart => exact ⟨0, rfl, Nat.zero_le _, posUpto_zero S⟩
  case round =>
    obtain ⟨I, rfl, hI, hpo⟩ := hrel
    have HPO := Lib.hid hpo
    clear hpo
    by_cases hlt : I < S.length
    · obtain ⟨b, off, rfl, hbs, hcell⟩ := hr2.at_ I hlt
      have HP := Lib.hid (posUpto_succ hlt)
      have i1 : (I : Int) < (S.length : Int) := by omega
      by_cases hx : 0 < nth S I
      · have hx' : ¬ nth S I ≤ 0 := by omega
        have HX := Lib.hid hx
        clear hx
        go_wp2_with fail
        go_round
        case rel => exact ⟨I + 1, by go_num, by omega, by rw [HP.out, HPO.out]; simpa using HX.out⟩
        case measure => simp [intOf]; omega
      · have hx' : nth S I ≤ 0 := by omega
        have HX := Lib.hid (show allPos S = false by
          cases e : allPos S
          · rfl
          · exact absurd ((allPos_iff S).1 e I hlt) hx)
        clear hx
        go_wp2_with fail
        go_ret
        exact ⟨by rw [HX.out]; simp, by (have bz0 := Below.size (g2); (try simp at bz0); have bz1 := Below.size (g01); (try simp at bz1); (repeat' (first | with_reducible exact Below.refl _ _ | with_reducible assumption | (with_reducible refine Below.setCell ?_ ?_ _) | (with_reducible refine Below.alloc ?_ ?_ _) | (with_reducible refine Below.drew ?_) | (with_reducible refine below_drewN ?_ _) | (with_reducible refine Below.trans ?_ (Below.mono (g2) ?_)) | (with_reducible refine Below.trans ?_ (Below.mono (g01) ?_)))); all_goals (first | omega | (simp; done) | (simp; omega) | (simp [*]; done) | (simp at *; omega)))⟩
    · obtain rfl : I = S.length := by omega
      rw [posUpto_all] at HPO
      obtain ⟨b0, b1, b2⟩ := (mb1.grows g2).cells
      cases ok
      · go_wp2_with fail
        go_ret
        exact ⟨by simp, by (have bz0 := Below.size (g2); (try simp at bz0); have bz1 := Below.size (g01); (try simp at bz1); (repeat' (first | with_reducible exact Below.refl _ _ | with_reducible assumption | (with_reducible refine Below.setCell ?_ ?_ _) | (with_reducible refine Below.alloc ?_ ?_ _) | (with_reducible refine Below.drew ?_) | (with_reducible refine below_drewN ?_ _) | (with_reducible refine Below.trans ?_ (Below.mono (g2) ?_)) | (with_reducible refine Below.trans ?_ (Below.mono (g01) ?_)))); all_goals (first | omega | (simp; done) | (simp; omega) | (simp [*]; done) | (simp at *; omega)))⟩
      · go_wp2_with fail
        refine (HG.out _ (by exact (Rd.grows ha (by (have bz0 := Below.size (g2); (try simp at bz0); have bz1 := Below.size (g01); (try simp at bz1); (repeat' (first | with_reducible exact Below.refl _ _ | with_reducible assumption | (with_reducible refine Below.setCell ?_ ?_ _) | (with_reducible refine Below.alloc ?_ ?_ _) | (with_reducible refine Below.drew ?_) | (with_reducible refine below_drewN ?_ _) | (with_reducible refine Below.trans ?_ (Below.mono (g2) ?_)) | (with_reducible refine Below.trans ?_ (Below.mono (g01) ?_)))); all_goals (first | omega | (simp; done) | (simp; omega) | (simp [*]; done) | (simp at *; omega))))))).mono ?_; rintro e w3 ⟨rfl, g3⟩
        go_wp2_with fail
        go_ret
        exact ⟨by rw [HPO.out]; simp, by (have bz0 := Below.size (g3); (try simp at bz0); have bz1 := Below.size (g2); (try simp at bz1); have bz2 := Below.size (g01); (try simp at bz2); (repeat' (first | with_reducible exact Below.refl _ _ | with_reducible assumption | (with_reducible refine Below.setCell ?_ ?_ _) | (with_reducible refine Below.alloc ?_ ?_ _) | (with_reducible refine Below.drew ?_) | (with_reducible refine below_drewN ?_ _) | (with_reducible refine Below.trans ?_ (Below.mono (g3) ?_)) | (with_reducible refine Below.trans ?_ (Below.mono (g2) ?_)) | (with_reducible refine Below.trans ?_ (Below.mono (g01) ?_)))); all_goals (first | omega | (simp; done) | (simp; omega) | (simp [*]; done) | (simp at *; omega)))⟩
end
end Go.Proofs.Ytpfijhcjempfjaa
