/- Contract: are all numbers of a slice within the limit? -/
import Derived.Test.YtpfijhcjempfjaaNums
namespace Go.Proofs.Ytpfijhcjempfjaa
open Go.RowKit

def allNum (l : List Int) : Bool := l.all isNum
theorem allNum_iff (l : List Int) : allNum l = true ↔ ∀ i, i < l.length → isNum (nth l i) = true := by
  unfold allNum
  rw [List.all_eq_true]
  constructor
  · intro h i hi
    rw [nth_get l i hi]
    exact h _ (List.getElem_mem hi)
  · intro h x hx
    obtain ⟨i, hi, rfl⟩ := List.getElem_of_mem hx
    have := h i hi
    rwa [nth_get l i hi] at this
theorem allNum_no {l : List Int} {i : Nat} (hi : i < l.length) (h : isNum (nth l i) = false) : allNum l = false := by
  cases e : allNum l
  · rfl
  · have := (allNum_iff l).1 e i hi
    rw [h] at this; cases this

theorem areNumbers_c (A : Option Addr) (l : List Int) (n c : Nat) (w : World) (hn : l.length = n) (ha : Rd w A l) (hl : n ≤ 1099511627776) :
    Calls Try.prog 125 #[.slice A n c] w fun e w' => e = .returned (.bool (allNum l)) ∧ w = w' := by
  subst hn
  have HN := Lib.hid fun w x => iIsNumber_c x w
  go_enter Try.func125, Try.ntmps125
  go_wp2_with fail
  go_loop [7] (fun k => ∃ (i : Nat), k = .int .i64 i ∧ i ≤ l.length ∧ ∀ t, t < i → isNum (nth l t) = true) (fun k => l.length - (intOf k).toNat)
  case atStart => exact ⟨0, rfl, Nat.zero_le _, fun t h => by omega⟩
  case round =>
    obtain ⟨i, rfl, hi, hnum⟩ := hrel
    have HU := Lib.hid hnum
    clear hnum
    by_cases hlt : i < l.length
    · obtain ⟨b, o, rfl, hbs, hc⟩ := ha.at_ i hlt
      cases h1 : isNum (nth l i)
      · have H1 := Lib.hid fun w => HN.out w (nth l i)
        have hno := Lib.hid (allNum_no hlt h1)
        rw [h1] at H1
        clear h1
        go_wp2_with (go_at_call 79; refine (H1.out _).mono ?_; rintro e w' ⟨rfl, rfl⟩)
        go_ret
        exact ⟨by rw [hno.out]; rfl, rfl⟩
      · have H1 := Lib.hid fun w => HN.out w (nth l i)
        have K1 := Lib.hid h1
        rw [h1] at H1
        clear h1
        go_wp2_with (go_at_call 79; refine (H1.out _).mono ?_; rintro e w' ⟨rfl, rfl⟩)
        go_round
        case rel => exact ⟨i + 1, by go_num, by omega, fun t ht => by (by_cases e : t = i); (· subst e; exact K1.out); (· exact HU.out t (by omega))⟩
        case measure => simp [intOf]; omega
    · obtain rfl : i = l.length := by omega
      have hok := Lib.hid ((allNum_iff l).2 HU.out)
      go_wp2_with fail
      go_ret
      exact ⟨by rw [hok.out]; rfl, rfl⟩
end Go.Proofs.Ytpfijhcjempfjaa
