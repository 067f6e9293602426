/- Contracts: the laws' own helpers over slices of integers and matrices. -/
import Derived.Test.YtpfijhcjempfjaaMem
import Derived.Deep.QuietTactic
import Derived.BigQuiet
namespace Go.Proofs.Ytpfijhcjempfjaa
open Go.RowKit

theorem set_take (l m : List Int) (k : Nat) (h : k < l.length) (hm : m.length = l.length) (h1 : ∀ i, i < k → nth m i = nth l i) : ∀ i, i < k + 1 → nth (m.set k (nth l k)) i = nth l i := by
  intro i hi
  rw [nth_set _ _ _ _ (by omega)]
  by_cases e : i = k
  · rw [if_pos e, e]
  · rw [if_neg e]; exact h1 i (by omega)

set_option maxHeartbeats 400000 in
theorem toIntS_c (A : Option Addr) (l : List Int) (c : Nat) (w : World) (hr : Rd w A l) (hl : l.length ≤ 1048576) :
    Calls Try.prog 44 #[.slice A l.length c] w fun e w' => ∃ g, e = .returned (.slice (some ⟨g, 0, none⟩) l.length l.length) ∧ Own w' w.heap.size (.slice (some ⟨g, 0, none⟩) l.length l.length) l ∧ Grows w w' := by
  obtain ⟨i0, hi0, hz0, hz1, hz2⟩ := info_parts info_int
  go_enter Try.func44, Try.ntmps44
  go_wp2_with (at_make; refine wpList_make_full _ rfl (.tmp 6) (.tmp 6) 22 rfl w.heap.size 3 i0 (.int .i64 0) 1 Try.underlying22 hi0 hz0 hz1 .i64 .i64 _ _ l.length rfl rfl rfl rfl (by rw [hz2]; omega) (by unfold maxLen; omega) (Nat.le_refl _) ?_; intro w1 hown1 hg1)
  have hz : (w.heap.size : Nat) < w1.heap.size := hown1.lt _ rfl |>.2
  have hown : Own w1 w.heap.size (.slice (some ⟨w.heap.size, 0, none⟩) l.length l.length) (List.replicate l.length 0) := by
    unfold Own
    rw [List.length_replicate, List.map_replicate]
    have := hown1
    rw [show (Value.int IntKind.i64 0).cells = #[Value.int IntKind.i64 0] from rfl, Nat.mul_one, toList_madeCells_one] at this
    exact this
  have hb1 : Grows w w1 := (Below.refl _ _).grown hg1 (Nat.le_refl _) (by simp)
  have HB := Lib.hid hb1
  clear hown1 hg1 hb1
  go_loopw [4] (fun i wr => ∃ (k : Nat) (m : List Int), i = .int .i64 k ∧ k ≤ l.length ∧ m.length = l.length ∧ (∀ i, i < k → nth m i = nth l i) ∧ Own wr w.heap.size (.slice (some ⟨w.heap.size, 0, none⟩) l.length l.length) m ∧ Grows w wr) (fun i _ => l.length - (intOf i).toNat)
  case atStart => exact ⟨0, List.replicate l.length 0, rfl, Nat.zero_le _, by simp, by omega, hown, HB.out⟩
  case round =>
    obtain ⟨k, m, rfl, hk, hm, he, ho, hgr⟩ := hrel
    by_cases hlt : k < l.length
    · obtain ⟨b, off, rfl, hbs, hcell⟩ := (hr.grows hgr).at_ k hlt
      have hc2 := ho.cell k (by omega)
      have hf2 := ho.free k
      have HE := Lib.hid he
      have HM := Lib.hid hm
      clear he hm
      go_wp2
      go_round
      case rel => exact ⟨k + 1, m.set k (nth l k), by go_num, by omega, by rw [List.length_set, HM.out], set_take l m k hlt HM.out HE.out, by have := ho; rw [← HM.out] at this ⊢; exact this.set k _, hgr.setCell (Nat.le_refl _) _⟩
      case measure => simp [intOf]; omega
    · go_wp2
      go_ret
      obtain rfl : m = l := nth_ext hm (fun i hi => he i (by omega))
      exact ⟨_, rfl, ho, hgr⟩

theorem szIntS_c (A : Option Addr) (n c : Nat) (left : Int) (w : World) (hn : n ≤ 9223372036854775807) (h1 : 0 ≤ left) (h2 : left ≤ 1048576) :
    Calls Try.prog 52 #[.slice A n c, .int .i64 left] w fun e w' => e = .returned (.int .i64 (if left < n then -1 else left - n)) ∧ w = w' := by
  by_cases h : left < n
  · go_enter Try.func52, Try.ntmps52
    go_wp2
    go_ret
    exact ⟨by simp, rfl⟩
  · go_enter Try.func52, Try.ntmps52
    go_wp2
    go_ret
    exact ⟨by simp, rfl⟩

theorem szMatrix_c (r cl : Int) (A : Option Addr) (n c : Nat) (left : Int) (w : World) (hn : n ≤ 9223372036854775807) (h1 : 0 ≤ left) (h2 : left ≤ 1048576) :
    Calls Try.prog 15 #[.agg #[.int .i64 r, .int .i64 cl, .slice A n c], .int .i64 left] w fun e w' => e = .returned (.int .i64 (if left < n then -1 else left - n)) ∧ Grows w w' := by
  have c1 := fun w => szIntS_c A n c left w hn h1 h2
  by_cases h : left < n
  · simp only [if_pos h] at c1 ⊢
    have C := Lib.hid c1; clear c1
    go_enter Try.func15, Try.ntmps15
    go_wp2_with (go_at_call 52; refine (C.out _).mono ?_; rintro e w' ⟨rfl, rfl⟩)
    go_ret
    exact ⟨rfl, (Below.refl _ _).alloc (Nat.le_refl _) _⟩
  · simp only [if_neg h] at c1 ⊢
    have C := Lib.hid c1; clear c1
    go_enter Try.func15, Try.ntmps15
    go_wp2_with (go_at_call 52; refine (C.out _).mono ?_; rintro e w' ⟨rfl, rfl⟩)
    go_ret
    exact ⟨rfl, (Below.refl _ _).alloc (Nat.le_refl _) _⟩

set_option maxHeartbeats 400000 in
theorem eqIntS_yes (A B : Option Addr) (l : List Int) (c d : Nat) (w : World) (ha : Rd w A l) (hb : Rd w B l) (hl : l.length ≤ 1099511627776) :
    Calls Try.prog 30 #[.slice A l.length c, .slice B l.length d] w fun e w' => e = .returned (.bool true) ∧ Grows w w' := by
  go_enter Try.func30, Try.ntmps30
  go_wp2
  go_loopw [5] (fun i wr => ∃ (k : Nat), i = .int .i64 k ∧ k ≤ l.length ∧ ∃ n, wr = w.drewN n) (fun i _ => l.length - (intOf i).toNat)
  case atStart => exact ⟨0, rfl, Nat.zero_le _, 0, rfl⟩
  case round =>
    obtain ⟨k, rfl, hk, n, rfl⟩ := hrel
    by_cases hlt : k < l.length
    · obtain ⟨b, off, rfl, hbs, hcell⟩ := ha.at_ k hlt
      obtain ⟨b2, off2, rfl, hbs2, hcell2⟩ := hb.at_ k hlt
      have hk' : (k : Int) < (l.length : Int) := by omega
      go_wp2_with fail
      go_quiet (fail)
      go_wp2
      go_round
      case rel => exact ⟨k + 1, by go_num, by omega, _, rfl⟩
      case measure => simp [intOf]; omega
    · go_wp2
      go_ret
      exact ⟨rfl, ⟨rfl, rfl, rfl, Nat.le_refl _, fun _ _ => rfl⟩⟩
end Go.Proofs.Ytpfijhcjempfjaa
