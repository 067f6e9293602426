/- Contracts and lemmas, put together. -/
import Derived.Test.YtpfijhcjempfjaaPkD
import Derived.Test.YtpfijhcjempfjaaPkC
/- Contracts: the squares of the orthogonal vectors. -/
namespace Go.Proofs.Ytpfijhcjempfjaa
set_option linter.unusedSimpArgs false
set_option linter.unusedVariables false
open Go.RowKit

def befP (L : List Int) : Nat → Int
  | 0 => 1
  | i + 1 => nth L i
def sqP (L : List Int) : Nat → List Q2
  | 0 => []
  | i + 1 => sqP L i ++ [makeQ (nth L i) (befP L i)]
theorem sqP_length (L : List Int) (i : Nat) : (sqP L i).length = i := by
  induction i with
  | zero => rfl
  | succ i ih => rw [sqP]; simp [ih]
def sqO (r c : Int) (l : List Int) : Option (List Q2) := if isDef r c l then some (sqP (oL (lmO r c l)) (oL (lmO r c l)).length) else none
def oLQ (o : Option (List Q2)) : List Q2 := o.getD []
theorem sqO_length {r c : Int} {l : List Int} : (oLQ (sqO r c l)).length ≤ 1048576 := by
  unfold sqO
  split
  · show (sqP _ _).length ≤ _
    rw [sqP_length]
    cases hx : lmO r c l with
    | none => simp [oL]
    | some s => have := lmO_length hx; simp [oL]; omega
  · simp [oLQ]
theorem oL_lm_length (r c : Int) (l : List Int) : (oL (lmO r c l)).length ≤ 1048576 := by
  cases hx : lmO r c l with
  | none => simp [oL]
  | some s => have := lmO_length hx; simp [oL]; omega

section
set_option maxHeartbeats 1000000
theorem iSq_c (r c : Int) (A : Option Addr) (l : List Int) (n cap : Nat) (w : World) (hn : l.length = n) (hcap : n ≤ cap) (hcap2 : cap ≤ 9223372036854775807) (ha : Rd w A l) (hl : n ≤ 1099511627776) :
    Calls Try.prog 34 #[.agg #[.int .i64 r, .int .i64 c, .slice A n cap]] w fun e w' => ∃ v, e = .returned (.tuple #[v, .bool (sqO r c l).isSome]) ∧ OwnQ w' w.heap.size v (oLQ (sqO r c l)) ∧ Grows w w' := by
  have HS := fun W h => iIsDef_c r c A l n cap W hn hcap hcap2 h hl
  have HL := fun W h => iLMin_c r c A l n cap W hn hcap hcap2 h hl
  obtain ⟨w1, hw1⟩ : ∃ w1, w1 = w.alloc (.cells #[.int .i64 r, .int .i64 c, .slice A n cap] 26) := ⟨_, rfl⟩
  have mb1 : MBox w1 w.heap.size r c (.slice A n cap) := by rw [hw1]; exact MBox.mk_ _ _ _ _ _
  have g01 : Grows w w1 := by rw [hw1]; exact bel0
  have hs1 : w.heap.size + 1 = w1.heap.size := by rw [hw1]; simp
  have ha1 : Rd w1 A l := ha.grows g01
  have HW1 := Lib.hid hw1
  have HS1 := Lib.hid hs1
  clear hw1 hs1 hn
  have hLL := oL_lm_length r c l
  unfold sqO
  generalize oL (lmO r c l) = L at *
  generalize (lmO r c l).isSome = ok at *
  generalize isDef r c l = q at *
  have HS' := Lib.hid HS
  have HL' := Lib.hid HL
  clear HS HL
  cases q
  · go_enter Try.func34, Try.ntmps34
    go_wp2_with fail
    refine (HS'.out _ (by exact (Rd.grows ha (by exact bel0)))).mono ?_; rintro e w2 ⟨rfl, g2⟩
    rw [← HW1.out] at g2
    have hs2 := Below.size g2
    go_wp2_with fail
    go_ret2
    exact ⟨_, rfl, OwnQ.new_ _ rfl (by have := HS1.out; omega), by exact bel2 g2 g01⟩
  · go_enter Try.func34, Try.ntmps34
    go_wp2_with fail
    refine (HS'.out _ (by exact (Rd.grows ha (by exact bel0)))).mono ?_; rintro e w2 ⟨rfl, g2⟩
    rw [← HW1.out] at g2
    obtain ⟨b0, b1, b2⟩ := (mb1.grows g2).cells
    go_wp2_with fail
    refine (HL'.out _ (by exact (Rd.grows ha1 (by exact bel1 g2)))).mono ?_; rintro e w3 ⟨v3, rfl, ho3, g3⟩
    obtain ⟨A3, c3, rfl, hr3, _⟩ := ho3.val
    have g13 : Grows w1 w3 := by exact bel2 g3 g2
    have hs3 := Below.size g13
    clear b0 b1 b2
    go_wp2_with fail
    go_loopw [6, 7, 22] (fun o b i wr => ∃ (I : Nat), i = .int .i64 I ∧ I ≤ L.length ∧ b = .int .i64 (befP L I) ∧ OwnQ wr w3.heap.size o (sqP L I) ∧ Grows w3 wr) (fun _ _ i _ => L.length - (intOf i).toNat)
    case atStart => exact ⟨0, rfl, Nat.zero_le _, rfl, OwnQ.new_ _ rfl (Nat.le_refl _), by exact bel0⟩
    case round =>
      obtain ⟨I, rfl, hI, rfl, ho, hg⟩ := hrel
      obtain ⟨A4, c4, rfl, _, _⟩ := ho.val
      have hsl := sqP_length L I
      by_cases hlt : I < L.length
      · have hd := hr3.grows hg
        obtain ⟨ab, off, rfl, hbs, hcell⟩ := hd.at_ I hlt
        have i1 : (I : Int) < (L.length : Int) := by omega
        have CM := Lib.hid fun W => iMake_c (nth L I) (befP L I) W
        have HNX := Lib.hid (show sqP L (I + 1) = sqP L I ++ [makeQ (nth L I) (befP L I)] from rfl)
        have HBX := Lib.hid (show befP L (I + 1) = nth L I from rfl)
        generalize makeQ (nth L I) (befP L I) = z at *
        generalize nth L I = x at *
        have HSL := Lib.hid hsl
        generalize befP L I = y at *
        clear hsl
        go_wp2_with fail
        refine (CM.out _).mono ?_; rintro e w5 ⟨rfl, g5⟩
        have ho5 := ho.grows g5
        have hs5 := Below.size (show Grows w3 w5 by exact bel2 g5 hg)
        go_wp2_with (at_builtin; refine wpList_appQ1 rfl (.tmp 26) (.tmp 30) rfl _ z w3.heap.size _ (sqP L I) (by rfl) ho5 (by rfl) (by have := HSL.out; omega) (by omega) ?_; intro v7 w7 ho7 hg7 hv7)
        have hb7 := below_appR ho5 (by omega) hg7
        clear hg7
        go_wp2_with fail
        go_round
        case rel => exact ⟨I + 1, by go_num, by omega, by rw [HBX.out], by rw [HNX.out]; exact ho7, Below.trans (show Grows w3 w5 by exact bel2 g5 hg) hb7⟩
        case measure => simp [intOf]; omega
      · obtain rfl : I = L.length := by omega
        have hs1 := HS1.out
        go_wp2_with fail
        go_ret2
        have ho' := ho.less (B' := w.heap.size) (by omega)
        rw [hsl] at ho'
        exact ⟨_, rfl, ho', by exact bel3 hg g13 g01⟩
theorem sSq_c (r c : Int) (A : Option Addr) (l : List Int) (n cap : Nat) (w : World) (hn : l.length = n) (ha : Rd w A l) (hl : n ≤ 1099511627776) :
    Calls Try.prog 33 #[.agg #[.int .i64 r, .int .i64 c, .slice A n cap]] w fun e w' => ∃ v, e = .returned (.tuple #[v, .bool (sqO r c l).isSome]) ∧ OwnQ w' w.heap.size v (oLQ (sqO r c l)) ∧ Grows w w' := by
  have HS := fun W h => sIsDef_c r c A l n cap W hn h hl
  have HL := fun W h => sLMin_c r c A l n cap W hn h hl
  obtain ⟨w1, hw1⟩ : ∃ w1, w1 = w.alloc (.cells #[.int .i64 r, .int .i64 c, .slice A n cap] 26) := ⟨_, rfl⟩
  have mb1 : MBox w1 w.heap.size r c (.slice A n cap) := by rw [hw1]; exact MBox.mk_ _ _ _ _ _
  have g01 : Grows w w1 := by rw [hw1]; exact bel0
  have hs1 : w.heap.size + 1 = w1.heap.size := by rw [hw1]; simp
  have ha1 : Rd w1 A l := ha.grows g01
  have HW1 := Lib.hid hw1
  have HS1 := Lib.hid hs1
  clear hw1 hs1 hn
  have hLL := oL_lm_length r c l
  unfold sqO
  generalize oL (lmO r c l) = L at *
  generalize (lmO r c l).isSome = ok at *
  generalize isDef r c l = q at *
  have HS' := Lib.hid HS
  have HL' := Lib.hid HL
  clear HS HL
  cases q
  · go_enter Try.func33, Try.ntmps33
    go_wp2_with fail
    refine (HL'.out _ (by exact (Rd.grows ha (by exact bel0)))).mono ?_; rintro e w2 ⟨v2, rfl, ho2, g2⟩
    obtain ⟨A2, c2, rfl, _, _⟩ := ho2.val
    rw [← HW1.out] at g2
    obtain ⟨b0, b1, b2⟩ := (mb1.grows g2).cells
    go_wp2_with fail
    refine (HS'.out _ (by exact (Rd.grows ha1 (by exact bel1 g2)))).mono ?_; rintro e w3 ⟨rfl, g3⟩
    have g13 : Grows w1 w3 := by exact bel2 g3 g2
    have hs3 := Below.size g13
    go_wp2_with fail
    go_ret2
    exact ⟨_, rfl, OwnQ.new_ _ rfl (by have := HS1.out; omega), by exact bel2 g13 g01⟩
  · go_enter Try.func33, Try.ntmps33
    go_wp2_with fail
    refine (HL'.out _ (by exact (Rd.grows ha (by exact bel0)))).mono ?_; rintro e w2 ⟨v2, rfl, ho2, g2⟩
    obtain ⟨A2, c2, rfl, hr2, _⟩ := ho2.val
    rw [← HW1.out] at g2
    obtain ⟨b0, b1, b2⟩ := (mb1.grows g2).cells
    go_wp2_with fail
    refine (HS'.out _ (by exact (Rd.grows ha1 (by exact bel1 g2)))).mono ?_; rintro e w3 ⟨rfl, g3⟩
    have g13 : Grows w1 w3 := by exact bel2 g3 g2
    have hs3 := Below.size g13
    have hr3 := hr2.grows g3
    clear b0 b1 b2
    go_wp2_with fail
    go_loopw [6, 7, 8] (fun o b i wr => ∃ (I : Nat), i = .int .i64 I ∧ I ≤ L.length ∧ b = .int .i64 (befP L I) ∧ OwnQ wr w3.heap.size o (sqP L I) ∧ Grows w3 wr) (fun _ _ i _ => L.length - (intOf i).toNat)
    case atStart => exact ⟨0, rfl, Nat.zero_le _, rfl, OwnQ.new_ _ rfl (Nat.le_refl _), by exact bel0⟩
    case round =>
      obtain ⟨I, rfl, hI, rfl, ho, hg⟩ := hrel
      obtain ⟨A4, c4, rfl, _, _⟩ := ho.val
      have hsl := sqP_length L I
      by_cases hlt : I < L.length
      · have hd := hr3.grows hg
        obtain ⟨ab, off, rfl, hbs, hcell⟩ := hd.at_ I hlt
        have i1 : (I : Int) < (L.length : Int) := by omega
        have CM := Lib.hid fun W => sMake_c (nth L I) (befP L I) W
        have HNX := Lib.hid (show sqP L (I + 1) = sqP L I ++ [makeQ (nth L I) (befP L I)] from rfl)
        have HBX := Lib.hid (show befP L (I + 1) = nth L I from rfl)
        generalize makeQ (nth L I) (befP L I) = z at *
        have HSL := Lib.hid hsl
        generalize hx : nth L I = x at *
        have HX := Lib.hid hx
        clear hx
        generalize befP L I = y at *
        clear hsl
        go_wp2_with fail
        refine (CM.out _).mono ?_; rintro e w5 ⟨rfl, g5⟩
        have ho5 := ho.grows g5
        have hs5 := Below.size (show Grows w3 w5 by exact bel2 g5 hg)
        go_wp2_with (at_builtin; refine wpList_appQ1 rfl (.tmp 25) (.tmp 32) rfl _ z w3.heap.size _ (sqP L I) (by rfl) ho5 (by rfl) (by have := HSL.out; omega) (by omega) ?_; intro v7 w7 ho7 hg7 hv7; have hb7 := below_appR ho5 (by omega) hg7; have g37 : Grows w3 w7 := Below.trans (show Grows w3 w5 by exact bel2 g5 hg) hb7; clear hg7 hd; obtain ⟨_, _, he, hbs7, hcell7⟩ := (hr3.grows g37).at_ I hlt; simp only [Option.some.injEq, Addr.mk.injEq, and_true] at he; obtain ⟨rfl, rfl⟩ := he; rw [HX.out] at hcell7)
        go_round
        case rel => exact ⟨I + 1, by go_num, by omega, by rw [HBX.out], by rw [HNX.out]; exact ho7, g37⟩
        case measure => simp [intOf]; omega
      · obtain rfl : I = L.length := by omega
        have hs1 := HS1.out
        go_wp2_with fail
        go_ret2
        have ho' := ho.less (B' := w.heap.size) (by omega)
        rw [hsl] at ho'
        exact ⟨_, rfl, ho', by exact bel3 hg g13 g01⟩
end
end Go.Proofs.Ytpfijhcjempfjaa
