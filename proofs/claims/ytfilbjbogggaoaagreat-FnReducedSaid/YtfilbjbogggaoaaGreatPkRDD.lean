/- Contracts and lemmas, put together. -/
import Derived.Test.YtfilbjbogggaoaaGreatPkB
import Derived.Test.YtfilbjbogggaoaaGreatPkCD
/- Contracts: whether a matrix is unimodular, the program's and the laws'. -/
namespace Go.Proofs.YtfilbjbogggaoaaGreat
set_option linter.unusedSimpArgs false
set_option linter.unusedVariables false
open Go.RowKit
section
set_option maxHeartbeats 4000000
set_option maxRecDepth 10000
theorem iIsUni_c (r c : Int) (A : Option Addr) (l : List Int) (n cap : Nat) (d : Int) (w : World) (hn : l.length = n) (ha : Rd w A l) (hl : n ≤ 1099511627776) (hd : dtO ⟨r, c, l⟩ = some d) (h1 : d = 1 ∨ d = -1) :
    Calls Tryz.prog 87 #[.agg #[.int .i64 r, .int .i64 c, .slice A n cap]] w fun e w' => e = .returned (.bool true) ∧ Grows w w' := by
  have CD0 := fun W h => iDt_c r c A l n cap W hn h hl
  rw [hd] at CD0
  have CD := Lib.hid CD0
  have CA := Lib.hid fun W => absInt_c d W (by omega)
  have ea : absI d = 1 := by rcases h1 with rfl | rfl <;> decide
  rw [ea] at CA
  clear CD0 hd ea
  obtain ⟨w1, hw1⟩ : ∃ w1, w1 = w.alloc (.cells #[.int .i64 r, .int .i64 c, .slice A n cap] 26) := ⟨_, rfl⟩
  have ma : MBox w1 w.heap.size r c (.slice A n cap) := by rw [hw1]; exact MBox.mk_ _ _ _ _ _
  have HG : Grows w w1 := by rw [hw1]; exact bel0
  have HW1 := Lib.hid hw1
  have ha1 := ha.grows HG
  clear hw1
  go_enter Tryz.func87, Tryz.ntmps87
  go_wp2_with fail
  rw [← HW1.out]
  have ma_0 := ma.c0; have ma_1 := ma.c1; have ma_2 := ma.c2; have ma_l := ma.lt; have ma_f := ma.fz
  refine (CD.out _ (by exact Rd.grows ha1 (by exact bel0))).mono ?_; rintro e w2 ⟨rfl, g_w2⟩
  have s_w2 := Below.size g_w2; (try simp at s_w2)
  clear ma_0 ma_1 ma_2 ma_l ma_f
  replace ma := ma.grows (w' := w2) (by exact bel1 g_w2)
  have ma_0 := ma.c0; have ma_1 := ma.c1; have ma_2 := ma.c2; have ma_l := ma.lt; have ma_f := ma.fz
  replace ha1 := ha1.grows (w' := w2) (by exact bel1 g_w2)
  replace HG : Grows w w2 := by exact bel2 g_w2 HG
  have h_w2 := Below.size HG
  simp only [Option.getD_some, Option.isSome_some]
  go_wp2_with fail
  refine (CA.out _).mono ?_; rintro e w3 ⟨rfl, rfl⟩
  go_wp2_with fail
  go_ret
  exact ⟨rfl, by exact bel1 HG⟩
theorem lUni_c (r c : Int) (A : Option Addr) (l : List Int) (n cap : Nat) (w : World) (hn : l.length = n) (ha : Rd w A l) (hl : n ≤ 1099511627776) (hu : ∀ d, dtO ⟨r, c, l⟩ = some d → d = 1 ∨ d = -1) :
    Calls Tryz.prog 24 #[.agg #[.int .i64 r, .int .i64 c, .slice A n cap]] w fun e w' => e = .returned (.bool true) ∧ Grows w w' := by
  have CD0 := fun W h => sDt_c r c A l n cap W hn h hl
  obtain ⟨w1, hw1⟩ : ∃ w1, w1 = w.alloc (.cells #[.int .i64 r, .int .i64 c, .slice A n cap] 26) := ⟨_, rfl⟩
  have ma : MBox w1 w.heap.size r c (.slice A n cap) := by rw [hw1]; exact MBox.mk_ _ _ _ _ _
  have HG : Grows w w1 := by rw [hw1]; exact bel0
  have HW1 := Lib.hid hw1
  have ha1 := ha.grows HG
  cases hd : dtO ⟨r, c, l⟩ with
  | none =>
    rw [hd] at CD0
    have CD := Lib.hid CD0
    clear hw1 CD0 hd hu
    go_enter Tryz.func24, Tryz.ntmps24
    go_wp2_with fail
    rw [← HW1.out]
    have ma_0 := ma.c0; have ma_1 := ma.c1; have ma_2 := ma.c2; have ma_l := ma.lt; have ma_f := ma.fz
    refine (CD.out _ (by exact Rd.grows ha1 (by exact bel0))).mono ?_; rintro e w2 ⟨rfl, g_w2⟩
    have s_w2 := Below.size g_w2; (try simp at s_w2)
    clear ma_0 ma_1 ma_2 ma_l ma_f
    replace ma := ma.grows (w' := w2) (by exact bel1 g_w2)
    have ma_0 := ma.c0; have ma_1 := ma.c1; have ma_2 := ma.c2; have ma_l := ma.lt; have ma_f := ma.fz
    replace ha1 := ha1.grows (w' := w2) (by exact bel1 g_w2)
    replace HG : Grows w w2 := by exact bel2 g_w2 HG
    have h_w2 := Below.size HG
    simp only [Option.isSome_none]
    go_wp2_with fail
    go_ret
    exact ⟨rfl, by exact bel1 HG⟩
  | some d =>
    have h1 := hu d hd
    have CU := Lib.hid fun W h => iIsUni_c r c A l n cap d W hn h hl hd h1
    rw [hd] at CD0
    have CD := Lib.hid CD0
    clear hw1 CD0 hd hu
    rcases h1 with rfl | rfl
    all_goals
      go_enter Tryz.func24, Tryz.ntmps24
      go_wp2_with fail
      rw [← HW1.out]
      have ma_0 := ma.c0; have ma_1 := ma.c1; have ma_2 := ma.c2; have ma_l := ma.lt; have ma_f := ma.fz
      refine (CD.out _ (by exact Rd.grows ha1 (by exact bel0))).mono ?_; rintro e w2 ⟨rfl, g_w2⟩
      have s_w2 := Below.size g_w2; (try simp at s_w2)
      clear ma_0 ma_1 ma_2 ma_l ma_f
      replace ma := ma.grows (w' := w2) (by exact bel1 g_w2)
      have ma_0 := ma.c0; have ma_1 := ma.c1; have ma_2 := ma.c2; have ma_l := ma.lt; have ma_f := ma.fz
      replace ha1 := ha1.grows (w' := w2) (by exact bel1 g_w2)
      replace HG : Grows w w2 := by exact bel2 g_w2 HG
      have h_w2 := Below.size HG
      simp only [Option.getD_some, Option.isSome_some]
      go_wp2_with fail
      refine (CU.out _ (by exact Rd.grows ha1 (by exact bel0))).mono ?_; rintro e w3 ⟨rfl, g_w3⟩
      have s_w3 := Below.size g_w3; (try simp at s_w3)
      clear ma_0 ma_1 ma_2 ma_l ma_f
      replace ma := ma.grows (w' := w3) (by exact bel1 g_w3)
      have ma_0 := ma.c0; have ma_1 := ma.c1; have ma_2 := ma.c2; have ma_l := ma.lt; have ma_f := ma.fz
      replace ha1 := ha1.grows (w' := w3) (by exact bel1 g_w3)
      replace HG : Grows w w3 := by exact bel2 g_w3 HG
      have h_w3 := Below.size HG
      go_wp2_with fail
      go_ret
      exact ⟨rfl, by exact bel1 HG⟩
end
end Go.Proofs.YtfilbjbogggaoaaGreat
