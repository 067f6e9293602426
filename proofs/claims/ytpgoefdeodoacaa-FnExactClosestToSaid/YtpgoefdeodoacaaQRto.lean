/- Contracts and lemmas, put together. -/
import Derived.Test.YtpgoefdeodoacaaPkK
import Derived.Test.YtpgoefdeodoacaaQClP
/- Contracts: the nearest numbers to the coordinates of a projection. -/
namespace Go.Proofs.Ytpgoefdeodoacaa
set_option linter.unusedSimpArgs false
set_option linter.unusedVariables false
open Go.RowKit

theorem rndO_oL (o : Option (List Q2)) : oL (o.map rndL) = rndL (oLQ o) := by cases o <;> rfl
section
set_option maxHeartbeats 4000000
theorem iRto_c (r c : Int) (A T : Option Addr) (b t : List Int) (n cap k ct : Nat) (w : World) (hn : b.length = n) (ha : Rd w A b) (hl : n ≤ 1099511627776) (hk : t.length = k) (ht : Rd w T t) (hl2 : k ≤ 1099511627776) :
    Calls Try.prog 19 #[.agg #[.int .i64 r, .int .i64 c, .slice A n cap], .slice T k ct] w fun e w' => ∃ v, e = .returned (.tuple #[v, .bool (rndO ⟨r, c, b⟩ t).isSome]) ∧ Own w' w.heap.size v (oL (rndO ⟨r, c, b⟩ t)) ∧ Grows w w' := by
  have CP := fun W h h' => (iPrj_c r c A T b t n cap k ct W hn h hl hk h' hl2).mono fun _ _ h => lqRet_out h
  have hpl : (oLQ (prjO ⟨r, c, b⟩ t)).length ≤ 576 := prjO_length
  obtain ⟨w1, hw1⟩ : ∃ w1, w1 = w.alloc (.cells #[.int .i64 r, .int .i64 c, .slice A n cap] 28) := ⟨_, rfl⟩
  have mg : MBox w1 w.heap.size r c (.slice A n cap) := by rw [hw1]; exact MBox.mk_ _ _ _ _ _
  have HG : Grows w w1 := by rw [hw1]; exact bel0
  have HW1 := Lib.hid hw1
  have ha1 := ha.grows HG
  have ht1 := ht.grows HG
  obtain ⟨RES, hRES⟩ : ∃ x, x = rndO ⟨r, c, b⟩ t := ⟨_, rfl⟩
  rw [← hRES]
  unfold rndO at hRES
  generalize prjO ⟨r, c, b⟩ t = PO at *
  have HR := Lib.hid hRES
  have CP' := Lib.hid CP
  clear hw1 hRES CP hn hk
  go_enter Try.func19, Try.ntmps19
  go_wp2_with fail
  rw [← HW1.out]
  have mg_0 := mg.c0; have mg_1 := mg.c1; have mg_2 := mg.c2; have mg_l := mg.lt; have mg_f := mg.fz
  refine (CP'.out _ (by exact Rd.grows ha1 (by exact bel0)) (by exact Rd.grows ht1 (by exact bel0))).mono ?_; rintro e w2 ⟨v2, rfl, o2, g_w2⟩
  have s_w2 := Below.size g_w2; (try simp at s_w2)
  clear mg_0 mg_1 mg_2 mg_l mg_f
  replace mg := mg.grows (w' := w2) (by exact bel1 g_w2)
  have mg_0 := mg.c0; have mg_1 := mg.c1; have mg_2 := mg.c2; have mg_l := mg.lt; have mg_f := mg.fz
  replace ha1 := ha1.grows (w' := w2) (by exact bel1 g_w2)
  replace ht1 := ht1.grows (w' := w2) (by exact bel1 g_w2)
  replace HG : Grows w w2 := by exact bel2 g_w2 HG
  have h_w2 := Below.size HG
  obtain ⟨A2, c2, rfl, hr2, _⟩ := o2.val
  cases PO with
  | none =>
    obtain rfl : RES = none := HR.out
    go_wp2_with fail
    go_ret2
    exact ⟨_, rfl, Own.new_ _ rfl (by omega), by exact bel1 HG⟩
  | some l =>
    have hRS : RES = some (rndL l) := HR.out
    have hr2 : RdQ w2 A2 l := hr2
    change l.length ≤ 576 at hpl
    subst hRS
    have e : oLQ (some l) = l := rfl
    rw [e]
    clear HR CP' e o2
    go_wp2_with fail
    go_loopw [8, 23] (fun o i wr => ∃ (I : Nat), i = .int .i64 I ∧ I ≤ l.length ∧ Own wr w2.heap.size o (rndL (l.take I)) ∧ Grows w2 wr) (fun _ i _ => l.length - (intOf i).toNat)
    case atStart => exact ⟨0, rfl, Nat.zero_le _, Own.new_ _ rfl (Nat.le_refl _), by exact bel0⟩
    case round =>
      obtain ⟨I, rfl, hI, ho, hg⟩ := hrel
      obtain ⟨A4, c4, rfl, _, _⟩ := ho.val
      have hsl : (rndL (l.take I)).length = I := by rw [rndL_length, List.length_take]; omega
      have hsw := Below.size hg
      by_cases hlt : I < l.length
      · obtain ⟨ab, off, rfl, hbs, x0, x1⟩ := (hr2.grows hg) I hlt
        have i1 : (I : Int) < (l.length : Int) := by omega
        have HNX := Lib.hid (rndL_succ hlt)
        have CM := Lib.hid fun W => iRoundQ_c (nthQ l I) W
        generalize roundQ (nthQ l I) = z at *
        generalize nthQ l I = q at *
        generalize rndL (l.take I) = F at *
        have HSL := Lib.hid hsl
        clear hsl
        go_wp2_with fail
        refine (CM.out _).mono ?_; rintro e w5 ⟨rfl, g5⟩
        have g25 : Grows wr w5 := by exact bel1 g5
        have ho5 := ho.grows g25
        have hs5 := Below.size (show Grows w2 w5 by exact bel2 g25 hg)
        go_wp2_with (at_builtin; refine wpList_app1 rfl (.tmp 27) (.tmp 30) rfl _ z w2.heap.size _ F (by rfl) ho5 (by rfl) (by have := HSL.out; omega) (by omega) ?_; intro v7 w7 ho7 hg7 _)
        obtain ⟨A7, c7, rfl, _, _⟩ := ho7.val
        have hb7 : Below w2.heap.size w5 w7 := below_app ho5 (by omega) hg7
        go_round
        case rel => exact ⟨I + 1, by go_num, by omega, by rw [HNX.out]; exact ho7, Below.trans (show Grows w2 w5 by exact bel2 g25 hg) hb7⟩
        case measure => simp [intOf]; omega
      · obtain rfl : I = l.length := by omega
        have HE := Lib.hid (show rndL (l.take l.length) = rndL l by rw [List.take_length])
        go_wp2_with fail
        go_ret2
        exact ⟨_, rfl, by rw [← HE.out]; exact ho.less (B' := w.heap.size) (by omega), by exact bel2 hg HG⟩
theorem sRto_c (r c : Int) (A T : Option Addr) (b t : List Int) (n cap k ct : Nat) (w : World) (hn : b.length = n) (ha : Rd w A b) (hl : n ≤ 1099511627776) (hk : t.length = k) (ht : Rd w T t) (hl2 : k ≤ 1099511627776) :
    Calls Try.prog 16 #[.agg #[.int .i64 r, .int .i64 c, .slice A n cap], .slice T k ct] w fun e w' => ∃ v, e = .returned (.tuple #[v, .bool (rndO ⟨r, c, b⟩ t).isSome]) ∧ Own w' w.heap.size v (oL (rndO ⟨r, c, b⟩ t)) ∧ Grows w w' := by
  have CP := fun W h h' => (sPrj_c r c A T b t n cap k ct W hn h hl hk h' hl2).mono fun _ _ h => lqRet_out h
  have hpl : (oLQ (prjO ⟨r, c, b⟩ t)).length ≤ 576 := prjO_length
  obtain ⟨w1, hw1⟩ : ∃ w1, w1 = w.alloc (.cells #[.int .i64 r, .int .i64 c, .slice A n cap] 28) := ⟨_, rfl⟩
  have mg : MBox w1 w.heap.size r c (.slice A n cap) := by rw [hw1]; exact MBox.mk_ _ _ _ _ _
  have HG : Grows w w1 := by rw [hw1]; exact bel0
  have HW1 := Lib.hid hw1
  have ha1 := ha.grows HG
  have ht1 := ht.grows HG
  have hoL := rndO_oL (prjO ⟨r, c, b⟩ t)
  have hiS : (rndO ⟨r, c, b⟩ t).isSome = (prjO ⟨r, c, b⟩ t).isSome := by unfold rndO; cases prjO ⟨r, c, b⟩ t <;> rfl
  unfold rndO at hiS ⊢
  rw [hoL, hiS]
  generalize oLQ (prjO ⟨r, c, b⟩ t) = l at *
  generalize (prjO ⟨r, c, b⟩ t).isSome = ok at *
  have CP' := Lib.hid CP
  clear hw1 CP hn hk hoL hiS
  go_enter Try.func16, Try.ntmps16
  go_wp2_with fail
  rw [← HW1.out]
  have mg_0 := mg.c0; have mg_1 := mg.c1; have mg_2 := mg.c2; have mg_l := mg.lt; have mg_f := mg.fz
  refine (CP'.out _ (by exact Rd.grows ha1 (by exact bel0)) (by exact Rd.grows ht1 (by exact bel0))).mono ?_; rintro e w2 ⟨v2, rfl, o2, g_w2⟩
  have s_w2 := Below.size g_w2; (try simp at s_w2)
  clear mg_0 mg_1 mg_2 mg_l mg_f
  replace mg := mg.grows (w' := w2) (by exact bel1 g_w2)
  have mg_0 := mg.c0; have mg_1 := mg.c1; have mg_2 := mg.c2; have mg_l := mg.lt; have mg_f := mg.fz
  replace ha1 := ha1.grows (w' := w2) (by exact bel1 g_w2)
  replace ht1 := ht1.grows (w' := w2) (by exact bel1 g_w2)
  replace HG : Grows w w2 := by exact bel2 g_w2 HG
  have h_w2 := Below.size HG
  obtain ⟨A2, c2, rfl, hr2, _⟩ := o2.val
  clear o2
  go_wp2_with fail
  go_loopw [8, 9] (fun o i wr => ∃ (I : Nat), i = .int .i64 I ∧ I ≤ l.length ∧ Own wr w2.heap.size o (rndL (l.take I)) ∧ Grows w2 wr) (fun _ i _ => l.length - (intOf i).toNat)
  case atStart => exact ⟨0, rfl, Nat.zero_le _, Own.new_ _ rfl (Nat.le_refl _), by exact bel0⟩
  case round =>
    obtain ⟨I, rfl, hI, ho, hg⟩ := hrel
    obtain ⟨A4, c4, rfl, _, _⟩ := ho.val
    have hsl : (rndL (l.take I)).length = I := by rw [rndL_length, List.length_take]; omega
    have hsw := Below.size hg
    by_cases hlt : I < l.length
    · obtain ⟨ab, off, rfl, hbs, x0, x1⟩ := (hr2.grows hg) I hlt
      have i1 : (I : Int) < (l.length : Int) := by omega
      have HNX := Lib.hid (rndL_succ hlt)
      have CM := Lib.hid fun W => sRoundQ_c (nthQ l I) W
      generalize roundQ (nthQ l I) = z at *
      generalize nthQ l I = q at *
      generalize rndL (l.take I) = F at *
      have HSL := Lib.hid hsl
      clear hsl
      go_wp2_with fail
      refine (CM.out _).mono ?_; rintro e w5 ⟨rfl, g5⟩
      have ho5 := ho.grows g5
      have hs5 := Below.size (show Grows w2 w5 by exact bel2 g5 hg)
      go_wp2_with (at_builtin; refine wpList_app1 rfl (.tmp 23) (.tmp 29) rfl _ z w2.heap.size _ F (by rfl) ho5 (by rfl) (by have := HSL.out; omega) (by omega) ?_; intro v7 w7 ho7 hg7 _)
      obtain ⟨A7, c7, rfl, _, _⟩ := ho7.val
      have hb7 : Below w2.heap.size w5 w7 := below_app ho5 (by omega) hg7
      go_round
      case rel => exact ⟨I + 1, by go_num, by omega, by rw [HNX.out]; exact ho7, Below.trans (show Grows w2 w5 by exact bel2 g5 hg) hb7⟩
      case measure => simp [intOf]; omega
    · obtain rfl : I = l.length := by omega
      have HE := Lib.hid (show rndL (l.take l.length) = rndL l by rw [List.take_length])
      go_wp2_with fail
      go_ret2
      exact ⟨_, rfl, by rw [← HE.out]; exact ho.less (B' := w.heap.size) (by omega), by exact bel2 hg HG⟩
end
end Go.Proofs.Ytpgoefdeodoacaa
