/- Contracts and lemmas, put together. -/
import Derived.Deep.DeepCutAuto
import Derived.Test.YthajmffhgbenpaaPkA
import Derived.Test.YthajmffhgbenpaaPkC
import Derived.Test.YthajmffhgbenpaaPkCa
import Derived.Test.YthajmffhgbenpaaPkD
import Derived.Test.YthajmffhgbenpaaPkT
/- Contracts: fractions rounded down and to the nearest number, the diagonal of a matrix. -/
namespace Go.Proofs.Ythajmffhgbenpaa
set_option linter.unusedSimpArgs false
set_option linter.unusedVariables false
open Go.RowKit

section
set_option maxHeartbeats 2000000
theorem iFloorQ_c (q : Q2) (w : World) : Calls Try.prog 40 #[.agg #[.int .i64 q.1, .int .i64 q.2]] w fun e w' => e = .returned (.int .i64 (floorQ q)) ∧ Grows w w' := by
  have CI := fun W => iIsRatio_c q.1 q.2 W
  change ∀ W, Calls Try.prog 86 #[.agg #[.int .i64 q.1, .int .i64 q.2]] W (fun e w' => e = .returned (.bool (okQ q)) ∧ Grows W w') at CI
  obtain ⟨w1, hw1⟩ : ∃ w1, w1 = w.alloc (.cells #[.int .i64 q.1, .int .i64 q.2] 56) := ⟨_, rfl⟩
  have mq : QBox w1 w.heap.size q := by rw [hw1]; exact QBox.new_ _ _ _ rfl
  have HG : Grows w w1 := by rw [hw1]; exact bel0
  have HW1 := Lib.hid hw1
  obtain ⟨RES, hRES⟩ : ∃ x, x = floorQ q := ⟨_, rfl⟩
  rw [← hRES]
  unfold floorQ at hRES
  cases hok : okQ q
  · rw [hok] at CI hRES
    have CI' := Lib.hid CI
    have HR := Lib.hid hRES
    clear CI hok hRES hw1
    go_enter Try.func40, Try.ntmps40
    go_wp2_with fail
    rw [← HW1.out]
    refine (CI'.out _).mono ?_; rintro e w2 ⟨rfl, g2⟩
    go_wp2_with fail
    go_ret
    exact ⟨by rw [HR.out]; rfl, by exact bel2 g2 HG⟩
  · have hb := okQ_bd hok
    rw [hok] at CI hRES
    have CI' := Lib.hid CI
    have HR := Lib.hid hRES
    have CD := Lib.hid fun W => floorDiv_c q.1 q.2 W (by omega) (by omega) (by omega) (by omega)
    clear CI hok hRES hw1
    go_enter Try.func40, Try.ntmps40
    go_wp2_with fail
    rw [← HW1.out]
    refine (CI'.out _).mono ?_; rintro e w2 ⟨rfl, g2⟩
    obtain ⟨q0, q1⟩ := (mq.grows g2).cells
    go_wp2_with fail
    refine (CD.out _).mono ?_; rintro e w3 ⟨rfl, rfl⟩
    go_wp2_with fail
    go_ret
    exact ⟨by rw [HR.out]; rfl, by exact bel2 g2 HG⟩
theorem iRoundQ_c (q : Q2) (w : World) : Calls Try.prog 82 #[.agg #[.int .i64 q.1, .int .i64 q.2]] w fun e w' => e = .returned (.int .i64 (roundQ q)) ∧ Grows w w' := by
  have CI := fun W => iIsRatio_c q.1 q.2 W
  change ∀ W, Calls Try.prog 86 #[.agg #[.int .i64 q.1, .int .i64 q.2]] W (fun e w' => e = .returned (.bool (okQ q)) ∧ Grows W w') at CI
  obtain ⟨w1, hw1⟩ : ∃ w1, w1 = w.alloc (.cells #[.int .i64 q.1, .int .i64 q.2] 56) := ⟨_, rfl⟩
  have mq : QBox w1 w.heap.size q := by rw [hw1]; exact QBox.new_ _ _ _ rfl
  have HG : Grows w w1 := by rw [hw1]; exact bel0
  have HW1 := Lib.hid hw1
  obtain ⟨RES, hRES⟩ : ∃ x, x = roundQ q := ⟨_, rfl⟩
  rw [← hRES]
  unfold roundQ at hRES
  cases hok : okQ q
  · rw [hok] at CI hRES
    have CI' := Lib.hid CI
    have HR := Lib.hid hRES
    clear CI hok hRES hw1
    go_enter Try.func82, Try.ntmps82
    go_wp2_with fail
    rw [← HW1.out]
    refine (CI'.out _).mono ?_; rintro e w2 ⟨rfl, g2⟩
    go_wp2_with fail
    go_ret
    exact ⟨by rw [HR.out]; rfl, by exact bel2 g2 HG⟩
  · have hb := okQ_bd hok
    rw [hok] at CI hRES
    have CI' := Lib.hid CI
    have HR := Lib.hid hRES
    have CD := Lib.hid fun W => floorDiv_c (2 * q.1 + q.2) (2 * q.2) W (by omega) (by omega) (by omega) (by omega)
    have k1 : IntKind.i64.wrap (2 * q.1) = 2 * q.1 := IntWalk.i64_in _ (by omega)
    have k2 : IntKind.i64.wrap (2 * q.1 + q.2) = 2 * q.1 + q.2 := IntWalk.i64_in _ (by omega)
    have k3 : IntKind.i64.wrap (2 * q.2) = 2 * q.2 := IntWalk.i64_in _ (by omega)
    clear CI hok hRES hw1
    go_enter Try.func82, Try.ntmps82
    go_wp2_with fail
    rw [← HW1.out]
    refine (CI'.out _).mono ?_; rintro e w2 ⟨rfl, g2⟩
    obtain ⟨q0, q1⟩ := (mq.grows g2).cells
    go_wp2_with fail
    refine (CD.out _).mono ?_; rintro e w3 ⟨rfl, rfl⟩
    go_wp2_with fail
    go_ret
    exact ⟨by rw [HR.out]; rfl, by exact bel2 g2 HG⟩
theorem sFloorQ_c (q : Q2) (w : World) : Calls Try.prog 47 #[.agg #[.int .i64 q.1, .int .i64 q.2]] w fun e w' => e = .returned (.int .i64 (floorQ q)) ∧ Grows w w' := by
  have CI := fun W => sIsRatio_c q.1 q.2 W
  change ∀ W, Calls Try.prog 105 #[.agg #[.int .i64 q.1, .int .i64 q.2]] W (fun e w' => e = .returned (.bool (okQ q)) ∧ Grows W w') at CI
  obtain ⟨w1, hw1⟩ : ∃ w1, w1 = w.alloc (.cells #[.int .i64 q.1, .int .i64 q.2] 56) := ⟨_, rfl⟩
  have mq : QBox w1 w.heap.size q := by rw [hw1]; exact QBox.new_ _ _ _ rfl
  have HG : Grows w w1 := by rw [hw1]; exact bel0
  have HW1 := Lib.hid hw1
  obtain ⟨RES, hRES⟩ : ∃ x, x = floorQ q := ⟨_, rfl⟩
  rw [← hRES]
  unfold floorQ at hRES
  cases hok : okQ q
  · rw [hok] at CI hRES
    have CI' := Lib.hid CI
    have HR := Lib.hid hRES
    clear CI hok hRES hw1
    go_enter Try.func47, Try.ntmps47
    go_wp2_with fail
    rw [← HW1.out]
    refine (CI'.out _).mono ?_; rintro e w2 ⟨rfl, g2⟩
    go_wp2_with fail
    go_ret
    exact ⟨by rw [HR.out]; rfl, by exact bel2 g2 HG⟩
  · have hb := okQ_bd hok
    rw [hok] at CI hRES
    have CI' := Lib.hid CI
    have HR := Lib.hid hRES
    have CD := Lib.hid fun W => l1Floor_c q.1 q.2 W (by omega) (by omega) (by omega) (by omega)
    clear CI hok hRES hw1
    go_enter Try.func47, Try.ntmps47
    go_wp2_with fail
    rw [← HW1.out]
    refine (CI'.out _).mono ?_; rintro e w2 ⟨rfl, g2⟩
    obtain ⟨q0, q1⟩ := (mq.grows g2).cells
    go_wp2_with fail
    refine (CD.out _).mono ?_; rintro e w3 ⟨rfl, rfl⟩
    go_wp2_with fail
    go_ret
    exact ⟨by rw [HR.out]; rfl, by exact bel2 g2 HG⟩
theorem sRoundQ_c (q : Q2) (w : World) : Calls Try.prog 93 #[.agg #[.int .i64 q.1, .int .i64 q.2]] w fun e w' => e = .returned (.int .i64 (roundQ q)) ∧ Grows w w' := by
  have CI := fun W => sIsRatio_c q.1 q.2 W
  change ∀ W, Calls Try.prog 105 #[.agg #[.int .i64 q.1, .int .i64 q.2]] W (fun e w' => e = .returned (.bool (okQ q)) ∧ Grows W w') at CI
  obtain ⟨w1, hw1⟩ : ∃ w1, w1 = w.alloc (.cells #[.int .i64 q.1, .int .i64 q.2] 56) := ⟨_, rfl⟩
  have mq : QBox w1 w.heap.size q := by rw [hw1]; exact QBox.new_ _ _ _ rfl
  have HG : Grows w w1 := by rw [hw1]; exact bel0
  have HW1 := Lib.hid hw1
  obtain ⟨RES, hRES⟩ : ∃ x, x = roundQ q := ⟨_, rfl⟩
  rw [← hRES]
  unfold roundQ at hRES
  cases hok : okQ q
  · rw [hok] at CI hRES
    have CI' := Lib.hid CI
    have HR := Lib.hid hRES
    clear CI hok hRES hw1
    go_enter Try.func93, Try.ntmps93
    go_wp2_with fail
    rw [← HW1.out]
    refine (CI'.out _).mono ?_; rintro e w2 ⟨rfl, g2⟩
    go_wp2_with fail
    go_ret
    exact ⟨by rw [HR.out]; rfl, by exact bel2 g2 HG⟩
  · have hb := okQ_bd hok
    rw [hok] at CI hRES
    have CI' := Lib.hid CI
    have HR := Lib.hid hRES
    have CD := Lib.hid fun W => l1Floor_c (2 * q.1 + q.2) (2 * q.2) W (by omega) (by omega) (by omega) (by omega)
    have k1 : IntKind.i64.wrap (2 * q.1) = 2 * q.1 := IntWalk.i64_in _ (by omega)
    have k2 : IntKind.i64.wrap (2 * q.1 + q.2) = 2 * q.1 + q.2 := IntWalk.i64_in _ (by omega)
    have k3 : IntKind.i64.wrap (2 * q.2) = 2 * q.2 := IntWalk.i64_in _ (by omega)
    clear CI hok hRES hw1
    go_enter Try.func93, Try.ntmps93
    go_wp2_with fail
    rw [← HW1.out]
    refine (CI'.out _).mono ?_; rintro e w2 ⟨rfl, g2⟩
    obtain ⟨q0, q1⟩ := (mq.grows g2).cells
    go_wp2_with fail
    refine (CD.out _).mono ?_; rintro e w3 ⟨rfl, rfl⟩
    go_wp2_with fail
    go_ret
    exact ⟨by rw [HR.out]; rfl, by exact bel2 g2 HG⟩
end
end Go.Proofs.Ythajmffhgbenpaa

/- Plain: the closest vectors: the ones of a box with the least distance, in their order. -/
namespace Go.Proofs.Ythajmffhgbenpaa
set_option linter.unusedSimpArgs false
set_option linter.unusedVariables false
open Go.RowKit

def rndL (l : List Q2) : List Int := l.map roundQ
def rndO (g : MX) (t : List Int) : Option (List Int) := (prjO g t).map rndL
theorem rndL_length (l : List Q2) : (rndL l).length = l.length := by simp [rndL]
theorem rndL_nth {l : List Q2} {i : Nat} (h : i < l.length) : nth (rndL l) i = roundQ (nthQ l i) := by simp [nth, nthQ, rndL, h]
theorem rndL_succ {l : List Q2} {i : Nat} (h : i < l.length) : rndL (l.take (i + 1)) = rndL (l.take i) ++ [roundQ (nthQ l i)] := by
  unfold rndL
  rw [List.take_add_one, List.getElem?_eq_getElem h, List.map_append]
  simp [nthQ, h]
def lowL (l : List Q2) (s : List Int) (n : Nat) : List Int := (List.range n).map fun i => floorQ (nthQ l i) - nth s i
def highL (l : List Q2) (s : List Int) (n : Nat) : List Int := (List.range n).map fun i => floorQ (nthQ l i) + 1 + nth s i
theorem lowL_succ (l : List Q2) (s : List Int) (n : Nat) : lowL l s (n + 1) = lowL l s n ++ [floorQ (nthQ l n) - nth s n] := by unfold lowL; rw [List.range_succ, List.map_append]; rfl
theorem highL_succ (l : List Q2) (s : List Int) (n : Nat) : highL l s (n + 1) = highL l s n ++ [floorQ (nthQ l n) + 1 + nth s n] := by unfold highL; rw [List.range_succ, List.map_append]; rfl
theorem lowL_length (l : List Q2) (s : List Int) (n : Nat) : (lowL l s n).length = n := by simp [lowL]
theorem highL_length (l : List Q2) (s : List Int) (n : Nat) : (highL l s n).length = n := by simp [highL]
/-- one vector more: nearer than all so far, as near, or neither -/
def clS (d : List Int → Int) (ok : List Int → Bool) (st : List (List Int) × Int) (x : List Int) : List (List Int) × Int :=
  if ok x then (if d x < st.2 then ([x], d x) else if d x = st.2 then (st.1 ++ [x], st.2) else st) else st
def clF (d : List Int → Int) (ok : List Int → Bool) (rows : List (List Int)) (best : Int) : Nat → List (List Int) × Int
  | 0 => ([], best)
  | i + 1 => clS d ok (clF d ok rows best i) (rows.getD i [])
theorem clS_no {d : List Int → Int} {ok : List Int → Bool} {st : List (List Int) × Int} {x : List Int} (h : ok x = false) : clS d ok st x = st := by unfold clS; rw [h]; rfl
theorem clS_far {d : List Int → Int} {ok : List Int → Bool} {st : List (List Int) × Int} {x : List Int} (h2 : st.2 < d x) : clS d ok st x = st := by
  unfold clS
  split
  · rw [if_neg (by omega), if_neg (by omega)]
  · rfl
theorem clS_less {d : List Int → Int} {ok : List Int → Bool} {st : List (List Int) × Int} {x : List Int} (h : ok x = true) (h2 : d x < st.2) : clS d ok st x = ([x], d x) := by unfold clS; rw [if_pos h, if_pos h2]
theorem clS_same {d : List Int → Int} {ok : List Int → Bool} {st : List (List Int) × Int} {x : List Int} (h : ok x = true) (h2 : d x = st.2) : clS d ok st x = (st.1 ++ [x], st.2) := by unfold clS; rw [if_pos h, if_neg (by omega), if_pos h2]
end Go.Proofs.Ythajmffhgbenpaa

/- Contracts: the nearest numbers to the coordinates of a projection. -/
namespace Go.Proofs.Ythajmffhgbenpaa
set_option linter.unusedSimpArgs false
set_option linter.unusedVariables false
open Go.RowKit

theorem rndO_oL (o : Option (List Q2)) : oL (o.map rndL) = rndL (oLQ o) := by cases o <;> rfl
section
set_option maxHeartbeats 4000000
theorem iRto_c (r c : Int) (A T : Option Addr) (b t : List Int) (n cap k ct : Nat) (w : World) (hn : b.length = n) (ha : Rd w A b) (hl : n ≤ 1099511627776) (hk : t.length = k) (ht : Rd w T t) (hl2 : k ≤ 1099511627776) :
    Calls Try.prog 36 #[.agg #[.int .i64 r, .int .i64 c, .slice A n cap], .slice T k ct] w fun e w' => ∃ v, e = .returned (.tuple #[v, .bool (rndO ⟨r, c, b⟩ t).isSome]) ∧ Own w' w.heap.size v (oL (rndO ⟨r, c, b⟩ t)) ∧ Grows w w' := by
  have CP := fun W h h' => (iPrj_c r c A T b t n cap k ct W hn h hl hk h' hl2).mono fun _ _ h => lqRet_out h
  have hpl : (oLQ (prjO ⟨r, c, b⟩ t)).length ≤ 576 := prjO_length
  obtain ⟨w1, hw1⟩ : ∃ w1, w1 = w.alloc (.cells #[.int .i64 r, .int .i64 c, .slice A n cap] 26) := ⟨_, rfl⟩
  have mg : MBox w1 w.heap.size r c (.slice A n cap) := by rw [hw1]; exact MBox.mk_ _ _ _ _ _
  have HG : Grows w w1 := by rw [hw1]; exact bel0
  have HW1 := Lib.hid hw1
  have ha1 := ha.grows HG
  have ht1 := ht.grows HG
  obtain ⟨RES, hRES⟩ : ∃ x, x = rndO ⟨r, c, b⟩ t := ⟨_, rfl⟩
  rw [← hRES]
  unfold rndO at hRES
  generalize prjO ⟨r, c, b⟩ t = PO at *
  have HR := Lib.hid hRES
  have CP' := Lib.hid CP
  clear hw1 hRES CP hn hk
  go_enter Try.func36, Try.ntmps36
  go_wp2_with fail
  rw [← HW1.out]
  have mg_0 := mg.c0; have mg_1 := mg.c1; have mg_2 := mg.c2; have mg_l := mg.lt; have mg_f := mg.fz
  refine (CP'.out _ (by exact Rd.grows ha1 (by exact bel0)) (by exact Rd.grows ht1 (by exact bel0))).mono ?_; rintro e w2 ⟨v2, rfl, o2, g_w2⟩
  have s_w2 := Below.size g_w2; (try simp at s_w2)
  clear mg_0 mg_1 mg_2 mg_l mg_f
  replace mg := mg.grows (w' := w2) (by exact bel1 g_w2)
  have mg_0 := mg.c0; have mg_1 := mg.c1; have mg_2 := mg.c2; have mg_l := mg.lt; have mg_f := mg.fz
  replace ha1 := ha1.grows (w' := w2) (by exact bel1 g_w2)
  replace ht1 := ht1.grows (w' := w2) (by exact bel1 g_w2)
  replace HG : Grows w w2 := by exact bel2 g_w2 HG
  have h_w2 := Below.size HG
  obtain ⟨A2, c2, rfl, hr2, _⟩ := o2.val
  cases PO with
  | none =>
    obtain rfl : RES = none := HR.out
    go_wp2_with fail
    go_ret2
    exact ⟨_, rfl, Own.new_ _ rfl (by omega), by exact bel1 HG⟩
  | some l =>
    have hRS : RES = some (rndL l) := HR.out
    have hr2 : RdQ w2 A2 l := hr2
    change l.length ≤ 576 at hpl
    subst hRS
    have e : oLQ (some l) = l := rfl
    rw [e]
    clear HR CP' e o2
    go_wp2_with fail
    go_loopw [8, 23] (fun o i wr => ∃ (I : Nat), i = .int .i64 I ∧ I ≤ l.length ∧ Own wr w2.heap.size o (rndL (l.take I)) ∧ Grows w2 wr) (fun _ i _ => l.length - (intOf i).toNat)
    case atStart => exact ⟨0, rfl, Nat.zero_le _, Own.new_ _ rfl (Nat.le_refl _), by exact bel0⟩
    case round =>
      obtain ⟨I, rfl, hI, ho, hg⟩ := hrel
      obtain ⟨A4, c4, rfl, _, _⟩ := ho.val
      have hsl : (rndL (l.take I)).length = I := by rw [rndL_length, List.length_take]; omega
      have hsw := Below.size hg
      by_cases hlt : I < l.length
      · obtain ⟨ab, off, rfl, hbs, x0, x1⟩ := (hr2.grows hg) I hlt
        have i1 : (I : Int) < (l.length : Int) := by omega
        have HNX := Lib.hid (rndL_succ hlt)
        have CM := Lib.hid fun W => iRoundQ_c (nthQ l I) W
        generalize roundQ (nthQ l I) = z at *
        generalize nthQ l I = q at *
        generalize rndL (l.take I) = F at *
        have HSL := Lib.hid hsl
        clear hsl
        go_wp2_with fail
        refine (CM.out _).mono ?_; rintro e w5 ⟨rfl, g5⟩
        have g25 : Grows wr w5 := by exact bel1 g5
        have ho5 := ho.grows g25
        have hs5 := Below.size (show Grows w2 w5 by exact bel2 g25 hg)
        go_wp2_with (at_builtin; refine wpList_app1 rfl (.tmp 27) (.tmp 30) rfl _ z w2.heap.size _ F (by rfl) ho5 (by rfl) (by have := HSL.out; omega) (by omega) ?_; intro v7 w7 ho7 hg7 _)
        obtain ⟨A7, c7, rfl, _, _⟩ := ho7.val
        have hb7 : Below w2.heap.size w5 w7 := below_app ho5 (by omega) hg7
        go_round
        case rel => exact ⟨I + 1, by go_num, by omega, by rw [HNX.out]; exact ho7, Below.trans (show Grows w2 w5 by exact bel2 g25 hg) hb7⟩
        case measure => simp [intOf]; omega
      · obtain rfl : I = l.length := by omega
        have HE := Lib.hid (show rndL (l.take l.length) = rndL l by rw [List.take_length])
        go_wp2_with fail
        go_ret2
        exact ⟨_, rfl, by rw [← HE.out]; exact ho.less (B' := w.heap.size) (by omega), by exact bel2 hg HG⟩
theorem sRto_c (r c : Int) (A T : Option Addr) (b t : List Int) (n cap k ct : Nat) (w : World) (hn : b.length = n) (ha : Rd w A b) (hl : n ≤ 1099511627776) (hk : t.length = k) (ht : Rd w T t) (hl2 : k ≤ 1099511627776) :
    Calls Try.prog 43 #[.agg #[.int .i64 r, .int .i64 c, .slice A n cap], .slice T k ct] w fun e w' => ∃ v, e = .returned (.tuple #[v, .bool (rndO ⟨r, c, b⟩ t).isSome]) ∧ Own w' w.heap.size v (oL (rndO ⟨r, c, b⟩ t)) ∧ Grows w w' := by
  have CP := fun W h h' => (sPrj_c r c A T b t n cap k ct W hn h hl hk h' hl2).mono fun _ _ h => lqRet_out h
  have hpl : (oLQ (prjO ⟨r, c, b⟩ t)).length ≤ 576 := prjO_length
  obtain ⟨w1, hw1⟩ : ∃ w1, w1 = w.alloc (.cells #[.int .i64 r, .int .i64 c, .slice A n cap] 26) := ⟨_, rfl⟩
  have mg : MBox w1 w.heap.size r c (.slice A n cap) := by rw [hw1]; exact MBox.mk_ _ _ _ _ _
  have HG : Grows w w1 := by rw [hw1]; exact bel0
  have HW1 := Lib.hid hw1
  have ha1 := ha.grows HG
  have ht1 := ht.grows HG
  have hoL := rndO_oL (prjO ⟨r, c, b⟩ t)
  have hiS : (rndO ⟨r, c, b⟩ t).isSome = (prjO ⟨r, c, b⟩ t).isSome := by unfold rndO; cases prjO ⟨r, c, b⟩ t <;> rfl
  unfold rndO at hiS ⊢
  rw [hoL, hiS]
  generalize oLQ (prjO ⟨r, c, b⟩ t) = l at *
  generalize (prjO ⟨r, c, b⟩ t).isSome = ok at *
  have CP' := Lib.hid CP
  clear hw1 CP hn hk hoL hiS
  go_enter Try.func43, Try.ntmps43
  go_wp2_with fail
  rw [← HW1.out]
  have mg_0 := mg.c0; have mg_1 := mg.c1; have mg_2 := mg.c2; have mg_l := mg.lt; have mg_f := mg.fz
  refine (CP'.out _ (by exact Rd.grows ha1 (by exact bel0)) (by exact Rd.grows ht1 (by exact bel0))).mono ?_; rintro e w2 ⟨v2, rfl, o2, g_w2⟩
  have s_w2 := Below.size g_w2; (try simp at s_w2)
  clear mg_0 mg_1 mg_2 mg_l mg_f
  replace mg := mg.grows (w' := w2) (by exact bel1 g_w2)
  have mg_0 := mg.c0; have mg_1 := mg.c1; have mg_2 := mg.c2; have mg_l := mg.lt; have mg_f := mg.fz
  replace ha1 := ha1.grows (w' := w2) (by exact bel1 g_w2)
  replace ht1 := ht1.grows (w' := w2) (by exact bel1 g_w2)
  replace HG : Grows w w2 := by exact bel2 g_w2 HG
  have h_w2 := Below.size HG
  obtain ⟨A2, c2, rfl, hr2, _⟩ := o2.val
  clear o2
  go_wp2_with fail
  go_loopw [8, 9] (fun o i wr => ∃ (I : Nat), i = .int .i64 I ∧ I ≤ l.length ∧ Own wr w2.heap.size o (rndL (l.take I)) ∧ Grows w2 wr) (fun _ i _ => l.length - (intOf i).toNat)
  case atStart => exact ⟨0, rfl, Nat.zero_le _, Own.new_ _ rfl (Nat.le_refl _), by exact bel0⟩
  case round =>
    obtain ⟨I, rfl, hI, ho, hg⟩ := hrel
    obtain ⟨A4, c4, rfl, _, _⟩ := ho.val
    have hsl : (rndL (l.take I)).length = I := by rw [rndL_length, List.length_take]; omega
    have hsw := Below.size hg
    by_cases hlt : I < l.length
    · obtain ⟨ab, off, rfl, hbs, x0, x1⟩ := (hr2.grows hg) I hlt
      have i1 : (I : Int) < (l.length : Int) := by omega
      have HNX := Lib.hid (rndL_succ hlt)
      have CM := Lib.hid fun W => sRoundQ_c (nthQ l I) W
      generalize roundQ (nthQ l I) = z at *
      generalize nthQ l I = q at *
      generalize rndL (l.take I) = F at *
      have HSL := Lib.hid hsl
      clear hsl
      go_wp2_with fail
      refine (CM.out _).mono ?_; rintro e w5 ⟨rfl, g5⟩
      have ho5 := ho.grows g5
      have hs5 := Below.size (show Grows w2 w5 by exact bel2 g5 hg)
      go_wp2_with (at_builtin; refine wpList_app1 rfl (.tmp 23) (.tmp 29) rfl _ z w2.heap.size _ F (by rfl) ho5 (by rfl) (by have := HSL.out; omega) (by omega) ?_; intro v7 w7 ho7 hg7 _)
      obtain ⟨A7, c7, rfl, _, _⟩ := ho7.val
      have hb7 : Below w2.heap.size w5 w7 := below_app ho5 (by omega) hg7
      go_round
      case rel => exact ⟨I + 1, by go_num, by omega, by rw [HNX.out]; exact ho7, Below.trans (show Grows w2 w5 by exact bel2 g5 hg) hb7⟩
      case measure => simp [intOf]; omega
    · obtain rfl : I = l.length := by omega
      have HE := Lib.hid (show rndL (l.take l.length) = rndL l by rw [List.take_length])
      go_wp2_with fail
      go_ret2
      exact ⟨_, rfl, by rw [← HE.out]; exact ho.less (B' := w.heap.size) (by omega), by exact bel2 hg HG⟩
end
end Go.Proofs.Ythajmffhgbenpaa

/- Contracts: all vectors of a box, both; all cells negated. -/
namespace Go.Proofs.Ythajmffhgbenpaa
set_option linter.unusedSimpArgs false
set_option linter.unusedVariables false
open Go.RowKit

def boxR (lo hi : List Int) (n : Nat) : List (List Int) := if boxB lo hi n then boxF lo hi n else []
theorem boxR_yes {lo hi : List Int} {n : Nat} (h : boxB lo hi n = true) : boxR lo hi n = boxF lo hi n := by unfold boxR; rw [h]; rfl
theorem boxR_no {lo hi : List Int} {n : Nat} (h : boxB lo hi n = false) : boxR lo hi n = [] := by unfold boxR; rw [h]; rfl
theorem boxF_length (lo hi : List Int) (i : Nat) : (boxF lo hi (i + 1)).length = (boxF lo hi i).length * width (nth lo i) (nth hi i) := by rw [boxF, boxStep_length]
theorem boxUpto_length {lo hi : Int} {rows : List (List Int)} {r : Nat} (h : r ≤ rows.length) : (boxUpto lo hi rows r).length = r * width lo hi := by
  unfold boxUpto; rw [boxStep_length, List.length_take, Nat.min_eq_left h]
theorem boxB_step {lo hi : List Int} {i : Nat} (h : boxB lo hi i = true) : boxB lo hi (i + 1) = decide ((boxF lo hi (i + 1)).length ≤ 4000) := by rw [boxB, h]; rfl
theorem boxB_len {lo hi : List Int} {i : Nat} (h : boxB lo hi i = true) : (boxF lo hi i).length ≤ 4000 := by
  cases i with
  | zero => simp [boxF]
  | succ i => simp only [boxB, Bool.and_eq_true, decide_eq_true_eq] at h; exact h.2
theorem boxF_pos {lo hi : List Int} {n i : Nat} (hw : ∀ i, i < n → nth lo i ≤ nth hi i) (hin : i ≤ n) : 1 ≤ (boxF lo hi i).length := by
  induction i with
  | zero => simp [boxF]
  | succ i ih =>
    rw [boxF_length]
    have h1 := ih (by omega)
    have h2 := hw i (by omega)
    exact Nat.mul_pos h1 (by unfold width; omega)
theorem width_eq {x y : Int} (h : x ≤ y) : (width x y : Int) = y - x + 1 := by unfold width; omega
theorem RowsO.one (w : World) {B b : Nat} (hb : w.heap.size = b) (hB : B ≤ b) : RowsO ((w.alloc (.cells #[] 3)).alloc (.cells #[.slice (some ⟨b, 0, none⟩) 0 0] 24)) B (.slice (some ⟨b + 1, 0, none⟩) 1 1) [.slice (some ⟨b, 0, none⟩) 0 0] [[]] := by
  subst hb
  have ho : Own ((w.alloc (.cells #[] 3)).alloc (.cells #[.slice (some ⟨w.heap.size, 0, none⟩) 0 0] 24)) B (.slice (some ⟨w.heap.size, 0, none⟩) 0 0) [] := (Own.mk_empty w B hB).alloc _
  have key : ∀ (i : Nat) (u : Value), [Value.slice (some ⟨w.heap.size, 0, none⟩) 0 0][i]? = some u → i = 0 ∧ u = .slice (some ⟨w.heap.size, 0, none⟩) 0 0 := fun i u h => by
    cases i with
    | zero => simp at h; exact ⟨rfl, h.symm⟩
    | succ i => simp at h
  refine ⟨rfl, ?_, fun i u x h1 h2 => ?_, fun i u h1 g hg => ?_, fun i j u u' h1 h2 hne => ?_⟩
  · have := World.ownsRow_lit (w := w.alloc (.cells #[] 3)) (base := B) (e := 24) (size := 1) #[.slice (some ⟨w.heap.size, 0, none⟩) 0 0] 1 (by simp; omega) (by simp [maxLen]) (by simp)
    simpa [OwnV] using this
  · obtain ⟨rfl, rfl⟩ := key i u h1
    simp at h2
    subst h2
    exact ho
  · obtain ⟨rfl, rfl⟩ := key i u h1
    simp [Value.ownBlock] at hg ⊢
    omega
  · obtain ⟨rfl, rfl⟩ := key i u h1
    obtain ⟨rfl, rfl⟩ := key j u' h2
    omega
/-- a row that is new lies apart from rows that were there -/
theorem RowsO.apart {w w' : World} {B : Nat} {v : Value} {vs : List Value} {L : List (List Int)} {u : Value} {z : List Int} (h : RowsO w B v vs L) (ho : Own w' w.heap.size u z) : ∀ g, u.ownBlock = some g → v.ownBlock ≠ some g ∧ ∀ (i : Nat) (u' : Value), vs[i]? = some u' → u'.ownBlock ≠ some g := by
  intro g hg
  have h1 := (World.ownsRow.lt ho g hg).1
  exact ⟨fun e => by have := (h.own.lt e).2; omega, fun i u' hi e => by have := (h.lt hi e).2; omega⟩

section
set_option maxHeartbeats 4000000
theorem boxed_c (A B : Option Addr) (lo hi : List Int) (n ca cb : Nat) (w : World) (hn : lo.length = n) (hm : hi.length = n) (ha : Rd w A lo) (hb : Rd w B hi) (hn24 : n ≤ 24) (hw : ∀ i, i < n → nth lo i ≤ nth hi i ∧ -1000000000 ≤ nth lo i ∧ nth hi i ≤ 1000000000) :
    Calls Try.prog 41 #[.slice A n ca, .slice B n cb] w fun e w' => ∃ v vs, e = .returned (.tuple #[v, .bool (boxB lo hi n)]) ∧ RowsO w' w.heap.size v vs (boxR lo hi n) ∧ Grows w w' := by
  have HW := Lib.hid hw
  have HN := Lib.hid hn
  have HM := Lib.hid hm
  obtain ⟨OK, hOK⟩ : ∃ x, x = boxB lo hi n := ⟨_, rfl⟩
  obtain ⟨RES, hRES⟩ : ∃ x, x = boxR lo hi n := ⟨_, rfl⟩
  rw [← hOK, ← hRES]
  have HOK := Lib.hid hOK
  have HR := Lib.hid hRES
  clear hw hn hm hOK hRES
  go_enter Try.func41, Try.ntmps41
  go_wp2_with fail
  go_loopw [6, 16] (fun q i wr => ∃ (I : Nat), i = .int .i64 I ∧ q = .int .i64 ((boxF lo hi I).length : Nat) ∧ I ≤ n ∧ boxB lo hi I = true ∧ Grows w wr) (fun _ i _ => n - (intOf i).toNat)
  case atStart => exact ⟨0, rfl, rfl, Nat.zero_le _, rfl, by exact bel0⟩
  case round =>
    obtain ⟨I, rfl, rfl, hI, hB, hg⟩ := hrel
    by_cases hlt : I < n
    · obtain ⟨b1, o1, rfl, _, hc1⟩ := (ha.grows hg).at_ I (by rw [HN.out]; exact hlt)
      obtain ⟨b2, o2, rfl, _, hc2⟩ := (hb.grows hg).at_ I (by rw [HM.out]; exact hlt)
      have i1 : (I : Int) < (n : Int) := by omega
      obtain ⟨hxy, hx, hy⟩ := HW.out I hlt
      have hlen := boxB_len hB
      have hwd := width_eq hxy
      have HL := Lib.hid (boxF_length lo hi I)
      have HBS := Lib.hid (boxB_step hB)
      have hz : (((boxF lo hi (I + 1)).length : Nat) : Int) = ((boxF lo hi I).length : Int) * (nth hi I - nth lo I + 1) := by rw [HL.out, ← hwd, Int.natCast_mul]
      obtain ⟨N1, hN1⟩ : ∃ x, x = (boxF lo hi (I + 1)).length := ⟨_, rfl⟩
      rw [← hN1] at hz HBS
      have HN1 := Lib.hid hN1
      have hz0 : 0 ≤ ((boxF lo hi I).length : Int) * (nth hi I - nth lo I + 1) := by rw [← hz]; omega
      have hz1 : ((boxF lo hi I).length : Int) * (nth hi I - nth lo I + 1) ≤ 4000 * 2000000001 := Int.mul_le_mul (by omega) (by omega) (by omega) (by omega)
      have k1 : IntKind.i64.wrap (nth hi I - nth lo I) = nth hi I - nth lo I := IntWalk.i64_in _ (by omega)
      have k2 : IntKind.i64.wrap (nth hi I - nth lo I + 1) = nth hi I - nth lo I + 1 := IntWalk.i64_in _ (by omega)
      have k3 : IntKind.i64.wrap (((boxF lo hi I).length : Int) * (nth hi I - nth lo I + 1)) = (N1 : Int) := by rw [hz]; exact IntWalk.i64_in _ (by omega)
      generalize nth hi I = y at *
      generalize nth lo I = x at *
      generalize (boxF lo hi I).length = N0 at *
      clear hz hz0 hz1 hwd hN1 HL
      by_cases hbig : N1 ≤ 4000
      · have hb' : ¬ (4000 : Int) < (N1 : Int) := by omega
        have HB1 : RowKit.Hid (boxB lo hi (I + 1) = true) := Lib.hid (by rw [HBS.out]; simpa using hbig)
        go_wp2_with fail
        go_quiet (fail)
        go_wp2_with fail
        go_round
        case rel => exact ⟨I + 1, by go_num, by rw [← HN1.out], by omega, HB1.out, by exact bel1 hg⟩
        case measure => simp [intOf]; omega
      · have hb' : (4000 : Int) < (N1 : Int) := by omega
        have hno : boxB lo hi n = false := boxB_no (i := I + 1) (by rw [HBS.out]; simpa using hbig) (by omega)
        obtain rfl : OK = false := by rw [HOK.out, hno]
        obtain rfl : RES = [] := by rw [HR.out, boxR_no hno]
        clear hno
        go_wp2_with fail
        go_quiet (fail)
        go_wp2_with fail
        go_ret2
        exact ⟨_, [], rfl, RowsO.nil _ _, by exact bel1 hg⟩
    · obtain rfl : I = n := by omega
      obtain rfl : OK = true := by rw [HOK.out, hB]
      obtain rfl : RES = boxF lo hi I := by rw [HR.out, boxR_yes hB]
      have HB := Lib.hid hB
      clear hB HOK HR
      obtain ⟨wo, rfl⟩ : ∃ wo : World, wo = wr := ⟨_, rfl⟩
      have hs0 := Below.size hg
      go_wp2_with fail
      go_loopw [8, 38] (fun o i wr => ∃ (J : Nat) (vs : List Value), i = .int .i64 J ∧ J ≤ I ∧ RowsO wr w.heap.size o vs (boxF lo hi J) ∧ Grows wo wr) (fun _ i _ => I - (intOf i).toNat)
      case atStart => exact ⟨0, _, rfl, Nat.zero_le _, (RowsO.one wo rfl (Nat.le_refl _)).less (by omega), by exact bel0⟩
      case round =>
        obtain ⟨J, vs, rfl, hJ, hor, hg2⟩ := hrel
        obtain ⟨A8, c8, rfl, hrd8, _⟩ := hor.val
        obtain ⟨wi, rfl⟩ : ∃ wi : World, wi = wr := ⟨_, rfl⟩
        have hs2 := Below.size hg2
        by_cases hlt : J < I
        · have hx1 := (ha.grows hg).grows hg2
          have hx2 := (hb.grows hg).grows hg2
          have i1 : (J : Int) < (I : Int) := by omega
          obtain ⟨hxy, hx, hy⟩ := HW.out J hlt
          have hwd := width_eq hxy
          have HB4 := Lib.hid (boxB_len (boxB_le HB.out (show J + 1 ≤ I by omega)))
          have hrl4 : (boxF lo hi J).length ≤ 4000 := boxB_len (boxB_le HB.out (show J ≤ I by omega))
          have HFL := Lib.hid (fun (v : List Int) (h : v ∈ boxF lo hi J) => boxF_len h)
          have HNX := Lib.hid (show boxF lo hi (J + 1) = boxStep (nth lo J) (nth hi J) (boxF lo hi J) from rfl)
          have HLN := Lib.hid (boxF_length lo hi J)
          obtain ⟨bx, ox, rfl, hbx, hcx⟩ := hx1.at_ J (by rw [HN.out]; exact hlt)
          obtain ⟨by_, oy, rfl, hby, hcy⟩ := hx2.at_ J (by rw [HM.out]; exact hlt)
          generalize nth lo J = x at *
          generalize nth hi J = y at *
          generalize boxF lo hi J = rows at *
          go_wp2_with fail
          go_loopw [10, 44] (fun o i wr => ∃ (r : Nat) (vn : List Value), i = .int .i64 r ∧ r ≤ rows.length ∧ RowsO wr wi.heap.size o vn (boxUpto x y rows r) ∧ Grows wi wr) (fun _ i _ => rows.length - (intOf i).toNat)
          case atStart => exact ⟨0, [], rfl, Nat.zero_le _, RowsO.new_ _ rfl (Nat.le_refl _), by exact bel0⟩
          case round =>
            obtain ⟨r, vn, rfl, hr, horn, hg3⟩ := hrel
            obtain ⟨A10, c10, rfl, _, _⟩ := horn.val
            obtain ⟨wj, rfl⟩ : ∃ wj : World, wj = wr := ⟨_, rfl⟩
            have hs3 := Below.size hg3
            by_cases hltr : r < rows.length
            · obtain ⟨b8, off8, u8, rfl, hb8i, hc8i, Au, cu, rfl, hru, _⟩ := hrd8.at_ r hltr
              have hc8 : wj.cell? ⟨b8, off8 + r, none⟩ = some (.slice Au rows[r].length cu) := (hg3.cell (p := ⟨b8, off8 + r, none⟩) hb8i).trans hc8i
              have hb8 : b8 < wj.heap.size := by omega
              clear hc8i
              have i2 : (r : Int) < (rows.length : Int) := by omega
              have HRX := Lib.hid (boxUpto_succ (lo := x) (hi := y) hltr)
              have HUL := Lib.hid (boxUpto_length (lo := x) (hi := y) (Nat.le_of_lt hltr))
              have HML : RowKit.Hid ((r + 1) * width x y ≤ 4000) := Lib.hid (by have h1 := HB4.out; rw [HLN.out] at h1; exact Nat.le_trans (Nat.mul_le_mul_right _ (show r + 1 ≤ rows.length by omega)) h1)
              have HU : RowKit.Hid (rows[r].length ≤ 24) := Lib.hid (by have := HFL.out rows[r] (List.getElem_mem _); omega)
              have eU : rows.getD r [] = rows[r] := by simp [List.getD, hltr]
              rw [eU] at HRX
              generalize rows[r] = U at *
              generalize boxUpto x y rows r = L0 at *
              have hcxj : wj.cell? ⟨bx, ox + J, none⟩ = some (.int .i64 x) := (hg3.cell (p := ⟨bx, ox + J, none⟩) hbx).trans hcx
              go_wp2_with fail
              go_loopw [10, 13] (fun o z wr => ∃ (k : Nat) (vn : List Value), z = .int .i64 (x + (k : Int)) ∧ k ≤ width x y ∧ RowsO wr wi.heap.size o vn (L0 ++ grownBy x k U) ∧ Below wi.heap.size wj wr) (fun _ z _ => (y + 1 - intOf z).toNat)
              case atStart => exact ⟨0, vn, by simp, Nat.zero_le _, by simpa [grownBy] using horn, by exact bel0⟩
              case round =>
                obtain ⟨k, vk, rfl, hk, hork, hg4⟩ := hrel
                obtain ⟨A11, c11, rfl, _, _⟩ := hork.val
                have hs4 := Below.size hg4
                have hgi4 : Grows wi wr := Below.trans hg3 hg4
                have hcyk : wr.cell? ⟨by_, oy + J, none⟩ = some (.int .i64 y) := (hgi4.cell (p := ⟨by_, oy + J, none⟩) hby).trans hcy
                by_cases hltk : k < width x y
                · have i3 : x + (k : Int) ≤ y := by omega
                  have hruk := hru.grows hgi4
                  have HGX := Lib.hid (grownBy_succ x k U)
                  have HGL := Lib.hid (grownBy_length x k U)
                  have hLL : (L0 ++ grownBy x k U).length + 1 ≤ 1099511627776 := by
                    rw [List.length_append, HUL.out, HGL.out]
                    have := HML.out
                    rw [Nat.succ_mul] at this
                    omega
                  have hUl := HU.out
                  have k4 : IntKind.i64.wrap (x + (k : Int) + 1) = x + (k : Int) + 1 := IntWalk.i64_in _ (by omega)
                  obtain ⟨z, hz⟩ : ∃ z, z = x + (k : Int) := ⟨_, rfl⟩
                  rw [← hz] at i3 k4 ⊢
                  have HZ := Lib.hid hz
                  generalize hLK : L0 ++ grownBy x k U = LK at *
                  have HLK := Lib.hid hLK
                  have HEL := Lib.hid (show (U ++ [z]).length = U.length + 1 by simp)
                  clear hLK hz
                  go_wp2_with (first
                    | (at_builtin; refine wpList_appO1 rfl (.tmp 60) (.tmp 67) rfl _ _ (U ++ [z]) wi.heap.size _ vk LK (by rfl) hor3 (ho3.less (by omega)) hap3 rfl (by rfl) hLL (by omega) ?_; intro v4 w4 ho4 hg4' hv4)
                    | (at_builtin; refine wpList_app1 rfl (.tmp 63) (.tmp 65) rfl _ z wr.heap.size _ U (by rfl) ho2 (by rfl) (by omega) (by omega) ?_; intro v3 w3 ho3 hg3' hv3; have g3 : Grows wr w3 := Below.trans g2 (below_app ho2 (by omega) hg3'); have hor3 := hork.grows g3; have hap3 := hork.apart ho3; have sw3 := Below.size g3; obtain ⟨A3, c3, rfl, _, _⟩ := ho3.val; rw [HEL.out] at ho3 hap3; clear hg3')
                    | (at_builtin; refine wpList_app rfl (.tmp 61) (.tmp 62) rfl _ wr.heap.size _ [] (by rfl) (Own.new_ _ rfl (Nat.le_refl _)) Au U U.length cu (by rfl) rfl (by exact (Rd.grows hruk (by exact bel0))) (by simp; omega) (by simp) ?_; intro v2 w2 ho2 hg2' hv2; have g2 : Grows wr w2 := Below.trans (show Below _ wr (wr.alloc (.cells #[] 3)) by exact bel0) ((below_app (Own.new_ wr rfl (Nat.le_refl _)) (by simp) hg2')); rw [List.nil_append] at ho2; obtain ⟨A2, c2, rfl, _, _⟩ := ho2.val; have sw2 := Below.size g2; clear hg2'))
                  obtain ⟨A4, c4, rfl, _, _⟩ := ho4.val
                  have hb4 : Below wi.heap.size w3 w4 := below_appO hor3 (by omega) hg4'
                  clear hg4'
                  go_wp2_with fail
                  go_round
                  case rel => exact ⟨k + 1, _, by rw [HZ.out]; simp [Int.add_assoc], by omega, by rw [HGX.out, ← List.append_assoc, HLK.out, ← HZ.out]; exact ho4, Below.trans hg4 (Below.trans (Below.mono g3 (by omega)) hb4)⟩
                  case measure => simp [intOf]; omega
                · have i3 : ¬ x + (k : Int) ≤ y := by omega
                  obtain rfl : k = width x y := by omega
                  go_wp2_with fail
                  go_round
                  case rel => exact ⟨r + 1, vk, by go_num, by omega, by rw [HRX.out]; exact hork, hgi4⟩
                  case measure => simp [intOf]; omega
            · obtain rfl : r = rows.length := by omega
              go_wp2_with fail
              go_round
              case rel => exact ⟨J + 1, vn, by go_num, by omega, by rw [HNX.out, ← boxUpto_all]; exact horn.less (by omega), by exact bel2 hg3 hg2⟩
              case measure => simp [intOf]; omega
        · obtain rfl : J = I := by omega
          go_wp2_with fail
          go_ret2
          exact ⟨_, vs, rfl, hor, by exact bel2 hg2 hg⟩
end
end Go.Proofs.Ythajmffhgbenpaa

/- The closest vectors as chosen places of the rows of a box; rows picked out of owned rows. -/
namespace Go.Proofs.Ythajmffhgbenpaa
set_option linter.unusedSimpArgs false
set_option linter.unusedVariables false
open Go.RowKit

def clT (dx : Int) (okx : Bool) (st : List Nat × Int) (i : Nat) : List Nat × Int := if okx then (if dx < st.2 then ([i], dx) else if dx = st.2 then (st.1 ++ [i], st.2) else st) else st
theorem clT_no {dx : Int} {st : List Nat × Int} {i : Nat} : clT dx false st i = st := rfl
theorem clT_far {dx : Int} {okx : Bool} {st : List Nat × Int} {i : Nat} (h2 : st.2 < dx) : clT dx okx st i = st := by
  unfold clT
  split
  · rw [if_neg (by omega), if_neg (by omega)]
  · rfl
theorem clT_less {dx : Int} {st : List Nat × Int} {i : Nat} (h2 : dx < st.2) : clT dx true st i = ([i], dx) := by unfold clT; rw [if_pos rfl, if_pos h2]
theorem clT_same {dx : Int} {st : List Nat × Int} {i : Nat} (h2 : dx = st.2) : clT dx true st i = (st.1 ++ [i], st.2) := by unfold clT; rw [if_pos rfl, if_neg (by omega), if_pos h2]
def clJ (d : List Int → Int) (ok : List Int → Bool) (rows : List (List Int)) (best : Int) : Nat → List Nat × Int
  | 0 => ([], best)
  | i + 1 => clT (d (rows.getD i [])) (ok (rows.getD i [])) (clJ d ok rows best i) i
theorem clJ_in {d : List Int → Int} {ok : List Int → Bool} {rows : List (List Int)} {best : Int} {i : Nat} : (∀ j ∈ (clJ d ok rows best i).1, j < i) ∧ (clJ d ok rows best i).1.Nodup ∧ (clJ d ok rows best i).1.length ≤ i := by
  induction i with
  | zero => exact ⟨fun j hj => by simp [clJ] at hj, List.nodup_nil, Nat.le_refl _⟩
  | succ i ih =>
    obtain ⟨h1, h2, h3⟩ := ih
    have keep : (∀ j ∈ (clJ d ok rows best i).1, j < i + 1) ∧ (clJ d ok rows best i).1.Nodup ∧ (clJ d ok rows best i).1.length ≤ i + 1 := ⟨fun j hj => Nat.lt_succ_of_lt (h1 j hj), h2, Nat.le_succ_of_le h3⟩
    rw [clJ]
    unfold clT
    split
    · split
      · exact ⟨fun j hj => by simp at hj; omega, by simp, by simp⟩
      · split
        · refine ⟨fun j hj => ?_, ?_, ?_⟩
          · rw [List.mem_append] at hj
            rcases hj with hj | hj
            · exact Nat.lt_succ_of_lt (h1 j hj)
            · simp at hj; omega
          · refine List.nodup_append.2 ⟨h2, by simp, fun a ha b hb => ?_⟩
            simp at hb
            have := h1 a ha
            omega
          · simp; exact h3
        · exact keep
    · exact keep
def dF (b : MX) (t x : List Int) : Int := dVal b.r b.c b.l x t
def dK (b : MX) (t x : List Int) : Bool := dOk b.r b.c b.l x t
def clR (b : MX) (t : List Int) (l : List Q2) (s : List Int) : List (List Int) := boxF (lowL l s l.length) (highL l s l.length) l.length
def clO (b : MX) (t : List Int) (l : List Q2) (s : List Int) : List (List Int) × Int :=
  ((clJ (dF b t) (dK b t) (clR b t l s) (dF b t (rndL l)) (clR b t l s).length).1.map fun j => (clR b t l s).getD j [], (clJ (dF b t) (dK b t) (clR b t l s) (dF b t (rndL l)) (clR b t l s).length).2)
def closS (b : MX) (t : List Int) (l : List Q2) (s : List Int) : Option (List (List Int) × Int) := if boxB (lowL l s l.length) (highL l s l.length) l.length then some (clO b t l s) else none
def closL (b : MX) (t : List Int) (l : List Q2) : Option (List (List Int) × Int) := if dK b t (rndL l) then (boxO (oM (gmO b)) (dF b t (rndL l))).bind (closS b t l) else none
def closO (b : MX) (t : List Int) : Option (List (List Int) × Int) := (prjO b t).bind (closL b t)
theorem closO_none {b : MX} {t : List Int} (h : none = prjO b t) : closO b t = none := by unfold closO; rw [← h]; rfl
theorem closO_some {b : MX} {t : List Int} {l : List Q2} (h : some l = prjO b t) : closO b t = closL b t l := by unfold closO; rw [← h]; rfl
theorem closL_far {b : MX} {t : List Int} {l : List Q2} (h : false = dK b t (rndL l)) : closL b t l = none := by unfold closL; rw [← h]; rfl
theorem closL_none {b : MX} {t : List Int} {l : List Q2} (h2 : none = boxO (oM (gmO b)) (dF b t (rndL l))) : closL b t l = none := by
  unfold closL
  split
  · rw [← h2]; rfl
  · rfl
theorem closL_some {b : MX} {t : List Int} {l : List Q2} {s : List Int} (h : true = dK b t (rndL l)) (h2 : some s = boxO (oM (gmO b)) (dF b t (rndL l))) : closL b t l = closS b t l s := by unfold closL; rw [← h, if_pos rfl, ← h2]; rfl
theorem closS_big {b : MX} {t : List Int} {l : List Q2} {s : List Int} (h : boxB (lowL l s l.length) (highL l s l.length) l.length = false) : closS b t l s = none := by unfold closS; rw [h]; rfl
theorem closS_yes {b : MX} {t : List Int} {l : List Q2} {s : List Int} (h : boxB (lowL l s l.length) (highL l s l.length) l.length = true) : closS b t l s = some (clO b t l s) := by unfold closS; rw [h]; rfl
theorem prj_box {b : MX} {t : List Int} {l : List Q2} {s : List Int} {D : Int} (h : some l = prjO b t) (h2 : some s = boxO (oM (gmO b)) D) : s.length = l.length ∧ l.length ≤ 6 := by
  have hs6 := boxO_length h2.symm
  have h3 := h.symm
  unfold prjO at h3
  split at h3
  · rename_i hh
    simp only [Bool.and_eq_true] at hh
    obtain ⟨p, hp, h4⟩ := Option.bind_eq_some_iff.1 h3
    obtain ⟨q, hq, rfl⟩ := Option.map_eq_some_iff.1 h4
    have hok := mulO_ok hq
    obtain ⟨R, C, e1, e2, _, _, hl, _⟩ := isMat_ok hok
    obtain ⟨a, ha⟩ := Option.isSome_iff_exists.1 hh.1.2
    have ha2 : a.r = (oM (gmO b)).r := by
      unfold adjO at ha
      split at ha
      · cases ha; rfl
      · cases ha
    have hqr : q.r = a.r ∧ q.c = p.c := by
      rw [ha] at hq
      unfold mulO at hq
      split at hq
      · cases hq; exact ⟨rfl, rfl⟩
      · cases hq
    have hpc : p.c = 1 := by
      unfold mulO at hp
      split at hp
      · cases hp; rfl
      · cases hp
    have hsl : s.length = (oM (gmO b)).r.toNat := by
      have h5 := h2.symm
      unfold boxO at h5
      split at h5
      · exact bxP_length h5
      · cases h5
    rw [qsP_length]
    have e3 : C = 1 := by omega
    subst e3
    rw [Nat.mul_one] at hl
    have : (R : Int) = (oM (gmO b)).r := by rw [← e1, hqr.1, ha2]
    omega
  · cases h3
theorem floorQ_bd (q : Q2) : -400000000 ≤ floorQ q ∧ floorQ q ≤ 400000000 := by
  unfold floorQ
  split
  · rename_i h
    have hb := okQ_bd h
    constructor
    · exact (Int.le_ediv_iff_mul_le (by omega)).2 (by
        have : q.2 * 400000000 ≥ 1 * 400000000 := Int.mul_le_mul_of_nonneg_right hb.1 (by omega)
        rw [Int.neg_mul, Int.mul_comm]
        omega)
    · exact Int.lt_add_one_iff.1 (Int.ediv_lt_of_lt_mul (by omega) (by
        have : q.2 * 400000001 ≥ 1 * 400000001 := Int.mul_le_mul_of_nonneg_right hb.1 (by omega)
        rw [Int.mul_comm]
        omega))
  · omega
theorem lowL_nth {l : List Q2} {s : List Int} {n i : Nat} (h : i < n) : nth (lowL l s n) i = floorQ (nthQ l i) - nth s i := by
  show ((List.range n).map fun i => floorQ (nthQ l i) - nth s i).getD i 0 = _
  rw [List.getD_eq_getElem?_getD, List.getElem?_map, List.getElem?_range h]
  rfl
theorem highL_nth {l : List Q2} {s : List Int} {n i : Nat} (h : i < n) : nth (highL l s n) i = floorQ (nthQ l i) + 1 + nth s i := by
  show ((List.range n).map fun i => floorQ (nthQ l i) + 1 + nth s i).getD i 0 = _
  rw [List.getD_eq_getElem?_getD, List.getElem?_map, List.getElem?_range h]
  rfl
theorem clos_bd {l : List Q2} {s : List Int} (hs : ∀ i, i < s.length → 0 ≤ nth s i ∧ nth s i ≤ 20000) (hl : s.length = l.length) : ∀ i, i < l.length → nth (lowL l s l.length) i ≤ nth (highL l s l.length) i ∧ -1000000000 ≤ nth (lowL l s l.length) i ∧ nth (highL l s l.length) i ≤ 1000000000 := fun i hi => by
  rw [lowL_nth hi, highL_nth hi]
  have h1 := hs i (by omega)
  have h2 := floorQ_bd (nthQ l i)
  omega
/-! ### what the functions answer -/
def oC (o : Option (List (List Int) × Int)) : List (List Int) × Int := o.getD ([], 0)
def CloRet (o : Option (List (List Int) × Int)) (w : World) (e : Ending) (w' : World) : Prop := ∃ v vs, e = .returned (.tuple #[v, .int .i64 (oC o).2, .bool o.isSome]) ∧ RowsO w' w.heap.size v vs (oC o).1 ∧ Grows w w'
theorem cloRet_out {o : Option (List (List Int) × Int)} {w w' : World} {e : Ending} (h : CloRet o w e w') : ∃ v vs, e = .returned (.tuple #[v, .int .i64 (oC o).2, .bool o.isSome]) ∧ RowsO w' w.heap.size v vs (oC o).1 ∧ Grows w w' := h
def CloGet (o : Option (List (List Int) × Int)) (w : World) (e : Ending) (w' : World) : Prop := ∃ A c, e = .returned (.tuple #[.slice A (oC o).1.length c, .int .i64 (oC o).2, .bool o.isSome]) ∧ RdR RSI w' A (oC o).1 ∧ Grows w w'
theorem cloGet_out {o : Option (List (List Int) × Int)} {w w' : World} {e : Ending} (h : CloGet o w e w') : ∃ A c, e = .returned (.tuple #[.slice A (oC o).1.length c, .int .i64 (oC o).2, .bool o.isSome]) ∧ RdR RSI w' A (oC o).1 ∧ Grows w w' := h
theorem clO_len {b : MX} {t : List Int} {l : List Q2} {s : List Int} (h : boxB (lowL l s l.length) (highL l s l.length) l.length = true) : (clO b t l s).1.length ≤ 4000 := by
  unfold clO
  simp only
  rw [List.length_map]
  exact Nat.le_trans clJ_in.2.2 (boxB_len h)
theorem closO_at {b : MX} {t : List Int} {x : List (List Int) × Int} (h : closO b t = some x) : ∃ l s, l.length ≤ 6 ∧ boxB (lowL l s l.length) (highL l s l.length) l.length = true ∧ x = clO b t l s := by
  unfold closO at h
  obtain ⟨l, h1, h2⟩ := Option.bind_eq_some_iff.1 h
  unfold closL at h2
  split at h2
  · obtain ⟨s, h3, h4⟩ := Option.bind_eq_some_iff.1 h2
    unfold closS at h4
    split at h4
    · rename_i hb
      cases h4
      exact ⟨l, s, (prj_box h1.symm h3.symm).2, hb, rfl⟩
    · cases h4
  · cases h2
theorem closO_len {b : MX} {t : List Int} : (oC (closO b t)).1.length ≤ 4000 := by
  cases h : closO b t with
  | none => simp [oC]
  | some x =>
    obtain ⟨l, s, _, hb, rfl⟩ := closO_at h
    exact clO_len hb
theorem closO_row {b : MX} {t : List Int} : ∀ x ∈ (oC (closO b t)).1, x.length ≤ 1024 := by
  cases h : closO b t with
  | none => intro x hx; simp [oC] at hx
  | some x =>
    obtain ⟨l, s, h6, hb, rfl⟩ := closO_at h
    intro y hy
    change y ∈ (clO b t l s).1 at hy
    unfold clO at hy
    simp only at hy
    obtain ⟨j, hj, rfl⟩ := List.mem_map.1 hy
    have hlt := clJ_in.1 j hj
    have hm : (clR b t l s).getD j [] ∈ clR b t l s := by simp [List.getD, hlt]
    have := boxF_len (show (clR b t l s).getD j [] ∈ boxF (lowL l s l.length) (highL l s l.length) l.length from hm)
    omega
/-- picked rows -/
theorem RowsO.pick {w : World} {B B' H : Nat} {v o : Value} {vs : List Value} {L : List (List Int)} {js : List Nat} (h : RowsO w B v vs L) (ho : OwnV 24 w B' o (js.map fun j => vs.getD j (.slice none 0 0))) (hB : B ≤ B') (hj : ∀ j ∈ js, j < L.length) (hn : js.Nodup) (hfar : ∀ g, o.ownBlock = some g → H ≤ g)
    (hlow : ∀ (i : Nat) (u : Value), vs[i]? = some u → ∀ g, u.ownBlock = some g → g < H) : RowsO w B o (js.map fun j => vs.getD j (.slice none 0 0)) (js.map fun j => L.getD j []) := by
  have hl := h.len
  have key : ∀ (i : Nat) (u : Value), (js.map fun j => vs.getD j (.slice none 0 0))[i]? = some u → ∃ j, js[i]? = some j ∧ vs[j]? = some u ∧ j < L.length := fun i u hi => by
    rw [List.getElem?_map] at hi
    obtain ⟨j, h1, rfl⟩ := Option.map_eq_some_iff.1 hi
    have hlt := hj j (List.mem_iff_getElem?.2 ⟨i, h1⟩)
    exact ⟨j, h1, by simp [List.getD, show j < vs.length by omega], hlt⟩
  refine ⟨by simp, ho.less hB, fun i u x h1 h2 => ?_, fun i u h1 g hg e => ?_, fun i k a c ha hc hne g hg => ?_⟩
  · obtain ⟨j, h3, h4, h5⟩ := key i u h1
    rw [List.getElem?_map, h3] at h2
    cases h2
    exact h.row j u _ h4 (by simp [List.getD, h5])
  · obtain ⟨j, h3, h4, h5⟩ := key i u h1
    have h6 := hlow j u h4 g hg
    have h7 := hfar g e
    omega
  · obtain ⟨j, h3, h4, h5⟩ := key i a ha
    obtain ⟨m, h6, h7, h8⟩ := key k c hc
    refine h.nod j m a c h4 h7 (fun e => ?_) g hg
    subst e
    obtain ⟨hi, e1⟩ := List.getElem?_eq_some_iff.1 h3
    obtain ⟨hk, e2⟩ := List.getElem?_eq_some_iff.1 h6
    exact hne ((List.getElem_inj hn).1 (e1.trans e2.symm))
/-- out = append(out, x), whatever is told of the rows -/
theorem wpList_appX1 {ops : Array Oper} {rest : List Oper} {o : Oper} {a : Act} {Q : Exit → Act → World → Prop} (hgd : o.guard = none) (s x : Operand)
    (ho : o.op = .call { callee := .builtin .append, args := #[s, x], argTypes := #[36, 36] }) (w : World) (u : Value) (hu1 : u.oneCell' = true)
    (B : Nat) (v : Value) (vs : List Value) (hs : a.eval s = v) (hown : OwnV 24 w B v vs) (hx : a.eval x = .slice (some ⟨w.heap.size, 0, none⟩) 1 1)
    (hl : vs.length + 1 ≤ 1099511627776) (hB : B ≤ w.heap.size)
    (h : ∀ v' w', OwnV 24 w' B v' (vs ++ [u]) → w.grownBy w' v.ownBlock → (v'.ownBlock = v.ownBlock ∨ ∃ g, v'.ownBlock = some g ∧ w.heap.size ≤ g) → wpList Try.prog ops Q rest (a.put o.dst v') w') :
    wpList Try.prog ops Q (o :: rest) a (w.alloc (.cells #[u] 24)) := by
  obtain ⟨v', w', hrun, h2, h3, h4⟩ := run_appV1 24 36 und_ii info_is w o.type B v vs hown u hu1 hl hB
  refine wpList_plain hgd fun _ hK => ?_
  unfold Oper.wp execOp
  simp only [ho, resolve, invoke, builtin, Sem.run_bind, Sem.run_pure, Result.andThen_ok, List.map_toArray, List.map_cons, List.map_nil, hs, hx, hrun]
  exact hK _ _ (h v' w' h2 h3 h4)
theorem own_le {w : World} {B n cap : Nat} {A : Option Addr} {l : List Int} (h : Own w B (.slice A n cap) l) : n ≤ cap ∧ cap ≤ 9223372036854775807 := h.caps.2
theorem QBox.ownC {w w' : World} {b : Nat} {q : Q2} {r : Option Nat} (h : QBox w b q) (hg : w.grownBy w' r) (hne : r ≠ some b) : QBox w' b q := by
  have hk := hg.block b h.lt (fun e => hne e.symm)
  exact ⟨Nat.lt_of_lt_of_le h.lt hg.size, (World.cell?_of_block hk).trans h.c0, (World.cell?_of_block hk).trans h.c1, fun o => by
    have := h.fz o
    unfold World.frozen? at this ⊢
    simpa [hk] using this⟩
/-- out = append(out, q), at a step of a region that draws -/
theorem clo_keep {W w : World} {b bb o : Nat} {q : Q2} {y : Value} (h : QBox W b q) (hc : W.cell? ⟨bb, o, none⟩ = some y) (hb : bb < W.heap.size) (g : Grows W w) : w.cell? ⟨b, 0, none⟩ = some (.int .i64 q.1) ∧ w.cell? ⟨b, 1, none⟩ = some (.int .i64 q.2) ∧ w.cell? ⟨bb, o, none⟩ = some y :=
  ⟨(h.grows g).c0, (h.grows g).c1, (g.cell (p := ⟨bb, o, none⟩) hb).trans hc⟩
end Go.Proofs.Ythajmffhgbenpaa

/- Plain: the vectors that ClosestTo lists are those of a box with the least distance, and no vector at all is nearer. -/
namespace Go.Proofs.Ythajmffhgbenpaa
set_option linter.unusedSimpArgs false
set_option linter.unusedVariables false
open Go.RowKit

theorem adj_cellG {n : Nat} {l : List Int} {a : MX} (h : adjO ⟨((n + 1 : Nat) : Int), ((n + 1 : Nat) : Int), l⟩ = some a) {i j : Nat} (hi : i < n + 1) (hj : j < n + 1) : nth a.l (j * (n + 1) + i) = cof n (fnOf (n + 1) l) i j := by
  unfold adjO at h
  split at h
  · rename_i hh
    simp only [Bool.and_eq_true, Int.toNat_natCast] at hh
    cases h
    simp only [Int.toNat_natCast]
    have hn := (allNum_iff _).1 hh.2 (j * (n + 1) + i) (by rw [adjB_length]; exact idx_lt hj hi)
    unfold adjB at hn ⊢
    rw [tab_nth _ hj hi] at hn ⊢
    cases hd : adjc (n + 1) l i j with
    | none => rw [adjF_none hd, bad_not] at hn; cases hn
    | some d =>
      rw [adjF_some hd]
      unfold adjc at hd
      rw [Nat.add_sub_cancel] at hd
      rw [← detO_dets n _ _ hd]
      unfold cof
      have e2 : dets n (fnOf n (crs (n + 1) l i j ((n + 1) * (n + 1)))) = dets n fun a b => fnOf (n + 1) l (skip i a) (skip j b) := dets_congr fun a b ha hb => by
        have := crs_nth (R := n + 1) (C := n + 1) (l := l) (ri := i) (ci := j) (a := a) (b := b) hi hj (by omega) (by omega)
        simp only [Nat.add_sub_cancel] at this
        unfold fnOf
        rw [this]
      rw [e2]
      unfold sgn
      split
      · omega
      · omega
  · cases h
theorem gcd_low {a b : Nat} (h : 0 < b) : Nat.gcd (a / Nat.gcd a b) (b / Nat.gcd a b) = 1 := Nat.gcd_div_gcd_div_gcd_of_pos_right h
theorem makeQ_floor {n d : Int} (hn : isNum n = true) (hd : isNum d = true) (h0 : 0 < d) : okQ (makeQ n d) = true ∧ floorQ (makeQ n d) = n / d := by
  have hg : 0 < gcdI n d := gcdI_pos (by omega)
  have e : makeQ n d = keepQ (n.tdiv (gcdI n d)) (d.tdiv (gcdI n d)) := by unfold makeQ; rw [hn, hd]; exact mkQ_pos h0
  have d1 : gcdI n d ∣ n := Int.gcd_dvd_left _ _
  have d2 : gcdI n d ∣ d := Int.gcd_dvd_right _ _
  have hgc : gcdI (n.tdiv (gcdI n d)) (d.tdiv (gcdI n d)) = 1 := by
    have e1 : (n.tdiv (gcdI n d)).natAbs = n.natAbs / Nat.gcd n.natAbs d.natAbs := by rw [Int.natAbs_tdiv]; rfl
    have e2 : (d.tdiv (gcdI n d)).natAbs = d.natAbs / Nat.gcd n.natAbs d.natAbs := by rw [Int.natAbs_tdiv]; rfl
    show ((Nat.gcd (n.tdiv (gcdI n d)).natAbs (d.tdiv (gcdI n d)).natAbs : Nat) : Int) = 1
    rw [e1, e2, gcd_low (by omega)]; rfl
  generalize gcdI n d = g at *
  obtain ⟨x, rfl⟩ := d1
  obtain ⟨y, rfl⟩ := d2
  have t1 : (g * x).tdiv g = x := Int.mul_tdiv_cancel_left x (by omega)
  have t2 : (g * y).tdiv g = y := Int.mul_tdiv_cancel_left y (by omega)
  rw [t1, t2] at hgc e
  have hy : 0 < y := by
    refine Classical.byContradiction fun hn => ?_
    have := Int.mul_nonpos_of_nonneg_of_nonpos (show 0 ≤ g by omega) (show y ≤ 0 by omega)
    omega
  have b1 := (isNum_iff _).1 hn
  have b2 := (isNum_iff _).1 hd
  have hx2 : -400000000 ≤ x ∧ x ≤ 400000000 := by
    rcases Int.le_total 0 x with h | h
    · have := Int.mul_le_mul_of_nonneg_right (show 1 ≤ g by omega) h; omega
    · have := Int.mul_le_mul_of_nonneg_right (show 1 ≤ g by omega) (show 0 ≤ -x by omega)
      simp only [Int.mul_neg, Int.one_mul] at this
      omega
  have hy2 : y ≤ 400000000 := by
    have := Int.mul_le_mul_of_nonneg_right (show 1 ≤ g by omega) (Int.le_of_lt hy); omega
  have hr : isRat x y = true := (isRat_iff _ _).2 ⟨by omega, hy2, hx2.1, hx2.2, hgc⟩
  have ek : keepQ x y = (x, y) := by unfold keepQ; rw [hr]; rfl
  rw [e, ek]
  refine ⟨hr, ?_⟩
  unfold floorQ
  rw [if_pos (show okQ (x, y) = true from hr)]
  exact (Int.mul_ediv_mul_of_pos x y hg).symm
theorem round_near (q : Q2) : floorQ q ≤ roundQ q ∧ roundQ q ≤ floorQ q + 1 := by
  unfold floorQ roundQ
  split
  · rename_i h
    have hb := okQ_bd h
    obtain ⟨a, b⟩ := q
    simp only at hb ⊢
    have e : (2 * b) = b * 2 := by omega
    constructor
    · refine (Int.le_ediv_iff_mul_le (by omega)).2 ?_
      have := Int.ediv_mul_le a (show b ≠ 0 by omega)
      rw [show a / b * (2 * b) = 2 * (a / b * b) by ac_rfl]
      omega
    · refine Int.lt_add_one_iff.1 (Int.ediv_lt_of_lt_mul (by omega) ?_)
      have := Int.lt_ediv_add_one_mul_self a (show 0 < b by omega)
      rw [show (a / b + 1 + 1) * (2 * b) = 2 * ((a / b + 1) * b) + 2 * b by rw [Int.add_mul, Int.one_mul]; ac_rfl]
      omega
  · exact ⟨Int.le_refl _, by omega⟩

theorem sumN_geZ {n : Nat} {f : Nat → Int} (h : ∀ k, k < n → 0 ≤ f k) : 0 ≤ sumN n f := by
  induction n with
  | zero => exact Int.le_refl 0
  | succ n ih => rw [sumN]; have := ih fun k hk => h k (by omega); have := h n (by omega); omega

/-! ### the coordinates of a projection -/
theorem qsP_nth {d : Int} {l : List Int} {n i : Nat} (h : i < n) : nthQ (qsP d l n) i = makeQ (nth l i) d := by
  induction n with
  | zero => omega
  | succ n ih =>
    rw [qsP]
    unfold nthQ
    rw [List.getD_eq_getElem?_getD]
    by_cases e : i < n
    · rw [List.getElem?_append_left (by rw [qsP_length]; exact e), ← List.getD_eq_getElem?_getD]
      exact ih e
    · obtain rfl : i = n := by omega
      rw [List.getElem?_append_right (by rw [qsP_length]; exact Nat.le_refl _), qsP_length, Nat.sub_self]
      rfl
structure PrjF (b : MX) (t : List Int) (l : List Q2) (R C : Nat) (G A P : List Int) (D : Int) : Prop where
  br : b.r = R
  bc : b.c = C
  tl : t.length = C
  gm : oM (gmO b) = ⟨R, R, G⟩
  gc : ∀ i j, i < R → j < R → fnOf R G i j = sumN C fun k => fnOf C b.l i k * fnOf C b.l j k
  df : isDef R R G = true
  ad : adjO ⟨R, R, G⟩ = some ⟨R, R, A⟩
  dt : dtO ⟨R, R, G⟩ = some D
  d0 : 0 < D
  li : l = qsP D P R
  pl : P.length = R
  pc : ∀ i, i < R → nth P i = sumN R fun j => nth A (i * R + j) * (sumN C fun k => fnOf C b.l j k * nth t k)
  pn : ∀ i, i < R → isNum (nth P i) = true
  un : ∀ i, i < R → isNum (sumN C fun k => fnOf C b.l i k * nth t k) = true
theorem prj_parts {b : MX} {t : List Int} {l : List Q2} (h : prjO b t = some l) : ∃ R C G A P D, PrjF b t l R C G A P D := by
  unfold prjO at h
  split at h
  rotate_left
  · cases h
  rename_i hh
  simp only [Bool.and_eq_true, decide_eq_true_eq] at hh
  obtain ⟨⟨⟨hg, htc⟩, ha⟩, hd⟩ := hh
  obtain ⟨g, hg⟩ := Option.isSome_iff_exists.1 hg
  rw [hg] at ha hd h
  obtain ⟨a, ha⟩ := Option.isSome_iff_exists.1 ha
  change adjO g = some a at ha
  change isDef g.r g.c g.l = true at hd
  have hg2 := hg
  unfold gmO at hg2
  split at hg2
  rotate_left
  · cases hg2
  rename_i hk
  have hk2 := hk
  unfold gmOk at hk2
  rw [Bool.and_eq_true] at hk2
  obtain ⟨R, C, e1, e2, hR, hC, hl, hn⟩ := isMat_nat hk2.1
  obtain ⟨br, bc, bl⟩ := b
  simp only at e1 e2 hg2 htc h hl hn
  subst e1 e2
  simp only [Int.toNat_natCast] at hg2
  cases hg2
  obtain ⟨p, hp, h4⟩ := Option.bind_eq_some_iff.1 h
  obtain ⟨q, hq, rfl⟩ := Option.map_eq_some_iff.1 h4
  rw [show oM (adjO (oM (some (⟨R, R, gmL R C bl⟩ : MX)))) = a by show oM (adjO ⟨R, R, gmL R C bl⟩) = a; rw [ha]; rfl] at hq
  obtain ⟨D, hdt, hD0⟩ := isDef_det hd
  have hdt : dtO ⟨R, R, gmL R C bl⟩ = some D := hdt
  have hac : a = ⟨R, R, a.l⟩ := by
    have h5 := ha
    unfold adjO at h5
    split at h5
    · cases h5; rfl
    · cases h5
  rw [hac] at hq ha
  have htl : t.length = C := by omega
  have hp2 : mulO ⟨R, C, bl⟩ ⟨C, 1, t⟩ = some p := by
    have e : colM t = ⟨C, 1, t⟩ := by unfold colM; rw [htl]
    rw [← e]; exact hp
  obtain ⟨p1, p2, p3, p4⟩ := mulO_cells (R := R) (K := C) (C := 1) hp2
  have hpe : p = ⟨R, (1 : Nat), p.l⟩ := by obtain ⟨_, _, _⟩ := p; simp only at p1 p2; subst p1 p2; rfl
  rw [hpe] at hq
  obtain ⟨q1, q2, q3, q4⟩ := mulO_cells (R := R) (K := R) (C := 1) hq
  have hqn := (isMat_ok (mulO_ok hq))
  obtain ⟨_, _, _, _, _, _, _, hqn⟩ := hqn
  rw [Nat.mul_one] at q3
  refine ⟨R, C, gmL R C bl, a.l, q.l, D, ⟨rfl, rfl, htl, by rw [hg]; rfl, fun i j hi hj => ?_, hd, ha, hdt, hD0, ?_, q3, fun i hi => ?_, fun i hi => hqn i (by omega), fun i hi => ?_⟩⟩
  · unfold fnOf
    have t1 : nth (gmL R C bl) (i * R + j) = dotTo bl (trL R C bl) C R i j C := tab_nth (fun i j => dotTo bl (trL R C bl) C R i j C) hi hj
    rw [t1, dotTo_sum]
    refine sumN_congr fun k hk => ?_
    have t2 : nth (trL R C bl) (k * R + j) = nth bl (j * C + k) := tab_nth (fun j i => nth bl (i * C + j)) hk hj
    rw [t2]
  · have e : (dtO (oM (some (⟨R, R, gmL R C bl⟩ : MX)))).getD 0 = D := by show (dtO ⟨R, R, gmL R C bl⟩).getD 0 = D; rw [hdt]; rfl
    rw [e, q3]
  · have := q4 i 0 hi (by omega)
    rw [Nat.mul_one, Nat.add_zero] at this
    rw [this]
    refine sumN_congr fun j hj => ?_
    have := p4 j 0 hj (by omega)
    rw [Nat.mul_one, Nat.add_zero] at this ⊢
    rw [this]
    unfold fnOf
    congr 1
    exact sumN_congr fun k _ => by rw [Nat.mul_one, Nat.add_zero]
  · obtain ⟨_, _, _, _, _, _, _, hpn⟩ := isMat_ok (mulO_ok hp2)
    have e := p4 i 0 hi (by omega)
    rw [Nat.mul_one, Nat.add_zero] at e
    have e2 : (sumN C fun k => fnOf C bl i k * nth t k) = nth p.l i := by
      rw [e]
      exact sumN_congr fun k _ => by unfold fnOf; rw [Nat.mul_one, Nat.add_zero]
    show isNum (sumN C fun k => fnOf C bl i k * nth t k) = true
    rw [e2]
    exact hpn i (by rw [p3, Nat.mul_one]; exact hi)

/-! ### the list -/
theorem clJ_best {d : List Int → Int} {ok : List Int → Bool} {rows : List (List Int)} {best : Int} {n : Nat} : (clJ d ok rows best n).2 ≤ best ∧ (∀ j, j < n → ok (rows.getD j []) = true → (clJ d ok rows best n).2 ≤ d (rows.getD j [])) ∧
    (clJ d ok rows best n).1 = (List.range n).filter fun j => ok (rows.getD j []) && decide (d (rows.getD j []) = (clJ d ok rows best n).2) := by
  induction n with
  | zero => exact ⟨Int.le_refl _, fun j hj => by omega, rfl⟩
  | succ n ih =>
    obtain ⟨h1, h2, h3⟩ := ih
    rw [clJ]
    generalize clJ d ok rows best n = st at *
    cases hok : ok (rows.getD n [])
    · rw [clT_no]
      refine ⟨h1, fun j hj hj2 => ?_, ?_⟩
      · by_cases e : j = n
        · rw [e, hok] at hj2; cases hj2
        · exact h2 j (by omega) hj2
      · rw [List.range_succ, List.filter_append, ← h3]
        have hok' := hok
        simp only [List.getD_eq_getElem?_getD] at hok'
        simp [List.filter_cons, hok']
    · rcases Int.lt_trichotomy (d (rows.getD n [])) st.2 with hlt | heq | hgt
      · rw [clT_less hlt]
        refine ⟨by simp only; omega, fun j hj hj2 => ?_, ?_⟩
        · by_cases e : j = n
          · rw [e]; exact Int.le_refl _
          · have := h2 j (by omega) hj2
            simp only; omega
        · rw [List.range_succ, List.filter_append]
          have e1 : (List.range n).filter (fun j => ok (rows.getD j []) && decide (d (rows.getD j []) = d (rows.getD n []))) = [] := by
            refine List.filter_eq_nil_iff.2 fun j hj hj2 => ?_
            rw [Bool.and_eq_true, decide_eq_true_eq] at hj2
            have := h2 j (List.mem_range.1 hj) hj2.1
            omega
          simp only
          rw [e1]
          have hok' := hok
          simp only [List.getD_eq_getElem?_getD] at hok'
          simp [List.filter_cons, hok']
      · rw [clT_same heq]
        refine ⟨h1, fun j hj hj2 => ?_, ?_⟩
        · by_cases e : j = n
          · rw [e]; simp only; omega
          · exact h2 j (by omega) hj2
        · rw [List.range_succ, List.filter_append]
          simp only
          rw [← h3]
          have hok' := hok
          have heq' := heq
          simp only [List.getD_eq_getElem?_getD] at hok' heq'
          simp [List.filter_cons, hok', heq']
      · rw [clT_far hgt]
        refine ⟨h1, fun j hj hj2 => ?_, ?_⟩
        · by_cases e : j = n
          · rw [e]; omega
          · exact h2 j (by omega) hj2
        · rw [List.range_succ, List.filter_append, ← h3]
          have hne : ¬ d (rows.getD n []) = st.2 := by omega
          have hok' := hok
          simp only [List.getD_eq_getElem?_getD] at hok' hne
          simp [List.filter_cons, hok', hne]
theorem clJ_nil {d : List Int → Int} {ok : List Int → Bool} {rows : List (List Int)} {best : Int} {n : Nat} (h : (clJ d ok rows best n).1 = []) : (clJ d ok rows best n).2 = best := by
  induction n with
  | zero => rfl
  | succ n ih =>
    rw [clJ] at h ⊢
    generalize clJ d ok rows best n = st at *
    unfold clT at h ⊢
    split at h <;> rename_i hk
    · split at h <;> rename_i h2
      · cases h
      · split at h <;> rename_i h3
        · simp at h
        · rw [if_pos hk, if_neg h2, if_neg h3]; exact ih h
    · rw [if_neg hk]; exact ih h
theorem range_rows (rows : List (List Int)) : (List.range rows.length).map (fun j => rows.getD j []) = rows := by
  refine List.ext_getElem (by simp) fun i h1 h2 => ?_
  simp [List.getD, h2]
/-- what ClosestTo lists -/
structure CloF (b : MX) (t : List Int) (L : List (List Int)) (d : Int) (R C : Nat) (l : List Q2) (s : List Int) : Prop where
  br : b.r = R
  bc : b.c = C
  tl : t.length = C
  prj : prjO b t = some l
  ll : l.length = R
  rk : dK b t (rndL l) = true
  best : d ≤ dF b t (rndL l)
  list : L = (clR b t l s).filter fun v => dK b t v && decide (dF b t v = d)
  mem : ∀ y, dK b t y = true → dF b t y ≤ dF b t (rndL l) → y ∈ clR b t l s
  min : ∀ y, dK b t y = true → d ≤ dF b t y
  ne : L ≠ []
  bx : boxO (oM (gmO b)) (dF b t (rndL l)) = some s
  bb : boxB (lowL l s l.length) (highL l s l.length) l.length = true
theorem clo_facts {b : MX} {t : List Int} {L : List (List Int)} {d : Int} (h : closO b t = some (L, d)) : ∃ R C l s, CloF b t L d R C l s := by
  unfold closO at h
  obtain ⟨l, hl, h2⟩ := Option.bind_eq_some_iff.1 h
  unfold closL at h2
  split at h2
  rotate_left
  · cases h2
  rename_i hrk
  obtain ⟨s, hs, h4⟩ := Option.bind_eq_some_iff.1 h2
  unfold closS at h4
  split at h4
  rotate_left
  · cases h4
  rename_i hB
  have h5 : clO b t l s = (L, d) := Option.some.inj h4
  have hbx := hs
  obtain ⟨R, C, G, A, P, D, F⟩ := prj_parts hl
  have hll : l.length = R := by rw [F.li, qsP_length]
  have hmem : ∀ y, dK b t y = true → dF b t y ≤ dF b t (rndL l) → y ∈ clR b t l s := fun y hy hle => by
    obtain ⟨br, bc, bl⟩ := b
    have e1 := F.br
    have e2 := F.bc
    simp only at e1 e2
    subst e1 e2
    obtain ⟨hyl, _, hyd⟩ := dVal_dist (b := bl) (x := y) (t := t) hy
    have hyd : dF ⟨R, C, bl⟩ t y = distF R C (fnOf C bl) (nth t) (nth y) := hyd
    unfold clR
    refine boxF_mem (by omega) fun i hi => ?_
    rw [lowL_nth hi, highL_nth hi]
    rw [hll] at hi
    obtain ⟨n, rfl⟩ : ∃ n, R = n + 1 := ⟨R - 1, by omega⟩
    rw [F.gm] at hs
    obtain ⟨hd, he0, _, a, d', ha, hdt, hd0, hx⟩ := boxO_parts hs
    have ea := F.ad
    rw [ha] at ea
    have ea : a = ⟨_, _, A⟩ := Option.some.inj ea
    subst ea
    have ed := F.dt
    rw [hdt] at ed
    have ed : d' = D := Option.some.inj ed
    subst ed
    obtain ⟨PF, hDp⟩ := def_posF hd
    obtain ⟨b1, b2⟩ := bxP_nth hx hi
    rw [adj_cell ha hi] at b1 b2
    have hdd : dets (n + 1) (fnOf (n + 1) G) = d' := by
      rw [dtO_yes (isDef_sq hd)] at hdt
      exact detO_dets _ _ _ hdt
    have hdn : isNum d' = true := dtO_num hdt
    rw [F.li, qsP_nth hi, (makeQ_floor (F.pn i hi) hdn hd0).2, b1]
    have hG : ∀ i j, i < n + 1 → j < n + 1 → fnOf (n + 1) G i j = sumN C fun k => fnOf C bl i k * fnOf C bl j k := F.gc
    have ec : cof n (fnOf (n + 1) G) i i = cof n (fun i j => sumN C fun k => fnOf C bl i k * fnOf C bl j k) i i := by
      unfold cof
      congr 1
      exact dets_congr fun a b ha hb => hG _ _ (skip_lt ha (by omega)) (skip_lt hb (by omega))
    have PF' : PosF (n + 1) fun i j => sumN C fun k => fnOf C bl i k * fnOf C bl j k := by
      refine ⟨fun i j hi hj => by rw [← hG i j hi hj, ← hG j i hj hi]; exact PF.sym i j hi hj, fun v hv => ?_⟩
      have := PF.pos v hv
      have e : qf (n + 1) (fnOf (n + 1) G) v = qf (n + 1) (fun i j => sumN C fun k => fnOf C bl i k * fnOf C bl j k) v := by
        unfold qf
        exact sumN_congr fun i hi => sumN_congr fun j hj => by rw [hG i j hi hj]
      rwa [e] at this
    have hdd' : dets (n + 1) (fun i j => sumN C fun k => fnOf C bl i k * fnOf C bl j k) = d' := by
      rw [← hdd]
      exact dets_congr fun a b ha hb => (hG a b ha hb).symm
    have hcb := close_box (B := fnOf C bl) (t := nth t) (P := nth P) (y := nth y) PF' hdd' hd0 (fun r hr => ?_) hi
    · rw [ec]
      have hcof : 0 ≤ cof n (fun i j => sumN C fun k => fnOf C bl i k * fnOf C bl j k) i i := by
        rw [← ec]
        have hk := box_cell PF hDp (fun j => if j = i then 1 else 0) hi
        rw [hdd, if_pos rfl] at hk
        have hp := PF.pos (fun j => if j = i then 1 else 0) ⟨i, hi, by rw [if_pos rfl]; decide⟩
        refine Classical.byContradiction fun hneg => ?_
        have := Int.mul_neg_of_pos_of_neg hp (show cof n (fnOf (n + 1) G) i i < 0 by omega)
        omega
      have hdn0 : 0 ≤ distF (n + 1) C (fnOf C bl) (nth t) (nth y) := by
        unfold distF
        exact sumN_geZ fun k _ => by
          generalize (sumN (n + 1) fun i => nth y i * fnOf C bl i k) - nth t k = z
          rcases Int.le_total 0 z with h | h
          · exact Int.mul_nonneg h h
          · exact Int.mul_nonneg_of_nonpos_of_nonpos h h
      exact close_in hd0 hcof hdn0 (by rw [← hyd]; exact hle) hcb
    · have e3 : ∀ j, j < n + 1 → nth P j = sumN (n + 1) fun i => cof n (fun i j => sumN C fun k => fnOf C bl i k * fnOf C bl j k) i j * (sumN C fun k => fnOf C bl i k * nth t k) := fun j hj => by
        rw [F.pc j hj]
        refine sumN_congr fun i hi => ?_
        rw [adj_cellG ha hi hj]
        congr 1
        unfold cof
        congr 1
        exact dets_congr fun a b ha hb => hG _ _ (skip_lt ha (by omega)) (skip_lt hb (by omega))
      rw [sumN_congr fun j hj => by rw [e3 j hj, ← sumN_mul]]
      rw [sumN_swap]
      rw [sumN_congr (g := fun i => (sumN (n + 1) fun j => (sumN C fun k => fnOf C bl r k * fnOf C bl j k) * cof n (fun i j => sumN C fun k => fnOf C bl i k * fnOf C bl j k) i j) * (sumN C fun k => fnOf C bl i k * nth t k)) fun i hi => by
        rw [Int.mul_comm, ← sumN_mul]
        exact sumN_congr fun j hj => by ac_rfl]
      rw [sumN_congr (g := fun i => (if r = i then d' else 0) * (sumN C fun k => fnOf C bl i k * nth t k)) fun i hi => by
        have e4 : (sumN (n + 1) fun j => (sumN C fun k => fnOf C bl r k * fnOf C bl j k) * cof n (fun i j => sumN C fun k => fnOf C bl i k * fnOf C bl j k) i j) = if r = i then dets (n + 1) (fun i j => sumN C fun k => fnOf C bl i k * fnOf C bl j k) else 0 := cramer n (fun i j => sumN C fun k => fnOf C bl i k * fnOf C bl j k) hi hr
        rw [e4, hdd']]
      rw [sumN_only (k := r) hr fun i _ hne => by show (if r = i then d' else 0) * _ = 0; rw [if_neg (fun e => hne e.symm), Int.zero_mul]]
      show (if r = r then d' else 0) * _ = _
      rw [if_pos rfl]
  have hJ := clJ_best (d := dF b t) (ok := dK b t) (rows := clR b t l s) (best := dF b t (rndL l)) (n := (clR b t l s).length)
  unfold clO at h5
  obtain ⟨h6, h7⟩ := Prod.mk.inj h5
  rw [h7] at hJ
  obtain ⟨j1, j2, j3⟩ := hJ
  have hL : L = (clR b t l s).filter fun v => dK b t v && decide (dF b t v = d) := by
    rw [j3] at h6
    rw [← h6]
    have := (List.filter_map (l := List.range (clR b t l s).length) (f := fun j => (clR b t l s).getD j []) (p := fun v => dK b t v && decide (dF b t v = d)))
    rw [range_rows] at this
    rw [this]
    rfl
  refine ⟨R, C, l, s, F.br, F.bc, F.tl, hl, hll, hrk, j1, hL, hmem, fun y hy => ?_, fun e => ?_, hbx, hB⟩
  · refine Classical.byContradiction fun hn => ?_
    have hm := hmem y hy (by omega)
    obtain ⟨j, hj, e⟩ := List.getElem_of_mem hm
    have := j2 j hj (by simp [List.getD, hj, e, hy])
    simp [List.getD, hj, e] at this
    omega
  · have hnil : (clJ (dF b t) (dK b t) (clR b t l s) (dF b t (rndL l)) (clR b t l s).length).1 = [] := by
      rw [e] at h6
      exact List.map_eq_nil_iff.1 h6
    have hb := clJ_nil hnil
    rw [h7] at hb
    have h2 : rndL l ∈ L := by
      rw [hL, List.mem_filter]
      exact ⟨hmem _ hrk (Int.le_refl _), by rw [hrk, hb]; simp⟩
    rw [e] at h2
    cases h2
/-- what FnClosest needs -/
structure ClN (b : MX) (t : List Int) (L : List (List Int)) (d : Int) (x : List Int) : Prop where
  rnd : rndO b t = some x
  xl : x.length ≤ 6
  best : d ≤ dF b t x
  ne : L ≠ []
  len : L.length ≤ 4000
  row : ∀ i (hi : i < L.length), L[i].length ≤ 6 ∧ (∀ k, -400000000 ≤ nth L[i] k ∧ nth L[i] k ≤ 400000000) ∧ dK b t L[i] = true ∧ dF b t L[i] = d
  min : ∀ y, dK b t y = true → d ≤ dF b t y
theorem clo_names {b : MX} {t : List Int} {L : List (List Int)} {d : Int} (h : closO b t = some (L, d)) : ∃ x, ClN b t L d x := by
  obtain ⟨R, C, l, s, F⟩ := clo_facts h
  have hB : L.length ≤ 4000 ∧ l.length ≤ 6 := by
    have h2 := h
    rw [closO_some F.prj.symm] at h2
    unfold closL at h2
    rw [F.rk, if_pos rfl] at h2
    obtain ⟨s', hs, h4⟩ := Option.bind_eq_some_iff.1 h2
    unfold closS at h4
    split at h4
    · rename_i hb
      have e : clO b t l s' = (L, d) := Option.some.inj h4
      have := clO_len (b := b) (t := t) hb
      rw [e] at this
      exact ⟨this, (prj_box F.prj.symm hs.symm).2⟩
    · cases h4
  refine ⟨rndL l, by unfold rndO; rw [F.prj]; rfl, by rw [rndL_length]; exact hB.2, F.best, F.ne, hB.1, fun i hi => ?_, F.min⟩
  have hm : L[i] ∈ L := List.getElem_mem hi
  generalize L[i] = y at *
  rw [F.list, List.mem_filter, Bool.and_eq_true, decide_eq_true_eq] at hm
  obtain ⟨_, hk, hd⟩ := hm
  have hy : y.length = R ∧ allNum y = true := by
    have h3 := hk
    unfold dK dOk at h3
    simp only [Bool.and_eq_true] at h3
    have h4 := h3.1.1.1
    unfold mulOk at h4
    simp only [Bool.and_eq_true, beq_iff_eq] at h4
    have hb := F.br
    refine ⟨?_, ((isMat_iff _ _ _).1 h4.1.1.1).2.2.2⟩
    have := h4.1.2
    omega
  have hl := F.ll
  refine ⟨by omega, fun k => ?_, hk, hd⟩
  by_cases hk' : k < y.length
  · exact (isNum_iff _).1 ((allNum_iff _).1 hy.2 k hk')
  · rw [nth_out _ _ (by omega)]; omega
end Go.Proofs.Ythajmffhgbenpaa
