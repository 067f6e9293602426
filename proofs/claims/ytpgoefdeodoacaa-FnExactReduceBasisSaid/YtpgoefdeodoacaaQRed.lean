/- Contracts and lemmas, put together. -/
import Derived.Test.YtpgoefdeodoacaaQCof
/- Contracts: whether a form is reduced. -/
namespace Go.Proofs.Ytpgoefdeodoacaa
set_option linter.unusedSimpArgs false
set_option linter.unusedVariables false
open Go.RowKit

/-- the first cells of a row: none if |m| is at most 1/2 at each, else whether that is known of the first that is not -/
def halfR (row : List Q2) : Nat → Option Bool
  | 0 => none
  | j + 1 => match halfR row j with
    | some k => some k
    | none => if okQ (nthQ row j) = false then some false else if (nthQ row j).2 < 2 * absI (nthQ row j).1 then some true else none
def ordQ (m last sq : Q2) : Int := cmpQ sq (mulQ (addQ (3, 4) (negQ (mulQ m m))) last)
theorem cmpQ_four (a b : Q2) : cmpQ a b = -1 ∨ cmpQ a b = 0 ∨ cmpQ a b = 1 ∨ cmpQ a b = 2 := by
  unfold cmpQ
  repeat' split
  all_goals omega
def ordS (s : List (List Q2) × List Q2) (i : Nat) : Int := ordQ (nthQ (s.1.getD i []) (i - 1)) (nthQ s.2 (i - 1)) (nthQ s.2 i)
def rdcF (s : List (List Q2) × List Q2) : Nat → Option Bool
  | 0 => none
  | i + 1 => match rdcF s i with
    | some k => some k
    | none => match halfR (s.1.getD i []) i with
      | some k => some k
      | none => if i = 0 then none else if ordS s i = 0 ∨ ordS s i = 1 then none else some (decide (ordS s i ≠ 2))
def rdcO (g : MX) : Bool × Bool :=
  if isDef g.r g.c g.l then
    match accF g.r.toNat g.l g.r.toNat with
    | none => (false, false)
    | some s => match rdcF s g.r.toNat with
      | none => (true, true)
      | some k => (false, k)
  else (false, false)
theorem halfR_some {row : List Q2} {j n : Nat} {k : Bool} (h : halfR row j = some k) (hn : j ≤ n) : halfR row n = some k := by
  induction n with
  | zero => obtain rfl : j = 0 := by omega
            exact h
  | succ n ih =>
    by_cases e : j = n + 1
    · rw [← e]; exact h
    · rw [halfR, ih (by omega)]
theorem halfR_bad {row : List Q2} {j : Nat} (h : halfR row j = none) (h2 : okQ (nthQ row j) = false) : halfR row (j + 1) = some false := by rw [halfR, h]; simp [h2]
theorem halfR_big {row : List Q2} {j : Nat} (h : halfR row j = none) (h2 : okQ (nthQ row j) = true) (h3 : (nthQ row j).2 < 2 * absI (nthQ row j).1) : halfR row (j + 1) = some true := by rw [halfR, h]; simp [h2, h3]
theorem halfR_ok {row : List Q2} {j : Nat} (h : halfR row j = none) (h2 : okQ (nthQ row j) = true) (h3 : ¬ (nthQ row j).2 < 2 * absI (nthQ row j).1) : halfR row (j + 1) = none := by rw [halfR, h]; simp [h2, h3]
theorem rdcF_some {s : List (List Q2) × List Q2} {i n : Nat} {k : Bool} (h : rdcF s i = some k) (hn : i ≤ n) : rdcF s n = some k := by
  induction n with
  | zero => obtain rfl : i = 0 := by omega
            exact h
  | succ n ih =>
    by_cases e : i = n + 1
    · rw [← e]; exact h
    · rw [rdcF, ih (by omega)]
theorem rdcF_half {s : List (List Q2) × List Q2} {i : Nat} {k : Bool} (h : rdcF s i = none) (h2 : halfR (s.1.getD i []) i = some k) : rdcF s (i + 1) = some k := by rw [rdcF, h]; simp only [h2]
theorem rdcF_zero {s : List (List Q2) × List Q2} : rdcF s 1 = none := by rw [rdcF, rdcF]; simp [halfR]
theorem rdcF_ord {s : List (List Q2) × List Q2} {i : Nat} (hi : 0 < i) (h : rdcF s i = none) (h2 : halfR (s.1.getD i []) i = none) : rdcF s (i + 1) = if ordS s i = 0 ∨ ordS s i = 1 then none else some (decide (ordS s i ≠ 2)) := by
  rw [rdcF, h]; simp only [h2]; rw [if_neg (by omega)]
theorem rdcO_no {g : MX} (h : isDef g.r g.c g.l = false) : rdcO g = (false, false) := by unfold rdcO; rw [h]; rfl
theorem rdcO_yes {R : Nat} {l : List Int} (h : isDef R R l = true) : rdcO ⟨R, R, l⟩ = match accF R l R with
    | none => (false, false)
    | some s => match rdcF s R with
      | none => (true, true)
      | some k => (false, k) := by
  unfold rdcO
  simp only [h, if_true, Int.toNat_natCast]

section
set_option maxHeartbeats 4000000
theorem inOrder_c (s : List (List Q2) × List Q2) (R k : Nat) (Am As : Option Addr) (cm cs : Nat) (w : World) (hl1 : s.1.length = R) (hl2 : s.2.length = R) (hrow : ∀ j, j < R → (s.1.getD j []).length = j) (hR : R ≤ 24) (h0 : 0 < k) (hk : k < R) (hm : RdR RSQ w Am s.1) (hs : RdQ w As s.2) :
    Calls Try.prog 166 #[.agg #[.slice Am R cm, .slice As R cs], .int .i64 k] w fun e w' => e = .returned (.tuple #[.bool (ordS s k == 0 || ordS s k == 1), .bool (ordS s k != 2)]) ∧ Grows w w' := by
  obtain ⟨w1, hw1⟩ : ∃ w1, w1 = w.alloc (.cells #[.slice Am R cm, .slice As R cs] 85) := ⟨_, rfl⟩
  have mo : SBox w1 w.heap.size (.slice Am R cm) (.slice As R cs) := by rw [hw1]; exact SBox.new_ _ _ _ _ rfl
  have HG : Grows w w1 := by rw [hw1]; exact bel0
  have HW1 := Lib.hid hw1
  have hm1 := hm.grows RSQ.good HG
  have hs1 := hs.grows HG
  obtain ⟨bm, fm, Aj, cj, rfl, hbm, m0, hrj, hcj⟩ := hm1.rowQ k (by rw [hl1]; exact hk)
  rw [hrow k hk] at m0 hcj
  obtain ⟨bj, fj, rfl, hbj, j0, j1⟩ := hrj.at_ (k - 1) (by rw [hrow k hk]; omega)
  obtain ⟨bs, fs, rfl, hbs, s0, s1⟩ := hs1.at_ (k - 1) (by rw [hl2]; omega)
  obtain ⟨bs', fs', e', _, u0, u1⟩ := hs1.at_ k (by rw [hl2]; exact hk)
  cases e'
  have hord : ordS s k = cmpQ (nthQ s.2 k) (mulQ (subQ (3, 4) (mulQ (nthQ (s.1.getD k []) (k - 1)) (nthQ (s.1.getD k []) (k - 1)))) (nthQ s.2 (k - 1))) := rfl
  have CM1 := fun W => iMultiplyRatios_c (nthQ (s.1.getD k []) (k - 1)) (nthQ (s.1.getD k []) (k - 1)) W
  have CS := fun W => sub_c (3, 4) (mulQ (nthQ (s.1.getD k []) (k - 1)) (nthQ (s.1.getD k []) (k - 1))) W
  have CM2 := fun W => iMultiplyRatios_c (subQ (3, 4) (mulQ (nthQ (s.1.getD k []) (k - 1)) (nthQ (s.1.getD k []) (k - 1)))) (nthQ s.2 (k - 1)) W
  have CC := fun W => iCmp_c (nthQ s.2 k) (mulQ (subQ (3, 4) (mulQ (nthQ (s.1.getD k []) (k - 1)) (nthQ (s.1.getD k []) (k - 1)))) (nthQ s.2 (k - 1))) W
  rw [← hord] at CC
  have hc4 : ordS s k = -1 ∨ ordS s k = 0 ∨ ordS s k = 1 ∨ ordS s k = 2 := cmpQ_four _ _
  generalize ordS s k = C at *
  have HC4 := Lib.hid hc4
  clear hc4
  generalize mulQ (subQ (3, 4) (mulQ (nthQ (s.1.getD k []) (k - 1)) (nthQ (s.1.getD k []) (k - 1)))) (nthQ s.2 (k - 1)) = y3 at *
  generalize subQ (3, 4) (mulQ (nthQ (s.1.getD k []) (k - 1)) (nthQ (s.1.getD k []) (k - 1))) = y2 at *
  generalize mulQ (nthQ (s.1.getD k []) (k - 1)) (nthQ (s.1.getD k []) (k - 1)) = y1 at *
  generalize nthQ (s.1.getD k []) (k - 1) = a at *
  generalize nthQ s.2 (k - 1) = d at *
  generalize nthQ s.2 k = u at *
  have CM1' := Lib.hid CM1
  have CM2' := Lib.hid CM2
  have CS' := Lib.hid CS
  have CC' := Lib.hid CC
  have hk1 : IntKind.i64.wrap ((k : Int) - 1) = (k : Int) - 1 := IntWalk.i64_in _ (by omega)
  obtain ⟨k', rfl⟩ : ∃ k', k = k' + 1 := ⟨k - 1, by omega⟩
  simp only [Nat.add_sub_cancel] at j0 j1 s0 s1
  have hkc : ((k' + 1 : Nat) : Int) = (k' : Int) + 1 := by omega
  have hk2 : ((k' : Int) + 1 - 1) = (k' : Int) := by omega
  have hk3 : (k' : Int) + 1 < (R : Int) := by omega
  have hk4 : (k' : Int) < (R : Int) := by omega
  have hk5 : ((k' : Int) + 1).toNat = k' + 1 := by omega
  have hk6 : IntKind.i64.wrap ((k' : Int) + 1 - 1) = (k' : Int) := by rw [hk2]; exact IntWalk.i64_in _ (by omega)
  have hk7 : IntKind.i64.wrap (k' : Int) = (k' : Int) := IntWalk.i64_in _ (by omega)
  have hk8 : ¬ ((k' : Int) < 0) := by omega
  have hk9 : (0 : Int) ≤ (k' : Int) := by omega
  clear hw1 hord CM1 CM2 CS CC hl1 hl2 hrow
  obtain ⟨o0, o1⟩ := mo.cells
  go_enter Try.func166, Try.ntmps166
  go_upto_region 1 with fail
  rw [← HW1.out]
  go_wp2_with fail
  obtain ⟨wj, hwj⟩ : ∃ wj, wj = w1.alloc (.cells #[.int .i64 a.1, .int .i64 a.2] 62) := ⟨_, rfl⟩
  rw [← hwj]
  have g1j : Grows w1 wj := by rw [hwj]; exact bel0
  have qa : QBox wj w1.heap.size a := by rw [hwj]; exact QBox.new_ _ _ _ rfl
  have moj := mo.grows g1j
  have s0j := ((bcell g1j).1 bs (fs + k' * 2) hbs).trans s0
  have s1j := ((bcell g1j).1 bs (fs + k' * 2 + 1) hbs).trans s1
  have u0j := ((bcell g1j).1 bs (fs + (k' + 1) * 2) hbs).trans u0
  have u1j := ((bcell g1j).1 bs (fs + (k' + 1) * 2 + 1) hbs).trans u1
  have hbsj : bs < wj.heap.size := by have := Below.size g1j; omega
  have HK := Lib.hid fun W (g : Grows wj W) => acc_keep (qa.grows g) (moj.grows g) (((bcell g).1 bs (fs + k' * 2) hbsj).trans s0j) (((bcell g).1 bs (fs + k' * 2 + 1) hbsj).trans s1j)
  clear hwj o0 o1 m0 j0 j1 s0 s1 u0 u1
  obtain ⟨a0, a1⟩ := qa.cells
  obtain ⟨o0, o1⟩ := moj.cells
  go_cut [7] (fun s7 wx => ∃ (g : Nat), s7 = .pointer (some ⟨g, 0, none⟩) ∧ QBox wx g y3 ∧ Grows wj wx)
  case first =>
    go_region_held3 (fun W => W.cell? ⟨w1.heap.size, 0, none⟩ = some (.int .i64 a.1) ∧ W.cell? ⟨w1.heap.size, 1, none⟩ = some (.int .i64 a.2) ∧ W.cell? ⟨w.heap.size, 1, none⟩ = some (.slice (some ⟨bs, fs, none⟩) R cs) ∧ W.cell? ⟨bs, fs + k' * 2, none⟩ = some (.int .i64 d.1) ∧ W.cell? ⟨bs, fs + k' * 2 + 1, none⟩ = some (.int .i64 d.2)) ((refine HK.out _ ?_; first | exact bel3 g8 g7 g6 | exact bel2 g7 g6 | exact bel1 g6 | exact bel0))
      (first
       | (go_at_call 163; (with_reducible refine (CM1'.out _).mono ?_); rintro e w6 ⟨rfl, g6⟩; have z6 := Below.size g6; (try simp at z6); (try (have q := QBox.grows (QBox.new_ wj (0, 0) 62 rfl) (w' := w6) (Grows.trans (show Grows _ _ from (Below.refl _ _).drew) g6))))
       | (go_at_call 162; (with_reducible refine (CS'.out _).mono ?_); rintro e w7 ⟨rfl, g7⟩; have z7 := Below.size g7; (try simp at z7); (first | (replace q := q.grows g7) | (have q := QBox.grows (QBox.new_ w6 (0, 0) 62 rfl) g7) | skip))
       | (go_at_call 163; (with_reducible refine (CM2'.out _).mono ?_); rintro e w8 ⟨rfl, g8⟩; have z8 := Below.size g8; (try simp at z8); (first | (replace q := q.grows g8) | (have q := QBox.grows (QBox.new_ w7 (0, 0) 62 rfl) g8) | skip); (try (obtain ⟨q0, q1⟩ := q.cells; have qf := q.fz; have ql := q.lt))))
    all_goals
      go_wp2_with fail
      go_meet
      exact ⟨_, rfl, by first | exact QBox.put q _ | exact QBox.new_ _ _ _ rfl | exact QBox.put (QBox.new_ _ (0, 0) _ rfl) _, by exact bel3 g8 g7 g6⟩
  case rest =>
    obtain ⟨g, rfl, qy, gc⟩ := hcut
    have x0 := ext_is ((moj.grows gc).c1)
    have x1 := ext_is (((bcell gc).1 bs (fs + (k' + 1) * 2) hbsj).trans u0j)
    have x2 := ext_is (((bcell gc).1 bs (fs + (k' + 1) * 2 + 1) hbsj).trans u1j)
    have x3 := ext_is qy.c0
    have x4 := ext_is qy.c1
    clear a0 a1 o0 o1
    go_wp2_with fail
    ((refine wp_region_ext (by kernel_rfl) (by kernel_rfl) ?_); (repeat (go_big_quiet_step ((go_at_call 206; with_reducible exact extC (CC'.out _))))); refine wpQuiet_nil ?_; rintro w9 ⟨w90, hw90⟩; have g9 := grows_of_ext hw90; clear hw90 w90)
    rcases HC4.out with rfl | rfl | rfl | rfl
    all_goals
      go_wp2_with fail
      go_ret2
      exact ⟨by simp, by exact bel4 g9 gc g1j HG⟩
theorem l19Good_c (m last sq : Q2) (w : World) :
    Calls Try.prog 84 #[.agg #[.int .i64 m.1, .int .i64 m.2], .agg #[.int .i64 last.1, .int .i64 last.2], .agg #[.int .i64 sq.1, .int .i64 sq.2]] w fun e w' => e = .returned (.tuple #[.bool (ordQ m last sq == 0 || ordQ m last sq == 1), .bool (ordQ m last sq != 2)]) ∧ Grows w w' := by
  obtain ⟨w1, hw1⟩ : ∃ w1, w1 = ((w.alloc (.cells #[.int .i64 m.1, .int .i64 m.2] 62)).alloc (.cells #[.int .i64 last.1, .int .i64 last.2] 62)).alloc (.cells #[.int .i64 sq.1, .int .i64 sq.2] 62) := ⟨_, rfl⟩
  have mm : QBox w1 w.heap.size m := by rw [hw1]; exact ((QBox.new_ w m 62 rfl).grows ((Below.refl _ _).alloc (Nat.le_refl _) _)).grows ((Below.refl _ _).alloc (Nat.le_refl _) _)
  have ml : QBox w1 (w.heap.size + 1) last := by rw [hw1]; exact (QBox.new_ _ last 62 (by simp)).grows ((Below.refl _ _).alloc (Nat.le_refl _) _)
  have ms : QBox w1 (w.heap.size + 1 + 1) sq := by rw [hw1]; exact QBox.new_ _ sq 62 (by simp)
  have HG : Grows w w1 := by rw [hw1]; exact bel0
  have HW1 := Lib.hid hw1
  clear hw1
  have CM1 := Lib.hid fun W => sMultiplyRatios_c m m W
  have CN := Lib.hid fun W => sNeg_c (mulQ m m) W
  have CA := Lib.hid fun W => sAddRatios_c (3, 4) (negQ (mulQ m m)) W
  have CM2 := fun W => sMultiplyRatios_c (addQ (3, 4) (negQ (mulQ m m))) last W
  have CC := fun W => sCmp_c sq (mulQ (addQ (3, 4) (negQ (mulQ m m))) last) W
  have hc4 : ordQ m last sq = -1 ∨ ordQ m last sq = 0 ∨ ordQ m last sq = 1 ∨ ordQ m last sq = 2 := cmpQ_four _ _
  change ∀ W, Calls Try.prog 156 _ W (fun e w' => e = .returned (.int .i64 (ordQ m last sq)) ∧ Grows W w') at CC
  generalize ordQ m last sq = C at *
  have HC4 := Lib.hid hc4
  have CC' := Lib.hid CC
  have CM2' := Lib.hid CM2
  clear hc4 CC CM2
  generalize mulQ (addQ (3, 4) (negQ (mulQ m m))) last = y3 at *
  generalize addQ (3, 4) (negQ (mulQ m m)) = y2 at *
  generalize negQ (mulQ m m) = y1 at *
  generalize mulQ m m = y0 at *
  go_enter Try.func84, Try.ntmps84
  go_upto_region 1 with fail
  rw [← HW1.out]
  obtain ⟨mm_0, mm_1⟩ := mm.cells; have mm_l := mm.lt
  obtain ⟨ml_0, ml_1⟩ := ml.cells; have ml_l := ml.lt
  obtain ⟨ms_0, ms_1⟩ := ms.cells; have ms_l := ms.lt
  go_wp2_with fail
  refine (CM1.out _).mono ?_; rintro e w2 ⟨rfl, g_w2⟩
  have s_w2 := Below.size g_w2; (try simp at s_w2)
  clear mm_0 mm_1 mm_l
  replace mm := mm.grows (w' := w2) (by exact bel1 g_w2)
  obtain ⟨mm_0, mm_1⟩ := mm.cells; have mm_l := mm.lt
  clear ml_0 ml_1 ml_l
  replace ml := ml.grows (w' := w2) (by exact bel1 g_w2)
  obtain ⟨ml_0, ml_1⟩ := ml.cells; have ml_l := ml.lt
  clear ms_0 ms_1 ms_l
  replace ms := ms.grows (w' := w2) (by exact bel1 g_w2)
  obtain ⟨ms_0, ms_1⟩ := ms.cells; have ms_l := ms.lt
  replace HG : Grows w w2 := by exact bel2 g_w2 HG
  have h_w2 := Below.size HG
  go_wp2_with fail
  refine (CN.out _).mono ?_; rintro e w3 ⟨rfl, g_w3⟩
  have s_w3 := Below.size g_w3; (try simp at s_w3)
  clear mm_0 mm_1 mm_l
  replace mm := mm.grows (w' := w3) (by exact bel1 g_w3)
  obtain ⟨mm_0, mm_1⟩ := mm.cells; have mm_l := mm.lt
  clear ml_0 ml_1 ml_l
  replace ml := ml.grows (w' := w3) (by exact bel1 g_w3)
  obtain ⟨ml_0, ml_1⟩ := ml.cells; have ml_l := ml.lt
  clear ms_0 ms_1 ms_l
  replace ms := ms.grows (w' := w3) (by exact bel1 g_w3)
  obtain ⟨ms_0, ms_1⟩ := ms.cells; have ms_l := ms.lt
  replace HG : Grows w w3 := by exact bel2 g_w3 HG
  have h_w3 := Below.size HG
  go_wp2_with fail
  refine (CA.out _).mono ?_; rintro e w4 ⟨rfl, g_w4⟩
  have s_w4 := Below.size g_w4; (try simp at s_w4)
  clear mm_0 mm_1 mm_l
  replace mm := mm.grows (w' := w4) (by exact bel1 g_w4)
  obtain ⟨mm_0, mm_1⟩ := mm.cells; have mm_l := mm.lt
  clear ml_0 ml_1 ml_l
  replace ml := ml.grows (w' := w4) (by exact bel1 g_w4)
  obtain ⟨ml_0, ml_1⟩ := ml.cells; have ml_l := ml.lt
  clear ms_0 ms_1 ms_l
  replace ms := ms.grows (w' := w4) (by exact bel1 g_w4)
  obtain ⟨ms_0, ms_1⟩ := ms.cells; have ms_l := ms.lt
  replace HG : Grows w w4 := by exact bel2 g_w4 HG
  have h_w4 := Below.size HG
  go_upto_region 2 with fail
  obtain ⟨w5, hw5⟩ : ∃ w5, w5 = w4.alloc (.cells #[.int .i64 y2.1, .int .i64 y2.2] 62) := ⟨_, rfl⟩
  have mx : QBox w5 w4.heap.size y2 := by rw [hw5]; exact QBox.new_ _ _ _ rfl
  have g45 : Grows w4 w5 := by rw [hw5]; exact bel0
  rw [← hw5]
  clear hw5
  have s_w5 := Below.size g45; (try simp at s_w5)
  clear mm_0 mm_1 mm_l
  replace mm := mm.grows (w' := w5) (by exact bel1 g45)
  obtain ⟨mm_0, mm_1⟩ := mm.cells; have mm_l := mm.lt
  clear ml_0 ml_1 ml_l
  replace ml := ml.grows (w' := w5) (by exact bel1 g45)
  obtain ⟨ml_0, ml_1⟩ := ml.cells; have ml_l := ml.lt
  clear ms_0 ms_1 ms_l
  replace ms := ms.grows (w' := w5) (by exact bel1 g45)
  obtain ⟨ms_0, ms_1⟩ := ms.cells; have ms_l := ms.lt
  replace HG : Grows w w5 := by exact bel2 g45 HG
  have h_w5 := Below.size HG
  obtain ⟨mx_0, mx_1⟩ := mx.cells; have mx_l := mx.lt
  have x0 := ext_is ms_0
  have x1 := ext_is ms_1
  have x2 := ext_is ml_0
  have x3 := ext_is ml_1
  have x4 := ext_is mx_0
  have x5 := ext_is mx_1
  ((refine wp_region_ext (by kernel_rfl) (by kernel_rfl) ?_); (repeat (go_big_quiet_step ((first | (go_at_call 150; with_reducible exact extC (CM2'.out _)) | (go_at_call 156; with_reducible exact extC (CC'.out _)))))); refine wpQuiet_nil ?_; rintro w9 ⟨w90, hw90⟩; have g9 := grows_of_ext hw90; clear hw90 w90)
  rcases HC4.out with rfl | rfl | rfl | rfl
  all_goals
    go_wp2_with fail
    go_ret2
    exact ⟨by simp, by exact bel2 g9 HG⟩
end
end Go.Proofs.Ytpgoefdeodoacaa
