/- Contracts and lemmas, put together. -/
import Derived.Test.YtfilbjbogggaoaaGreatPkCD
import Derived.Test.YtfilbjbogggaoaaGreatPkDA
import Derived.Test.YtfilbjbogggaoaaGreatPkND
import Derived.Test.YtfilbjbogggaoaaGreatPkRAD
import Derived.Test.YtfilbjbogggaoaaGreatPkRXD
import Derived.Test.YtfilbjbogggaoaaGreatPkXD
/- Plain: how many short vectors there are at most, and how long they are. -/
namespace Go.Proofs.YtfilbjbogggaoaaGreat
set_option linter.unusedSimpArgs false
set_option linter.unusedVariables false
open Go.RowKit

theorem shvO_rows {g : MX} {b : Int} {s : List KV} (h : shvO g b = some s) : ∃ x, boxO g b = some x ∧ boxB (negL x) x x.length = true ∧ s = putsK [] (shL g b (boxF (negL x) x x.length)) := by
  unfold shvO at h
  obtain ⟨x, h1, h2⟩ := Option.bind_eq_some_iff.1 h
  split at h2
  · rename_i hh
    cases h2
    exact ⟨x, h1, hh, rfl⟩
  · cases h2
theorem shvO_len {g : MX} {b : Int} {s : List KV} (h : shvO g b = some s) : s.length ≤ 4000 := by
  obtain ⟨x, _, h2, rfl⟩ := shvO_rows h
  rw [(putsK_perm (l := []) (r := shL g b (boxF (negL x) x x.length))).length_eq, List.nil_append]
  unfold shL
  exact Nat.le_trans (List.length_filterMap_le _ _) (boxB_len h2)
theorem shvO_row {g : MX} {b : Int} {s : List KV} (h : shvO g b = some s) {k : KV} (hk : k ∈ s) : k.2.length ≤ 6 := by
  obtain ⟨x, h1, h2, rfl⟩ := shvO_rows h
  have hm : k ∈ shL g b (boxF (negL x) x x.length) := by simpa using (putsK_perm (l := []) (r := shL g b (boxF (negL x) x x.length))).mem_iff.1 hk
  rw [boxF_len (shL_mem hm).1]
  exact boxO_length h1
end Go.Proofs.YtfilbjbogggaoaaGreat

/- Contract: the least value, the program's. -/
namespace Go.Proofs.YtfilbjbogggaoaaGreat
set_option linter.unusedSimpArgs false
set_option linter.unusedVariables false
open Go.RowKit

def oN (o : Option Int) : Int := o.getD 0
def MinRet (o : Option Int) (w : World) (e : Ending) (w' : World) : Prop := e = .returned (.tuple #[.int .i64 (oN o), .bool o.isSome]) ∧ Grows w w'
theorem minO_no {g : MX} (h : isDef g.r g.c g.l = false) : minO g = none := by unfold minO; rw [h]; rfl
theorem minO_zero {c : Int} {l : List Int} : minO ⟨((0 : Nat) : Int), c, l⟩ = none := by unfold minO; simp
theorem minO_nat {R : Nat} {l : List Int} (h : isDef R R l = true) (h0 : 0 < R) : minO ⟨R, R, l⟩ = (shvO ⟨R, R, l⟩ (mnD R l R)).bind (minL ⟨R, R, l⟩) := by
  have h1 : ((R : Int) != 0) = true := by simp; omega
  unfold minO; simp only [h, h1, Bool.and_self, if_true, Int.toNat_natCast]
theorem minL_cons {g : MX} {k : KV} {s : List KV} : minL g (k :: s) = some (vVal g.r g.c g.l k.2) := rfl
theorem mnD_num {R : Nat} {l : List Int} (hl : l.length = R * R) (h : ∀ i, i < l.length → isNum (nth l i) = true) (h0 : 0 < R) {i : Nat} (hi : i ≤ R) : isNum (mnD R l i) = true := by
  induction i with
  | zero => exact h 0 (by rw [hl]; exact Nat.mul_pos h0 h0)
  | succ i ih =>
    have h1 := ih (by omega)
    have h2 := h (i * R + i) (by rw [hl]; exact idx_lt (by omega) (by omega))
    rw [isNum_iff] at *
    rw [mnD]
    omega

theorem iIsDefX_c (r c : Int) (A : Option Addr) (l : List Int) (n cap : Nat) (w : World) (hn : l.length = n) (hcap : n ≤ cap) (hcap2 : cap ≤ 9223372036854775807) (ha : Rd w A l) (hl : n ≤ 1099511627776) :
    Calls Tryz.prog 61 #[.agg #[.int .i64 r, .int .i64 c, .slice A n cap]] w fun e w' => e = .returned (.bool (isDef r c l)) ∧ Grows w w' := iIsDef_c r c A l n cap w hn hcap hcap2 ha hl
theorem iShvX_c (r c b : Int) (A : Option Addr) (l : List Int) (n cap : Nat) (w : World) (hn : l.length = n) (hcap : n ≤ cap) (hcap2 : cap ≤ 9223372036854775807) (ha : Rd w A l) (hl : n ≤ 1099511627776) :
    Calls Tryz.prog 11 #[.agg #[.int .i64 r, .int .i64 c, .slice A n cap], .int .i64 b] w (RowsRet (shvO ⟨r, c, l⟩ b) w) := iShv_c r c b A l n cap w hn hcap hcap2 ha hl
theorem iAt_c (r c : Int) (A : Option Addr) (l : List Int) (n cap : Nat) (i j : Int) (w : World) (hn : l.length = n) (ha : Rd w A l) (h1 : 0 ≤ i * c) (h2 : i * c ≤ 1099511627776) (h3 : 0 ≤ i * c + j) (h4 : i * c + j < l.length) (h5 : l.length ≤ 1099511627776) :
    Calls Tryz.prog 85 #[.agg #[.int .i64 r, .int .i64 c, .slice A n cap], .int .i64 i, .int .i64 j] w fun e w' => e = .returned (.int .i64 (nth l (i * c + j).toNat)) ∧ Grows w w' := at_c r c A l n cap i j w hn ha h1 h2 h3 h4 h5
theorem iRows_out {o : Option (List KV)} {w w' : World} {e : Ending} (h : RowsRet o w e w') : ∃ A c, e = .returned (.tuple #[.slice A (oRows o).length c, .bool o.isSome]) ∧ RdR RSI w' A (oRows o) ∧ Grows w w' := by
  obtain ⟨v, vs, rfl, h1, h2⟩ := h
  obtain ⟨A, c, rfl, h3, _⟩ := h1.val
  exact ⟨A, c, rfl, h3, h2⟩

section
set_option maxHeartbeats 4000000
set_option maxRecDepth 100000
theorem iMin_c (r c : Int) (A : Option Addr) (l : List Int) (n cap : Nat) (w : World) (hn : l.length = n) (hcap : n ≤ cap) (hcap2 : cap ≤ 9223372036854775807) (ha : Rd w A l) (hl : n ≤ 1099511627776) :
    Calls Tryz.prog 23 #[.agg #[.int .i64 r, .int .i64 c, .slice A n cap]] w (MinRet (minO ⟨r, c, l⟩) w) := by
  have CD := fun W h => iIsDefX_c r c A l n cap W hn hcap hcap2 h hl
  have CS := fun b W h => (iShvX_c r c b A l n cap W hn hcap hcap2 h hl)
  have CV := Lib.hid fun (A' : Option Addr) (x : List Int) (c' : Nat) W h h' (hx : x.length ≤ 1099511627776) => iValueAt_c r c A A' l x n x.length cap c' W hn rfl h h' hl hx
  obtain ⟨w1, hw1⟩ : ∃ w1, w1 = w.alloc (.cells #[.int .i64 r, .int .i64 c, .slice A n cap] 26) := ⟨_, rfl⟩
  have ma : MBox w1 w.heap.size r c (.slice A n cap) := by rw [hw1]; exact MBox.mk_ _ _ _ _ _
  have HG : Grows w w1 := by rw [hw1]; exact bel0
  have HS1 : w1.heap.size = w.heap.size + 1 := by rw [hw1]; simp
  have HW1 := Lib.hid hw1
  have ha1 := ha.grows HG
  obtain ⟨RES, hRES⟩ : ∃ x, x = minO ⟨r, c, l⟩ := ⟨_, rfl⟩
  rw [← hRES]
  have HR := Lib.hid hRES
  obtain ⟨D, hD⟩ : ∃ x, x = isDef r c l := ⟨_, rfl⟩
  rw [← hD] at CD
  have CD' := Lib.hid CD
  have CS' := Lib.hid CS
  clear hw1 CD CS hRES
  cases D
  · obtain rfl : RES = none := HR.out.trans (minO_no hD.symm)
    clear hD
    go_enter Tryz.func23, Tryz.ntmps23
    go_wp2_with fail
    rw [← HW1.out]
    have ma_0 := ma.c0; have ma_1 := ma.c1; have ma_2 := ma.c2; have ma_l := ma.lt; have ma_f := ma.fz
    refine (CD'.out _ (by exact Rd.grows ha1 (by exact bel0))).mono ?_; rintro e w2 ⟨rfl, g_w2⟩
    have s_w2 := Below.size g_w2; (try simp at s_w2)
    clear ma_0 ma_1 ma_2 ma_l ma_f
    replace ma := ma.grows (w' := w2) (by exact bel1 g_w2)
    have ma_0 := ma.c0; have ma_1 := ma.c1; have ma_2 := ma.c2; have ma_l := ma.lt; have ma_f := ma.fz
    replace ha1 := ha1.grows (w' := w2) (by exact bel1 g_w2)
    replace HG : Grows w w2 := by exact bel2 g_w2 HG
    have h_w2 := Below.size HG
    go_wp2_with fail
    go_ret2
    exact ⟨rfl, by exact bel1 HG⟩
  · obtain ⟨hm, R, rfl, rfl, hR6, hll, hnum⟩ := isSq_nat (isDef_sq hD.symm)
    by_cases hR0 : R = 0
    · subst hR0
      obtain rfl : RES = none := HR.out.trans minO_zero
      have HW1 : RowKit.Hid (w1 = w.alloc (.cells #[.int .i64 0, .int .i64 0, .slice A n cap] 26)) := Lib.hid HW1.out
      have ma : MBox w1 w.heap.size 0 0 (.slice A n cap) := ma
      have CD' : RowKit.Hid (∀ W, Rd W A l → Calls Tryz.prog 61 #[.agg #[.int .i64 0, .int .i64 0, .slice A n cap]] W fun e w' => e = .returned (.bool true) ∧ Grows W w') := Lib.hid CD'.out
      clear hD hm
      go_enter Tryz.func23, Tryz.ntmps23
      go_wp2_with fail
      rw [← HW1.out]
      have ma_0 := ma.c0; have ma_1 := ma.c1; have ma_2 := ma.c2; have ma_l := ma.lt; have ma_f := ma.fz
      refine (CD'.out _ (by exact Rd.grows ha1 (by exact bel0))).mono ?_; rintro e w2 ⟨rfl, g_w2⟩
      have s_w2 := Below.size g_w2; (try simp at s_w2)
      clear ma_0 ma_1 ma_2 ma_l ma_f
      replace ma := ma.grows (w' := w2) (by exact bel1 g_w2)
      have ma_0 := ma.c0; have ma_1 := ma.c1; have ma_2 := ma.c2; have ma_l := ma.lt; have ma_f := ma.fz
      replace ha1 := ha1.grows (w' := w2) (by exact bel1 g_w2)
      replace HG : Grows w w2 := by exact bel2 g_w2 HG
      have h_w2 := Below.size HG
      go_wp2_with fail
      go_ret2
      exact ⟨rfl, by exact bel1 HG⟩
    · have hRES := HR.out.trans (minO_nat hD.symm (by omega))
      have hz : ¬ (R : Int) = 0 := by omega
      have hRR : R * R ≤ 36 := Nat.mul_le_mul hR6 hR6
      have hl0 : 0 < l.length := by rw [hll]; exact Nat.mul_pos (by omega) (by omega)
      have C0 := fun W h => iAt_c R R A l n cap 0 0 W hn h (by omega) (by omega) (by omega) (by omega) (by omega)
      rw [show ((0 : Int) * (R : Int) + 0).toNat = 0 from by simp] at C0
      have C0' := Lib.hid C0
      have HSP := Lib.hid fun s (h : shvO ⟨R, R, l⟩ (mnD R l R) = some s) k hk => shvO_mem h (k := k) hk
      have HSR := Lib.hid fun s (h : shvO ⟨R, R, l⟩ (mnD R l R) = some s) k hk => shvO_row h (k := k) hk
      have CT := Lib.hid fun I (hlt : I < R) W h => iAt_c R R A l n cap I I W hn h (castMul I R) (by have := castMulLe (show I * R ≤ 36 from Nat.le_trans (Nat.mul_le_mul_right R (Nat.le_of_lt hlt)) hRR); omega) (castPos I R I) (castLt (by rw [hll]; exact idx_lt hlt hlt)) (by omega)
      have HNM := Lib.hid fun i hi => mnD_num hll hnum (show 0 < R by omega) (i := i) hi
      have HNX := Lib.hid fun i => show mnD R l (i + 1) = min (mnD R l i) (nth l (i * R + i)) from rfl
      have H1 := Lib.hid (mnD_one R l)
      clear hD hm C0 hnum
      have HRS := Lib.hid hRES
      clear hRES HR
      go_enter Tryz.func23, Tryz.ntmps23
      go_wp2_with fail
      rw [← HW1.out]
      have ma_0 := ma.c0; have ma_1 := ma.c1; have ma_2 := ma.c2; have ma_l := ma.lt; have ma_f := ma.fz
      refine (CD'.out _ (by exact Rd.grows ha1 (by exact bel0))).mono ?_; rintro e w2 ⟨rfl, g_w2⟩
      have s_w2 := Below.size g_w2; (try simp at s_w2)
      clear ma_0 ma_1 ma_2 ma_l ma_f
      replace ma := ma.grows (w' := w2) (by exact bel1 g_w2)
      have ma_0 := ma.c0; have ma_1 := ma.c1; have ma_2 := ma.c2; have ma_l := ma.lt; have ma_f := ma.fz
      replace ha1 := ha1.grows (w' := w2) (by exact bel1 g_w2)
      replace HG : Grows w w2 := by exact bel2 g_w2 HG
      have h_w2 := Below.size HG
      go_wp2_with fail
      refine (C0'.out _ (by exact Rd.grows ha1 (by exact bel0))).mono ?_; rintro e w3 ⟨rfl, g_w3⟩
      have s_w3 := Below.size g_w3; (try simp at s_w3)
      clear ma_0 ma_1 ma_2 ma_l ma_f
      replace ma := ma.grows (w' := w3) (by exact bel1 g_w3)
      have ma_0 := ma.c0; have ma_1 := ma.c1; have ma_2 := ma.c2; have ma_l := ma.lt; have ma_f := ma.fz
      replace ha1 := ha1.grows (w' := w3) (by exact bel1 g_w3)
      replace HG : Grows w w3 := by exact bel2 g_w3 HG
      have h_w3 := Below.size HG
      go_wp2_with fail
      go_loopw [4, 5] (fun m i wr => ∃ (I : Nat), i = .int .i64 I ∧ m = .int .i64 (mnD R l I) ∧ 0 ≤ I ∧ I ≤ R ∧ Grows w3 wr) (fun _ i _ => R - (intOf i).toNat)
      case atStart => exact ⟨0, rfl, by first | rfl | rw [H1.out], by omega, by omega, by exact bel0⟩
      case round =>
        obtain ⟨I, rfl, rfl, hI0, hI, hg⟩ := hrel
        have ma3 := ma.grows (w' := wr) hg
        have ha3 := ha1.grows (w' := wr) hg
        obtain ⟨m0, m1, m2⟩ := ma3.cells
        by_cases hlt : I < R
        · have i1 : (I : Int) < (R : Int) := by omega
          have CI := CT.out I hlt
          rw [castIdx] at CI
          have CI' := Lib.hid CI
          have HX := Lib.hid (HNX.out I)
          generalize nth l (I * R + I) = y at *
          generalize mnD R l I = M at *
          clear CI
          go_wp2_with fail
          refine (CI'.out _ (by exact (Rd.grows ha3 (by exact bel0)))).mono ?_; rintro e w5 ⟨rfl, g5⟩
          go_wp2_with fail
          go_round
          case rel => exact ⟨I + 1, by go_num, by rw [HX.out], by omega, by omega, by exact bel2 g5 hg⟩
          case measure => simp [intOf]; omega
        · obtain rfl : I = R := by omega
          have CSB := CS'.out (mnD I l I)
          obtain ⟨SO, hSO⟩ : ∃ x, x = shvO ⟨I, I, l⟩ (mnD I l I) := ⟨_, rfl⟩
          rw [← hSO] at CSB
          have HRS2 := HRS.out
          rw [← hSO] at HRS2
          have HSO := Lib.hid hSO
          have CSB' := Lib.hid CSB
          have HRS' := Lib.hid HRS2
          generalize mnD I l I = M at *
          clear CSB HRS2 hSO
          obtain ⟨w4, rfl⟩ : ∃ x : World, x = wr := ⟨_, rfl⟩
          go_wp2_with fail
          refine (CSB'.out _ (by exact (Rd.grows ha3 (by exact bel0)))).mono ?_; rintro e w5 hret
          obtain ⟨A5, c5, rfl, hr5, g5⟩ := iRows_out hret
          clear hret
          have HG5 : Grows w w5 := by exact bel3 g5 hg HG
          cases SO with
          | none =>
            obtain rfl : RES = none := HRS'.out
            go_wp2_with fail
            go_ret2
            exact ⟨rfl, by exact bel1 HG5⟩
          | some s =>
            cases s with
            | nil =>
              obtain rfl : RES = none := HRS'.out
              have e1 : (oRows (some ([] : List KV))).length = 0 := rfl
              have e2 : ((0 : Nat) : Int) = 0 := rfl
              go_wp2_with fail
              go_ret2
              exact ⟨rfl, by exact bel1 HG5⟩
            | cons k t =>
              have hRES : RES = some (vVal I I l k.2) := HRS'.out
              have hmem := HSP.out _ HSO.out.symm k (by simp)
              have hrow := HSR.out _ HSO.out.symm k (by simp)
              have e1 : oRows (some (k :: t)) = k.2 :: rowsK t := rfl
              rw [e1] at hr5 ⊢
              obtain ⟨b8, o8, u8, rfl, hb8, hc8, A6, c6, rfl, hr6, _⟩ := hr5.at_ 0 (by simp)
              simp only [List.getElem_cons_zero, Nat.add_zero] at hc8 hr6
              have ma5 := ma3.grows g5
              have x0 := ma5.ext.1; have x1 := ma5.ext.2.1; have x2 := ma5.ext.2.2; have x3 := ext_is hc8
              have ha5 := ha3.grows g5
              obtain ⟨m0', m1', m2'⟩ := ma5.cells
              have CW := CV.out A6 k.2 c6
              rw [hmem.2.1] at CW
              have CW' := Lib.hid fun W h h' => CW W h h' (by omega)
              have hlen : (k.2 :: rowsK t).length = (rowsK t).length + 1 := rfl
              rw [hlen]
              have hpos : ¬ ((((rowsK t).length + 1 : Nat)) : Int) = 0 := by omega
              generalize (rowsK t).length + 1 = L at *
              generalize vVal I I l k.2 = V at *
              subst hRES
              clear CW hmem m0 m1 m2
              go_wp2_with fail
              ((refine wp_region_ext (by kernel_rfl) (by kernel_rfl) ?_); (repeat (go_big_quiet_step ((go_at_call 15; with_reducible exact extC (CW'.out _ (Rd.ext ha5 _) (Rd.ext hr6 _)))))); refine wpQuiet_nil ?_; rintro w6 ⟨w60, hw60⟩; have g6 := grows_of_ext hw60; clear hw60 w60)
              go_wp2_with fail
              go_ret2
              exact ⟨rfl, by exact bel2 g6 HG5⟩
end
end Go.Proofs.YtfilbjbogggaoaaGreat

/- Plain: the least value of a form is reached, and nothing is less. -/
namespace Go.Proofs.YtfilbjbogggaoaaGreat
set_option linter.unusedSimpArgs false
set_option linter.unusedVariables false
open Go.RowKit

def vecL (R : Nat) (v : Nat → Int) : List Int := (List.range R).map v
theorem vecL_length (R : Nat) (v : Nat → Int) : (vecL R v).length = R := by simp [vecL]
theorem vecL_nth {R : Nat} {v : Nat → Int} {i : Nat} (hi : i < R) : nth (vecL R v) i = v i := by
  rw [nth_get _ _ (by rw [vecL_length]; exact hi)]; simp [vecL]
theorem qf_congr {n : Nat} {f : Nat → Nat → Int} {v w : Nat → Int} (h : ∀ i, i < n → v i = w i) : qf n f v = qf n f w := by
  unfold qf
  exact sumN_congr fun i hi => sumN_congr fun j hj => by rw [h i hi, h j hj]
theorem qf_neg (n : Nat) (f : Nat → Nat → Int) (v : Nat → Int) : qf n f (fun i => - v i) = qf n f v := by
  unfold qf
  exact sumN_congr fun i _ => sumN_congr fun j _ => by rw [Int.neg_mul, Int.neg_mul_neg]
theorem posV_or {R : Nat} {v : Nat → Int} (h : ∃ i, i < R ∧ v i ≠ 0) : posV (vecL R v) = true ∨ posV (vecL R fun i => - v i) = true := by
  have hlt : fnz (vecL R v) < R := by
    refine Classical.byContradiction fun hn => ?_
    obtain ⟨i, hi, hne⟩ := h
    have := fnz_zero (l := vecL R v) (i := i) (by omega)
    rw [vecL_nth hi] at this
    exact hne this
  have hz : ∀ t, t < fnz (vecL R v) → v t = 0 := fun t ht => by have := fnz_zero ht; rwa [vecL_nth (by omega)] at this
  have hne : v (fnz (vecL R v)) ≠ 0 := by have := fnz_ne (l := vecL R v) (by rw [vecL_length]; exact hlt); rwa [vecL_nth hlt] at this
  generalize fnz (vecL R v) = i at *
  rw [posV_at (v := vecL R v) (i := i) (fun t ht => by rw [vecL_nth (by omega)]; exact hz t ht) (by rw [vecL_length]; exact hlt) (by rw [vecL_nth hlt]; exact hne)]
  rw [posV_at (v := vecL R fun i => - v i) (i := i) (fun t ht => by rw [vecL_nth (by omega), hz t ht]; rfl) (by rw [vecL_length]; exact hlt) (by rw [vecL_nth hlt]; omega)]
  rw [vecL_nth hlt, vecL_nth hlt]
  rcases Int.lt_or_gt_of_ne hne with e | e
  · right; exact decide_eq_true (by omega)
  · left; exact decide_eq_true (by omega)
theorem sh_rep {R : Nat} {l : List Int} {b : Int} {s : List KV} (h : shvO ⟨R, R, l⟩ b = some s) {v : Nat → Int} (hv : ∃ i, i < R ∧ v i ≠ 0) (hq : qf R (fnOf R l) v ≤ b) : (qf R (fnOf R l) v, vecL R v) ∈ s ∨ (qf R (fnOf R l) v, vecL R fun i => - v i) ∈ s := by
  have e1 : qf R (fnOf R l) (nth (vecL R v)) = qf R (fnOf R l) v := qf_congr fun i hi => vecL_nth hi
  have e2 : qf R (fnOf R l) (nth (vecL R fun i => - v i)) = qf R (fnOf R l) v := by rw [← qf_neg R (fnOf R l) v]; exact qf_congr fun i hi => vecL_nth hi
  rcases posV_or hv with hp | hp
  · left
    have := (shvO_all h (vecL_length R v) hp (by rw [e1]; exact hq)).1
    rwa [e1] at this
  · right
    have := (shvO_all h (vecL_length R _) hp (by rw [e2]; exact hq)).1
    rwa [e2] at this
theorem posV_ne {R : Nat} {l : List Int} (h : posV l = true) (hl : l.length = R) : ∃ i, i < R ∧ nth l i ≠ 0 := by
  obtain ⟨i, hi, hne⟩ := posV_some h; exact ⟨i, by omega, hne⟩
theorem minO_def {g : MX} {m : Int} (h : minO g = some m) : ∃ R : Nat, g = ⟨R, R, g.l⟩ ∧ 0 < R ∧ R ≤ 6 ∧ isDef R R g.l = true := by
  unfold minO at h
  split at h
  · rename_i hh
    simp only [Bool.and_eq_true, bne_iff_ne] at hh
    obtain ⟨_, R, e1, e2, hR, _⟩ := isSq_nat (isDef_sq hh.1)
    obtain ⟨r, c, l⟩ := g
    simp only at e1 e2 hh
    subst e1 e2
    exact ⟨R, rfl, by omega, hR, hh.1⟩
  · cases h
theorem minO_spec {R : Nat} {l : List Int} {m : Int} (h0 : 0 < R) (hd : isDef R R l = true) (h : minO ⟨R, R, l⟩ = some m) : (∃ v : Nat → Int, (∃ i, i < R ∧ v i ≠ 0) ∧ qf R (fnOf R l) v = m) ∧ (∀ v : Nat → Int, (∃ i, i < R ∧ v i ≠ 0) → m ≤ qf R (fnOf R l) v) ∧ 1 ≤ m ∧ m ≤ mnD R l R ∧ ∃ s, shvO ⟨R, R, l⟩ (mnD R l R) = some s := by
  have e0 : minO ⟨R, R, l⟩ = (shvO ⟨R, R, l⟩ (mnD R l R)).bind (minL ⟨R, R, l⟩) := by
    unfold minO
    rw [if_pos (by rw [hd]; simp; omega)]
    simp only [Int.toNat_natCast]
  rw [e0] at h
  obtain ⟨s, h1, h2⟩ := Option.bind_eq_some_iff.1 h
  cases s with
  | nil => cases h2
  | cons k s =>
    have h2 : some (vVal R R l k.2) = some m := h2
    simp only [Option.some.injEq] at h2
    obtain ⟨kl, kp, kok, kv, k1, kb⟩ := shvO_in h1 (List.mem_cons_self (a := k) (l := s))
    have hk : k.1 = m := by rw [← h2, kv]; exact (vVal_qf kok).symm
    have hs := shvO_sort h1
    unfold SortK at hs
    rw [List.pairwise_cons] at hs
    have hle : ∀ k' ∈ k :: s, k.1 ≤ k'.1 := fun k' hk' => by
      rcases List.mem_cons.1 hk' with e | e
      · rw [e]; exact Int.le_refl _
      · have := hs.1 k' e
        unfold ltK at this
        simp only [Bool.or_eq_false_iff, decide_eq_false_iff_not] at this
        omega
    refine ⟨⟨nth k.2, posV_ne kp kl, by rw [← kv, hk]⟩, fun v hv => ?_, by omega, by omega, _, h1⟩
    by_cases hb : qf R (fnOf R l) v ≤ mnD R l R
    · rcases sh_rep h1 hv hb with e | e
      · have := hle _ e; simp only at this; omega
      · have := hle _ e; simp only at this; omega
    · omega
end Go.Proofs.YtfilbjbogggaoaaGreat

/- Plain: what FnReduced needs. -/
namespace Go.Proofs.YtfilbjbogggaoaaGreat
set_option linter.unusedSimpArgs false
set_option linter.unusedVariables false
open Go.RowKit

/-- the reduction of two rows or more ends with a form whose account is known -/
theorem rdgF_acc_some {R n : Nat} {x : RS} {s : LL} (hx : Ok2 R R x.1) (h1 : 1 ≤ x.2) (h2 : x.2 < R) (h : rdgF R n x = some s) : ∃ mu, accF R s.1 R = some mu := by
  induction n generalizing x with
  | zero => rw [rdgF_out h2] at h; cases h
  | succ n ih =>
    cases h3 : accF R x.1.1 R with
    | none => rw [rdgF_acc h2 h3] at h; cases h
    | some mu =>
      rw [rdgF_step h2 h3] at h
      obtain ⟨y, h4, h5⟩ := Option.bind_eq_some_iff.1 h
      obtain ⟨h6, h7, h8⟩ := redS_ok hx h1 h2 h4
      by_cases hy : y.2 < R
      · exact ih h6 h7 hy h5
      · rw [rdgF_end hy] at h5
        cases h5
        obtain ⟨s, k⟩ := x
        simp only at h1 h2 h3 h4
        have : y.1 = s := by
          cases hf : fstJ (mu.1.getD k []) k with
          | some j =>
            cases ho : okQ (nthQ (mu.1.getD k []) j)
            · rw [redS_bad hf ho] at h4; cases h4
            · rw [redS_add hf ho] at h4
              obtain ⟨s', _, rfl⟩ := Option.map_eq_some_iff.1 h4
              simp only at hy
              omega
          | none =>
            by_cases h9 : ordS mu k = 2
            · rw [redS_unknown hf h9] at h4; cases h4
            · by_cases h10 : ordS mu k = 0 ∨ ordS mu k = 1
              · rw [redS_good hf h10] at h4; cases h4; rfl
              · rw [redS_swap hf h9 h10] at h4; cases h4
                simp only at hy
                omega
        rw [this]
        exact ⟨mu, h3⟩
theorem rdg_acc {g : MX} {x : MX × MX} (hr : rdgO g = some x) {R : Nat} {l : List Int} (e : x.1 = ⟨R, R, l⟩) (hR : 2 ≤ R) : ∃ mu, accF R l R = some mu := by
  cases hd : isDef g.r g.c g.l
  · rw [rdgO_no hd] at hr; cases hr
  · obtain ⟨_, R', e1, e2, _, hlen, hn⟩ := isSq_nat (isDef_sq hd)
    obtain ⟨r, c, l0⟩ := g
    simp only at e1 e2 hlen hn hd
    subst e1 e2
    rw [rdgO_yes hd] at hr
    obtain ⟨s, h1, rfl⟩ := Option.map_eq_some_iff.1 hr
    have eR : (R' : Int) = R := congrArg MX.r e
    have el : s.1 = l := congrArg MX.l e
    obtain rfl : R' = R := by omega
    subst el
    have ok : Ok2 R' R' ((l0, idL R') : LL) := ⟨hlen, idL_length R', (allNum_iff _).2 hn, idL_num R'⟩
    exact rdgF_acc_some (x := ((l0, idL R'), 1)) ok (Nat.le_refl _) hR h1
theorem def_sym2 {R : Nat} {l : List Int} (hd : isDef R R l = true) : ∀ i j, i < R → j < R → nth l (i * R + j) = nth l (j * R + i) := by
  obtain ⟨_, R', e1, _, _, hl, _⟩ := isSq_nat (isDef_sq hd)
  obtain rfl : R' = R := by omega
  have hg : isGram R' R' l = true := by
    unfold isDef at hd
    simp only [Bool.and_eq_true] at hd
    exact hd.2
  have hs := (symB_iff hl).1 (by unfold isGram at hg; simp only [Bool.and_eq_true, Int.toNat_natCast] at hg; exact hg.2)
  intro i j hi hj
  by_cases e : j < i
  · exact hs i j hi e
  · by_cases e2 : i = j
    · rw [e2]
    · exact (hs j i hj (by omega)).symm
/-- the first cell against the least value -/
theorem red_first {g : MX} {x : MX × MX} (hr : rdgO g = some x) {n : Int} (hm : minO x.1 = some n) : ∃ (R : Nat) (l : List Int), x.1 = ⟨R, R, l⟩ ∧ 1 ≤ R ∧ R ≤ 6 ∧ l.length = R * R ∧ 1 ≤ n ∧ n ≤ 400000000 ∧ nth l 0 ≤ n * ((2 ^ (R - 1) : Nat) : Int) := by
  obtain ⟨R, l, _, hR6, e, hl, hn, hg⟩ := rdg_good hr
  rw [e] at hm
  obtain ⟨R', e2, h0, _, hd⟩ := minO_def hm
  have eR : (R : Int) = R' := congrArg MX.r e2
  obtain rfl : R' = R := by omega
  obtain ⟨⟨v, hv, hq⟩, _, h1, h2, _⟩ := minO_spec h0 hd hm
  have h2 : n ≤ mnD R' l R' := h2
  have hnum := (allNum_iff l).1 hn
  have hmn : isNum (mnD R' l R') = true := mnD_num hl hnum h0 (Nat.le_refl _)
  have hn2 := (isNum_iff _).1 hmn
  refine ⟨R', l, e, h0, hR6, hl, h1, ?_, ?_⟩
  · have h3 : mnD R' l R' ≤ nth l 0 := by
      have key : ∀ i, mnD R' l i ≤ nth l 0 := fun i => by
        induction i with
        | zero => exact Int.le_refl _
        | succ i ih => rw [mnD]; omega
      exact key R'
    have h4 := hnum 0 (by rw [hl]; exact Nat.mul_pos h0 h0)
    rw [isNum_iff] at h4
    omega
  · rw [← hq]
    by_cases hR : 2 ≤ R'
    · obtain ⟨mu, hmu⟩ := rdg_acc hr e hR
      exact lll_bound hmu hg (def_sym2 hd) hv
    · obtain rfl : R' = 1 := by omega
      obtain ⟨i, hi, hne⟩ := hv
      obtain rfl : i = 0 := by omega
      show nth l 0 ≤ _ * 1
      rw [Int.mul_one]
      have eq : qf 1 (fnOf 1 l) v = v 0 * nth l 0 * v 0 := by
        show 0 + (0 + v 0 * nth l (0 * 1 + 0) * v 0) = _
        simp
      have hq1 : 1 ≤ v 0 * nth l 0 * v 0 := by rw [← eq, hq]; exact h1
      rw [eq]
      have hsq : 1 ≤ v 0 * v 0 := by
        rcases Int.lt_or_gt_of_ne hne with h | h
        · have := Int.mul_pos_of_neg_of_neg h h; omega
        · have := Int.mul_pos h h; omega
      have e3 : v 0 * nth l 0 * v 0 = nth l 0 * (v 0 * v 0) := by grind
      rw [e3] at hq1 ⊢
      have hl0 : 0 ≤ nth l 0 := by
        refine Classical.byContradiction fun hn => ?_
        have := Int.mul_neg_of_neg_of_pos (show nth l 0 < 0 by omega) (show 0 < v 0 * v 0 by omega)
        omega
      have := Int.mul_le_mul_of_nonneg_left hsq hl0
      omega
theorem rdg_reduced2 {g : MX} {x : MX × MX} (hr : rdgO g = some x) {P : MX} (e : x.1 = P) : (rdcO P).2 = true → (rdcO P).1 = true := by
  rw [← e]; exact rdg_reduced hr
theorem um_det2 {R : Nat} {u : List Int} (U : UmD R u) {d : Int} (hd : dtO ⟨R, R, u⟩ = some d) : d = 1 ∨ d = -1 := by
  cases hs : isSq R R u
  · rw [dtO_no hs] at hd; cases hd
  · rw [dtO_yes hs] at hd
    rw [← detO_dets R u d hd]
    exact U.det
/-- names for the walk -/
theorem rdd_names (g : MX) : (∃ (U : MX), oM2 (rdgO g) = (MX.nil, U) ∧ (rdgO g).isSome = false ∧ U = MX.nil) ∨ ∃ (R : Nat) (l : List Int) (U : MX), oM2 (rdgO g) = (⟨R, R, l⟩, U) ∧ (rdgO g).isSome = true ∧ R ≤ 6 ∧ l.length = R * R ∧ U.l.length ≤ 36 ∧ (∀ d, dtO U = some d → d = 1 ∨ d = -1) ∧ ((cbO g U).isSome = true → oM (cbO g U) = ⟨R, R, l⟩) ∧ ((rdcO ⟨R, R, l⟩).2 = true → (rdcO ⟨R, R, l⟩).1 = true) ∧
    ∀ n, minO ⟨R, R, l⟩ = some n → 1 ≤ R ∧ 1 ≤ n ∧ n ≤ 400000000 ∧ nth l 0 ≤ n * ((2 ^ (R - 1) : Nat) : Int) := by
  cases hr : rdgO g with
  | none => exact .inl ⟨MX.nil, rfl, rfl, rfl⟩
  | some x =>
    right
    obtain ⟨R, l, _, hR6, e, hl, _, _⟩ := rdg_good hr
    obtain ⟨R2, u, _, hR2, eu, hul, _, hU⟩ := rdgO_um hr
    obtain ⟨P, U⟩ := x
    simp only at e eu
    subst e
    refine ⟨R, l, U, rfl, rfl, hR6, hl, ?_, fun d hd => ?_, fun hc => ?_, rdg_reduced2 (P := ⟨R, R, l⟩) hr rfl, fun n hn => ?_⟩
    · rw [eu]
      show u.length ≤ 36
      rw [hul]
      exact Nat.mul_le_mul hR2 hR2
    · rw [eu] at hd
      exact um_det2 hU hd
    · obtain ⟨h, hh⟩ := Option.isSome_iff_exists.1 hc
      rw [hh]
      exact rdg_change hr hh
    · obtain ⟨R3, l3, e3, h1, _, _, h4, h5, h6⟩ := red_first hr hn
      have eR : (R : Int) = R3 := congrArg MX.r e3
      have el : l = l3 := congrArg MX.l e3
      obtain rfl : R = R3 := by omega
      subst el
      exact ⟨h1, h4, h5, h6⟩
end Go.Proofs.YtfilbjbogggaoaaGreat

/- Contracts: whether a form is reduced (impl). -/
namespace Go.Proofs.YtfilbjbogggaoaaGreat
set_option linter.unusedSimpArgs false
set_option linter.unusedVariables false
open Go.RowKit

theorem rdc_half {s : List (List Q2) × List Q2} {R I J : Nat} {k : Bool} {q : Q2} (h : rdcF s I = none) (hI : I < R) (hJ : J < I) (hq : q = nthQ (s.1.getD I []) J) (hh : halfR (s.1.getD I []) J = none)
    (hk : (okQ q = false ∧ k = false) ∨ (okQ q = true ∧ ¬ 2 * absI q.1 ≤ q.2 ∧ k = true)) : rdcF s R = some k := by
  subst hq
  rcases hk with ⟨h1, rfl⟩ | ⟨h1, h2, rfl⟩
  · exact rdcF_some (rdcF_half h (halfR_some (halfR_bad hh h1) hJ)) hI
  · exact rdcF_some (rdcF_half h (halfR_some (halfR_big hh h1 (by omega)) hJ)) hI
theorem rdc_row {row : List Q2} {J : Nat} {q : Q2} (hq : q = nthQ row J) (hh : halfR row J = none) (h1 : okQ q = true) (h2 : 2 * absI q.1 ≤ q.2) : halfR row (J + 1) = none := by
  subst hq
  exact halfR_ok hh h1 (by omega)
theorem rdc_bad {s : List (List Q2) × List Q2} {R I : Nat} (h0 : 0 < I) (h : rdcF s I = none) (hI : I < R) (hh : halfR (s.1.getD I []) I = none) (ho : ¬ (ordS s I = 0 ∨ ordS s I = 1)) : rdcF s R = some (decide (ordS s I ≠ 2)) :=
  rdcF_some (by rw [rdcF_ord h0 h hh, if_neg ho]) hI
theorem rdc_ok {s : List (List Q2) × List Q2} {I : Nat} (h0 : 0 < I) (h : rdcF s I = none) (hh : halfR (s.1.getD I []) I = none) (ho : ordS s I = 0 ∨ ordS s I = 1) : rdcF s (I + 1) = none := by
  rw [rdcF_ord h0 h hh, if_pos ho]

section
set_option maxHeartbeats 4000000
theorem iRed_c (r c : Int) (A : Option Addr) (l : List Int) (n cap : Nat) (w : World) (hn : l.length = n) (hcap : n ≤ cap) (hcap2 : cap ≤ 9223372036854775807) (ha : Rd w A l) (hl : n ≤ 1099511627776) :
    Calls Tryz.prog 21 #[.agg #[.int .i64 r, .int .i64 c, .slice A n cap]] w fun e w' => e = .returned (.tuple #[.bool (rdcO ⟨r, c, l⟩).1, .bool (rdcO ⟨r, c, l⟩).2]) ∧ Grows w w' := by
  have HD := fun W h => iIsDef_c r c A l n cap W hn hcap hcap2 h hl
  obtain ⟨w1, hw1⟩ : ∃ w1, w1 = w.alloc (.cells #[.int .i64 r, .int .i64 c, .slice A n cap] 26) := ⟨_, rfl⟩
  have mg : MBox w1 w.heap.size r c (.slice A n cap) := by rw [hw1]; exact MBox.mk_ _ _ _ _ _
  have HG : Grows w w1 := by rw [hw1]; exact bel0
  have HW1 := Lib.hid hw1
  have ha1 := ha.grows HG
  obtain ⟨RES, hRES⟩ : ∃ x, x = rdcO ⟨r, c, l⟩ := ⟨_, rfl⟩
  rw [← hRES]
  cases hd : isDef r c l
  · rw [rdcO_no (g := ⟨r, c, l⟩) hd] at hRES
    rw [hd] at HD
    have HD' := Lib.hid HD
    subst hRES
    clear hw1 hn HD hd
    go_enter Tryz.func21, Tryz.ntmps21
    go_wp2_with fail
    rw [← HW1.out]
    have mg_0 := mg.c0; have mg_1 := mg.c1; have mg_2 := mg.c2; have mg_l := mg.lt; have mg_f := mg.fz
    refine (HD'.out _ (by exact Rd.grows ha1 (by exact bel0))).mono ?_; rintro e w2 ⟨rfl, g_w2⟩
    have s_w2 := Below.size g_w2; (try simp at s_w2)
    clear mg_0 mg_1 mg_2 mg_l mg_f
    replace mg := mg.grows (w' := w2) (by exact bel1 g_w2)
    have mg_0 := mg.c0; have mg_1 := mg.c1; have mg_2 := mg.c2; have mg_l := mg.lt; have mg_f := mg.fz
    replace ha1 := ha1.grows (w' := w2) (by exact bel1 g_w2)
    replace HG : Grows w w2 := by exact bel2 g_w2 HG
    have h_w2 := Below.size HG
    go_wp2_with fail
    go_ret2
    exact ⟨rfl, by exact bel1 HG⟩
  · rw [hd] at HD
    have HD' := Lib.hid HD
    obtain ⟨R, rfl, rfl, hR, hlen⟩ := isDef_nat hd
    rw [rdcO_yes hd] at hRES
    have CA := fun W h => (iAcc_c R A l n cap W hn hlen (by omega) h).mono fun _ _ h => accRet_out h
    have INV := Lib.hid fun s h => accF_inv (C := R) (l := l) (i := R) (s := s) h
    generalize accF R l R = AO at *
    have CA' := Lib.hid CA
    have HR := Lib.hid hRES
    clear hw1 hn HD hd CA hRES hlen
    go_enter Tryz.func21, Tryz.ntmps21
    go_wp2_with fail
    rw [← HW1.out]
    have mg_0 := mg.c0; have mg_1 := mg.c1; have mg_2 := mg.c2; have mg_l := mg.lt; have mg_f := mg.fz
    refine (HD'.out _ (by exact Rd.grows ha1 (by exact bel0))).mono ?_; rintro e w2 ⟨rfl, g_w2⟩
    have s_w2 := Below.size g_w2; (try simp at s_w2)
    clear mg_0 mg_1 mg_2 mg_l mg_f
    replace mg := mg.grows (w' := w2) (by exact bel1 g_w2)
    have mg_0 := mg.c0; have mg_1 := mg.c1; have mg_2 := mg.c2; have mg_l := mg.lt; have mg_f := mg.fz
    replace ha1 := ha1.grows (w' := w2) (by exact bel1 g_w2)
    replace HG : Grows w w2 := by exact bel2 g_w2 HG
    have h_w2 := Below.size HG
    go_wp2_with fail
    refine (CA'.out _ (by exact Rd.grows ha1 (by exact bel0))).mono ?_; rintro e w3 ⟨Am, cm, As, cs, rfl, hrm, hrs, g_w3⟩
    have s_w3 := Below.size g_w3; (try simp at s_w3)
    clear mg_0 mg_1 mg_2 mg_l mg_f
    replace mg := mg.grows (w' := w3) (by exact bel1 g_w3)
    have mg_0 := mg.c0; have mg_1 := mg.c1; have mg_2 := mg.c2; have mg_l := mg.lt; have mg_f := mg.fz
    replace ha1 := ha1.grows (w' := w3) (by exact bel1 g_w3)
    replace HG : Grows w w3 := by exact bel2 g_w3 HG
    have h_w3 := Below.size HG
    cases AO with
    | none =>
      obtain rfl : RES = (false, false) := HR.out
      go_wp2_with fail
      go_ret2
      exact ⟨rfl, by exact bel1 HG⟩
    | some s =>
      have inv := INV.out s rfl
      have e1 : (oA (some s)).1 = s.1 := rfl
      have e2 : (oA (some s)).2 = s.2 := rfl
      rw [e1] at hrm
      rw [e2] at hrs
      rw [e1, e2, inv.l1, inv.l2]
      clear e1 e2
      have HS := Lib.hid (show RES = match rdcF s R with | none => (true, true) | some k => (false, k) from HR.out)
      clear HR INV
      obtain ⟨w4, hw4⟩ : ∃ w4, w4 = w3.alloc (.cells #[.slice Am R cm, .slice As R cs] 71) := ⟨_, rfl⟩
      have g34 : Grows w3 w4 := by rw [hw4]; exact bel0
      have mo : SBox w4 w3.heap.size (.slice Am R cm) (.slice As R cs) := by rw [hw4]; exact SBox.new_ _ _ _ _ rfl
      have HW4 := Lib.hid hw4
      have hrm4 := hrm.grows RSQ.good g34
      have hrs4 := hrs.grows g34
      clear hw4
      go_wp2_with fail
      rw [← HW4.out]
      go_loopw [26] (fun i wr => ∃ (I : Nat), i = .int .i64 I ∧ I ≤ R ∧ rdcF s I = none ∧ Grows w4 wr) (fun i _ => R - (intOf i).toNat)
      case atStart => exact ⟨0, rfl, Nat.zero_le _, rfl, by exact bel0⟩
      case round =>
        obtain ⟨I, rfl, hI, hF, hg⟩ := hrel
        have HF := Lib.hid hF
        clear hF
        obtain ⟨wi, rfl⟩ : ∃ wi : World, wi = wr := ⟨_, rfl⟩
        have hrmi := hrm4.grows RSQ.good hg
        have hrsi := hrs4.grows hg
        have moi := mo.grows hg
        by_cases hlt : I < R
        · have hlt' : (I : Int) < (R : Int) := by omega
          obtain ⟨bm, fm, Aj, cj, rfl, hbm, m0, hrj, hcj⟩ := hrmi.rowQ I (by rw [inv.l1]; exact hlt)
          have hjl := inv.row I hlt
          rw [hjl] at m0 hcj
          obtain ⟨row, hrow⟩ : ∃ row, row = s.1.getD I [] := ⟨_, rfl⟩
          rw [← hrow] at hrj hjl
          have HROW := Lib.hid hrow
          have HJL := Lib.hid hjl
          clear hrow hjl
          obtain ⟨o0, o1⟩ := moi.cells
          go_wp2_with fail
          go_loopw [35] (fun j wx => ∃ (J : Nat), j = .int .i64 J ∧ J ≤ I ∧ halfR row J = none ∧ Grows wi wx) (fun j _ => I - (intOf j).toNat)
          case atStart => exact ⟨0, rfl, Nat.zero_le _, rfl, by exact bel0⟩
          case round =>
            clear o0 o1 m0
            obtain ⟨J, rfl, hJ, hH, hgj⟩ := hrel
            have HH := Lib.hid hH
            clear hH
            obtain ⟨wj, rfl⟩ : ∃ wj : World, wj = wr := ⟨_, rfl⟩
            by_cases hltj : J < I
            · have hltj' : (J : Int) < (I : Int) := by omega
              obtain ⟨bj, fj, rfl, hbj, j0, j1⟩ := (hrj.grows hgj).at_ J (by rw [HJL.out]; exact hltj)
              obtain ⟨q, hq⟩ : ∃ q, q = nthQ row J := ⟨_, rfl⟩
              rw [← hq] at j0 j1
              have HQ := Lib.hid hq
              clear hq
              have CH := fun W => halves_c q W
              cases hok : okQ q
              · have hn : RES = (false, false) := by rw [HS.out, rdc_half HF.out hlt hltj (HQ.out.trans (by rw [HROW.out])) (by rw [← HROW.out]; exact HH.out) (.inl ⟨hok, rfl⟩)]
                rw [hok] at CH
                have CH' := Lib.hid CH
                subst hn
                clear CH hok
                go_wp2_with fail
                refine (CH'.out _).mono ?_; rintro e w6 ⟨rfl, g6⟩
                go_wp2_with fail
                go_ret2
                exact ⟨rfl, by exact bel5 g6 hgj hg g34 HG⟩
              · by_cases hb : 2 * absI q.1 ≤ q.2
                · have HN := Lib.hid (rdc_row HQ.out HH.out hok hb)
                  rw [hok, decide_eq_true hb] at CH
                  have CH' := Lib.hid CH
                  clear CH hok hb
                  go_wp2_with fail
                  refine (CH'.out _).mono ?_; rintro e w6 ⟨rfl, g6⟩
                  go_wp2_with fail
                  go_round
                  case rel => exact ⟨J + 1, by go_num, by omega, HN.out, by exact bel2 g6 hgj⟩
                  case measure => simp [intOf]; omega
                · have hn : RES = (false, true) := by rw [HS.out, rdc_half HF.out hlt hltj (HQ.out.trans (by rw [HROW.out])) (by rw [← HROW.out]; exact HH.out) (.inr ⟨hok, hb, rfl⟩)]
                  rw [hok, decide_eq_false hb] at CH
                  have CH' := Lib.hid CH
                  subst hn
                  clear CH hok hb
                  go_wp2_with fail
                  refine (CH'.out _).mono ?_; rintro e w6 ⟨rfl, g6⟩
                  go_wp2_with fail
                  go_ret2
                  exact ⟨rfl, by exact bel5 g6 hgj hg g34 HG⟩
            · obtain rfl : J = I := by omega
              have mox := moi.grows hgj
              obtain ⟨o0, o1⟩ := mox.cells
              by_cases h0 : J = 0
              · subst h0
                go_wp2_with fail
                go_round
                case rel => exact ⟨1, by go_num, by omega, rdcF_zero, by exact bel2 hgj hg⟩
                case measure => simp [intOf]; omega
              · have h0' : ¬ ((J : Int) = 0) := by omega
                have hjb : ((J : Int) == (0 : Int)) = false := by rw [beq_eq_false_iff_ne]; omega
                have CO := fun W h1 h2 => inOrder_c s R J (some ⟨bm, fm, none⟩) As cm cs W inv.l1 inv.l2 inv.row (by omega) (by omega) hlt h1 h2
                have HBAD := Lib.hid (show ¬ (ordS s J = 0 ∨ ordS s J = 1) → RES = (false, decide (ordS s J ≠ 2)) from fun h => by rw [HS.out, rdc_bad (by omega) HF.out hlt (by rw [← HROW.out]; exact HH.out) h])
                have HOK := Lib.hid (show ordS s J = 0 ∨ ordS s J = 1 → rdcF s (J + 1) = none from fun h => rdc_ok (by omega) HF.out (by rw [← HROW.out]; exact HH.out) h)
                have hc4 : ordS s J = -1 ∨ ordS s J = 0 ∨ ordS s J = 1 ∨ ordS s J = 2 := cmpQ_four _ _
                generalize ordS s J = C at *
                have CO' := Lib.hid CO
                have hrmx := hrmi.grows RSQ.good hgj
                have hrsx := hrsi.grows hgj
                clear CO
                rcases hc4 with rfl | rfl | rfl | rfl
                · obtain rfl : RES = (false, true) := HBAD.out (by omega)
                  go_wp2_with fail
                  refine (CO'.out _ hrmx hrsx).mono ?_; rintro e w6 ⟨rfl, g6⟩
                  go_wp2_with fail
                  go_ret2
                  exact ⟨rfl, by exact bel5 g6 hgj hg g34 HG⟩
                · go_wp2_with fail
                  refine (CO'.out _ hrmx hrsx).mono ?_; rintro e w6 ⟨rfl, g6⟩
                  go_wp2_with fail
                  go_round
                  case rel => exact ⟨J + 1, by go_num, by omega, HOK.out (by simp), by exact bel3 g6 hgj hg⟩
                  case measure => simp [intOf]; omega
                · go_wp2_with fail
                  refine (CO'.out _ hrmx hrsx).mono ?_; rintro e w6 ⟨rfl, g6⟩
                  go_wp2_with fail
                  go_round
                  case rel => exact ⟨J + 1, by go_num, by omega, HOK.out (by simp), by exact bel3 g6 hgj hg⟩
                  case measure => simp [intOf]; omega
                · obtain rfl : RES = (false, false) := HBAD.out (by omega)
                  go_wp2_with fail
                  refine (CO'.out _ hrmx hrsx).mono ?_; rintro e w6 ⟨rfl, g6⟩
                  go_wp2_with fail
                  go_ret2
                  exact ⟨rfl, by exact bel5 g6 hgj hg g34 HG⟩
        · obtain rfl : I = R := by omega
          obtain rfl : RES = (true, true) := by rw [HS.out, HF.out]
          go_wp2_with fail
          go_ret2
          exact ⟨rfl, by exact bel3 hg g34 HG⟩
end
end Go.Proofs.YtfilbjbogggaoaaGreat

/- Contracts: whether a form is reduced (spec). -/
namespace Go.Proofs.YtfilbjbogggaoaaGreat
set_option linter.unusedSimpArgs false
set_option linter.unusedVariables false
open Go.RowKit

theorem rdcF_back {s : List (List Q2) × List Q2} {I R : Nat} (h : rdcF s I = none) (hR : R ≤ I) : rdcF s R = none := by
  cases e : rdcF s R with
  | none => rfl
  | some k => rw [rdcF_some e hR] at h; cases h

section
set_option maxHeartbeats 4000000
set_option maxRecDepth 100000
theorem sRed_c (r c : Int) (A : Option Addr) (l : List Int) (n cap : Nat) (w : World) (hn : l.length = n) (ha : Rd w A l) (hl : n ≤ 1099511627776) :
    Calls Tryz.prog 22 #[.agg #[.int .i64 r, .int .i64 c, .slice A n cap]] w fun e w' => e = .returned (.tuple #[.bool (rdcO ⟨r, c, l⟩).1, .bool (rdcO ⟨r, c, l⟩).2]) ∧ Grows w w' := by
  have HD := fun W h => sIsDef_c r c A l n cap W hn h hl
  obtain ⟨w1, hw1⟩ : ∃ w1, w1 = w.alloc (.cells #[.int .i64 r, .int .i64 c, .slice A n cap] 26) := ⟨_, rfl⟩
  have mg : MBox w1 w.heap.size r c (.slice A n cap) := by rw [hw1]; exact MBox.mk_ _ _ _ _ _
  have HG : Grows w w1 := by rw [hw1]; exact bel0
  have HW1 := Lib.hid hw1
  have ha1 := ha.grows HG
  obtain ⟨RES, hRES⟩ : ∃ x, x = rdcO ⟨r, c, l⟩ := ⟨_, rfl⟩
  rw [← hRES]
  cases hd : isDef r c l
  · rw [rdcO_no (g := ⟨r, c, l⟩) hd] at hRES
    rw [hd] at HD
    have HD' := Lib.hid HD
    subst hRES
    clear hw1 hn HD hd
    go_enter Tryz.func22, Tryz.ntmps22
    go_wp2_with fail
    rw [← HW1.out]
    have mg_0 := mg.c0; have mg_1 := mg.c1; have mg_2 := mg.c2; have mg_l := mg.lt; have mg_f := mg.fz
    refine (HD'.out _ (by exact Rd.grows ha1 (by exact bel0))).mono ?_; rintro e w2 ⟨rfl, g_w2⟩
    have s_w2 := Below.size g_w2; (try simp at s_w2)
    clear mg_0 mg_1 mg_2 mg_l mg_f
    replace mg := mg.grows (w' := w2) (by exact bel1 g_w2)
    have mg_0 := mg.c0; have mg_1 := mg.c1; have mg_2 := mg.c2; have mg_l := mg.lt; have mg_f := mg.fz
    replace ha1 := ha1.grows (w' := w2) (by exact bel1 g_w2)
    replace HG : Grows w w2 := by exact bel2 g_w2 HG
    have h_w2 := Below.size HG
    go_wp2_with fail
    go_ret2
    exact ⟨rfl, by exact bel1 HG⟩
  · rw [hd] at HD
    have HD' := Lib.hid HD
    obtain ⟨R, rfl, rfl, hR, hlen⟩ := isDef_nat hd
    rw [rdcO_yes hd] at hRES
    have CA := fun W h => (sAcc_c R A l n cap W hn hlen (by omega) h).mono fun _ _ h => muRet_out h
    have INV := Lib.hid fun s h => accF_inv (C := R) (l := l) (i := R) (s := s) h
    generalize accF R l R = AO at *
    have CA' := Lib.hid CA
    have HR := Lib.hid hRES
    clear hw1 hn HD hd CA hRES hlen
    go_enter Tryz.func22, Tryz.ntmps22
    go_wp2_with fail
    rw [← HW1.out]
    have mg_0 := mg.c0; have mg_1 := mg.c1; have mg_2 := mg.c2; have mg_l := mg.lt; have mg_f := mg.fz
    refine (HD'.out _ (by exact Rd.grows ha1 (by exact bel0))).mono ?_; rintro e w2 ⟨rfl, g_w2⟩
    have s_w2 := Below.size g_w2; (try simp at s_w2)
    clear mg_0 mg_1 mg_2 mg_l mg_f
    replace mg := mg.grows (w' := w2) (by exact bel1 g_w2)
    have mg_0 := mg.c0; have mg_1 := mg.c1; have mg_2 := mg.c2; have mg_l := mg.lt; have mg_f := mg.fz
    replace ha1 := ha1.grows (w' := w2) (by exact bel1 g_w2)
    replace HG : Grows w w2 := by exact bel2 g_w2 HG
    have h_w2 := Below.size HG
    go_wp2_with fail
    refine (CA'.out _ (by exact Rd.grows ha1 (by exact bel0))).mono ?_; rintro e w3 ⟨Am, cm, As, cs, mu, sq, rfl, hrm, hrs, hx, g_w3⟩
    have s_w3 := Below.size g_w3; (try simp at s_w3)
    clear mg_0 mg_1 mg_2 mg_l mg_f
    replace mg := mg.grows (w' := w3) (by exact bel1 g_w3)
    have mg_0 := mg.c0; have mg_1 := mg.c1; have mg_2 := mg.c2; have mg_l := mg.lt; have mg_f := mg.fz
    replace ha1 := ha1.grows (w' := w3) (by exact bel1 g_w3)
    replace HG : Grows w w3 := by exact bel2 g_w3 HG
    have h_w3 := Below.size HG
    cases AO with
    | none =>
      obtain rfl : RES = (false, false) := HR.out
      go_wp2_with fail
      go_ret2
      exact ⟨rfl, by exact bel1 HG⟩
    | some s =>
      obtain rfl := hx s rfl
      have inv := INV.out _ rfl
      have il1 : mu.length = R := inv.l1
      have il2 : sq.length = R := inv.l2
      rw [il1, il2]
      have HS := Lib.hid (show RES = match rdcF (mu, sq) R with | none => (true, true) | some k => (false, k) from HR.out)
      clear HR INV hx
      clear CA'
      go_wp2_with fail
      go_loopw [7] (fun i wr => ∃ (K : Nat), i = .int .i64 ((K : Int) + 1) ∧ (K + 1 ≤ R ∨ K = 0) ∧ rdcF (mu, sq) (K + 1) = none ∧ Grows w3 wr) (fun i _ => R + 1 - (intOf i).toNat)
      case atStart => exact ⟨0, rfl, .inr rfl, rdcF_zero, by exact bel0⟩
      case round =>
        obtain ⟨K, rfl, hI, hF, hg⟩ := hrel
        have HF := Lib.hid hF
        clear hF
        obtain ⟨wi, rfl⟩ : ∃ wi : World, wi = wr := ⟨_, rfl⟩
        have hrmi := hrm.grows RSQ.good hg
        have hrsi := hrs.grows hg
        have mgi := mg.grows hg
        obtain ⟨b0, b1, b2⟩ := mgi.cells
        by_cases hlt : K + 1 < R
        · have hlt' : (K : Int) + 1 < (R : Int) := by omega
          obtain ⟨bm, fm, Aj, cj, rfl, hbm, m0, hrj, hcj⟩ := hrmi.rowQ (K + 1) (by rw [il1]; exact hlt)
          have hjl := inv.row (K + 1) hlt
          have hjl : (mu.getD (K + 1) []).length = K + 1 := hjl
          rw [hjl] at m0 hcj
          obtain ⟨row, hrow⟩ : ∃ row, row = mu.getD (K + 1) [] := ⟨_, rfl⟩
          rw [← hrow] at hrj hjl
          have HROW := Lib.hid hrow
          have HJL := Lib.hid hjl
          have hkc : ((K + 1 : Nat) : Int) = (K : Int) + 1 := by omega
          have hk5 : ((K : Int) + 1).toNat = K + 1 := by omega
          clear hrow hjl
          go_wp2_with fail
          go_loopw [8] (fun j wx => ∃ (J : Nat), j = .int .i64 J ∧ J ≤ K + 1 ∧ halfR row J = none ∧ Grows wi wx) (fun j _ => K + 1 - (intOf j).toNat)
          case atStart => exact ⟨0, rfl, Nat.zero_le _, rfl, by exact bel0⟩
          case round =>
            clear b0 b1 b2
            obtain ⟨J, rfl, hJ, hH, hgj⟩ := hrel
            have HH := Lib.hid hH
            clear hH
            obtain ⟨wj, rfl⟩ : ∃ wj : World, wj = wr := ⟨_, rfl⟩
            have m0j := ((bcell hgj).1 bm (fm + (K + 1)) hbm).trans m0
            have hbmj : bm < wj.heap.size := by have := Below.size hgj; omega
            by_cases hltj : J < K + 1
            · have hltj' : (J : Int) < (K : Int) + 1 := by omega
              have hltj'' : (J : Int) < ((K + 1 : Nat) : Int) := by omega
              obtain ⟨bj, fj, rfl, hbj, j0, j1⟩ := (hrj.grows hgj).at_ J (by rw [HJL.out]; exact hltj)
              obtain ⟨q, hq⟩ : ∃ q, q = nthQ row J := ⟨_, rfl⟩
              rw [← hq] at j0 j1
              have HQ := Lib.hid hq
              clear hq m0
              have CI := fun W => sIsRatio_c q.1 q.2 W
              change ∀ W, Calls Tryz.prog 76 #[.agg #[.int .i64 q.1, .int .i64 q.2]] W (fun e w' => e = .returned (.bool (okQ q)) ∧ Grows W w') at CI
              cases hok : okQ q
              · have hn : RES = (false, false) := by rw [HS.out, rdc_half HF.out hlt hltj (HQ.out.trans (by rw [HROW.out])) (by show halfR (mu.getD (K + 1) []) J = none; rw [← HROW.out]; exact HH.out) (.inl ⟨hok, rfl⟩)]
                rw [hok] at CI
                have CI' := Lib.hid CI
                subst hn
                clear CI hok
                go_wp2_with fail
                refine (CI'.out _).mono ?_; rintro e w6 ⟨rfl, g6⟩
                go_wp2_with fail
                go_ret2
                exact ⟨rfl, by exact bel4 g6 hgj hg HG⟩
              · have hbd := okQ_bd hok
                have CA := fun W => l1Abs_c q.1 W (by omega) (by omega)
                have h0 := absI_pos q.1
                have h1 := (absI_le q.1 400000000).2 (by omega)
                have HN := Lib.hid fun hb => rdc_row HQ.out HH.out hok hb
                have HBAD := Lib.hid (show ¬ 2 * absI q.1 ≤ q.2 → RES = (false, true) from fun hb => by rw [HS.out, rdc_half HF.out hlt hltj (HQ.out.trans (by rw [HROW.out])) (by show halfR (mu.getD (K + 1) []) J = none; rw [← HROW.out]; exact HH.out) (.inr ⟨hok, hb, rfl⟩)])
                rw [hok] at CI
                have CI' := Lib.hid CI
                clear CI hok
                generalize absI q.1 = a at *
                have CA' := Lib.hid CA
                have hwr : IntKind.i64.wrap (2 * a) = 2 * a := IntWalk.i64_in _ (by omega)
                clear CA
                by_cases hb : 2 * a ≤ q.2
                · have hb' : ¬ q.2 < 2 * a := by omega
                  have hb'' : decide (q.2 < 2 * a) = false := decide_eq_false hb'
                  have HN := Lib.hid (HN.out hb)
                  clear hb HBAD
                  go_wp2_with fail
                  refine (CI'.out _).mono ?_; rintro e w6 ⟨rfl, g6⟩
                  have x0 := ext_is (((bcell g6).1 bm (fm + (K + 1)) hbmj).trans m0j)
                  have x1 := ext_is (((bcell g6).1 bj (fj + J * 2) hbj).trans j0)
                  have x2 := ext_is (((bcell g6).1 bj (fj + J * 2 + 1) hbj).trans j1)
                  clear m0j j0 j1
                  go_wp2_with fail
                  ((refine wp_region_ext (by kernel_rfl) (by kernel_rfl) ?_); (repeat (go_big_quiet_step ((go_at_call 84; with_reducible exact extS (CA'.out _))))); refine wpQuiet_nil ?_; rintro w7 ⟨w70, hw70⟩; have g7 := grows_of_ext hw70; clear hw70 w70)
                  go_wp2_with fail
                  go_round
                  case rel => exact ⟨J + 1, by go_num, by omega, HN.out, by exact bel3 g7 g6 hgj⟩
                  case measure => simp [intOf]; omega
                · have hb' : q.2 < 2 * a := by omega
                  have hb'' : decide (q.2 < 2 * a) = true := decide_eq_true hb'
                  obtain rfl : RES = (false, true) := HBAD.out hb
                  clear hb HN HBAD
                  go_wp2_with fail
                  refine (CI'.out _).mono ?_; rintro e w6 ⟨rfl, g6⟩
                  have x0 := ext_is (((bcell g6).1 bm (fm + (K + 1)) hbmj).trans m0j)
                  have x1 := ext_is (((bcell g6).1 bj (fj + J * 2) hbj).trans j0)
                  have x2 := ext_is (((bcell g6).1 bj (fj + J * 2 + 1) hbj).trans j1)
                  clear m0j j0 j1
                  go_wp2_with fail
                  ((refine wp_region_ext (by kernel_rfl) (by kernel_rfl) ?_); (repeat (go_big_quiet_step ((go_at_call 84; with_reducible exact extS (CA'.out _))))); refine wpQuiet_nil ?_; rintro w7 ⟨w70, hw70⟩; have g7 := grows_of_ext hw70; clear hw70 w70)
                  go_wp2_with fail
                  go_ret2
                  exact ⟨rfl, by exact bel5 g7 g6 hgj hg HG⟩
            · obtain rfl : J = K + 1 := by omega
              obtain ⟨bj, fj, rfl, hbj, j0, j1⟩ := (hrj.grows hgj).at_ K (by rw [HJL.out]; omega)
              obtain ⟨bs, fs, rfl, hbs, s0, s1⟩ := (hrsi.grows hgj).at_ K (by rw [il2]; omega)
              obtain ⟨bs', fs', e', _, u0, u1⟩ := (hrsi.grows hgj).at_ (K + 1) (by rw [il2]; exact hlt)
              cases e'
              have hord : ordS (mu, sq) (K + 1) = ordQ (nthQ row K) (nthQ sq K) (nthQ sq (K + 1)) := by rw [HROW.out]; rfl
              have CO := fun W => l19Good_c (nthQ row K) (nthQ sq K) (nthQ sq (K + 1)) W
              rw [← hord] at CO
              have HBAD := Lib.hid (show ¬ (ordS (mu, sq) (K + 1) = 0 ∨ ordS (mu, sq) (K + 1) = 1) → RES = (false, decide (ordS (mu, sq) (K + 1) ≠ 2)) from fun h => by rw [HS.out, rdc_bad (by omega) HF.out hlt (by show halfR (mu.getD (K + 1) []) (K + 1) = none; rw [← HROW.out]; exact HH.out) h])
              have HOK := Lib.hid (show ordS (mu, sq) (K + 1) = 0 ∨ ordS (mu, sq) (K + 1) = 1 → rdcF (mu, sq) (K + 1 + 1) = none from fun h => rdc_ok (by omega) HF.out (by show halfR (mu.getD (K + 1) []) (K + 1) = none; rw [← HROW.out]; exact HH.out) h)
              have hc4 : ordS (mu, sq) (K + 1) = -1 ∨ ordS (mu, sq) (K + 1) = 0 ∨ ordS (mu, sq) (K + 1) = 1 ∨ ordS (mu, sq) (K + 1) = 2 := cmpQ_four _ _
              clear hord
              generalize ordS (mu, sq) (K + 1) = C at *
              generalize nthQ row K = m at *
              generalize nthQ sq K = d at *
              generalize nthQ sq (K + 1) = u at *
              have CO' := Lib.hid CO
              have HC4 := Lib.hid hc4
              clear CO hc4
              have hk2 : ((K : Int) + 1 - 1) = (K : Int) := by omega
              have hk3 : (K : Int) < (R : Int) := by omega
              have hk6 : IntKind.i64.wrap ((K : Int) + 1 - 1) = (K : Int) := by rw [hk2]; exact IntWalk.i64_in _ (by omega)
              have hk7 : IntKind.i64.wrap (K : Int) = (K : Int) := IntWalk.i64_in _ (by omega)
              have hk8 : ¬ ((K : Int) < 0) := by omega
              have hk9 : (0 : Int) ≤ (K : Int) := by omega
              have hk10 : (K : Int) < (K : Int) + 1 := by omega
              have x0 := ext_is m0j
              have x1 := ext_is j0
              have x2 := ext_is j1
              have x3 := ext_is s0
              have x4 := ext_is s1
              have x5 := ext_is u0
              have x6 := ext_is u1
              clear m0 m0j j0 j1 s0 s1 u0 u1
              go_wp2_with fail
              ((refine wp_region_ext (by kernel_rfl) (by kernel_rfl) ?_); (repeat (go_big_quiet_step ((go_at_call 79; with_reducible exact extC (CO'.out _))))); refine wpQuiet_nil ?_; rintro w7 ⟨w70, hw70⟩; have g7 := grows_of_ext hw70; clear hw70 w70)
              rcases HC4.out with rfl | rfl | rfl | rfl
              · obtain rfl : RES = (false, true) := HBAD.out (by omega)
                go_wp2_with fail
                go_ret2
                exact ⟨rfl, by exact bel4 g7 hgj hg HG⟩
              · go_wp2_with fail
                go_round
                case rel => exact ⟨K + 1, by go_num, by omega, HOK.out (by simp), by exact bel3 g7 hgj hg⟩
                case measure => simp [intOf]; omega
              · go_wp2_with fail
                go_round
                case rel => exact ⟨K + 1, by go_num, by omega, HOK.out (by simp), by exact bel3 g7 hgj hg⟩
                case measure => simp [intOf]; omega
              · obtain rfl : RES = (false, false) := HBAD.out (by omega)
                go_wp2_with fail
                go_ret2
                exact ⟨rfl, by exact bel4 g7 hgj hg HG⟩
        · have hlt' : ¬ (K : Int) + 1 < (R : Int) := by omega
          have hlt'' : (R : Int) ≤ (K : Int) + 1 := by omega
          obtain rfl : RES = (true, true) := by rw [HS.out, rdcF_back HF.out (by omega)]
          go_wp2_with fail
          go_ret2
          exact ⟨rfl, by exact bel2 hg HG⟩
end
end Go.Proofs.YtfilbjbogggaoaaGreat

/- The draw of a form. -/
namespace Go.Proofs.YtfilbjbogggaoaaGreat
set_option linter.unusedSimpArgs false
set_option linter.unusedVariables false
open Go.RowKit
section
set_option maxHeartbeats 4000000
set_option maxRecDepth 10000
theorem matDrawReduceGram_c (A : Option Addr) (n cap : Nat) (w : World) (hr : CodeR w w.heap.size A n) (hn : n ≤ 1048576) :
    Calls Tryz.prog 17 #[.slice A n cap] w (DMatC 10 w) := by
  obtain ⟨w1, hw1⟩ : ∃ w1, w1 = w.alloc (.cells #[.int .i64 0, .int .i64 0, .slice none 0 0] 26) := ⟨_, rfl⟩
  have mbr : MBox w1 w.heap.size 0 0 (.slice none 0 0) := by rw [hw1]; exact MBox.mk_ _ _ _ _ _
  have g01 : Grows w w1 := by rw [hw1]; exact bel0
  have hs1 : w1.heap.size = w.heap.size + 1 := by rw [hw1]; simp
  have CN := Lib.hid (l1New_c w.heap.size A n cap w1 (by omega) (hr.keep g01) hn)
  have CG := Lib.hid fun b W h => l18Gram_c w.heap.size b A n cap W h
  have HW1 := Lib.hid hw1
  have HS1 := Lib.hid hs1
  clear hw1 hs1
  go_enter Tryz.func17, Tryz.ntmps17
  go_wp2_with fail
  rw [← HW1.out]
  refine CN.out.mono ?_; rintro e w2 ⟨b, rfl, c2, g2⟩
  have hs2 := Below.size g2
  go_wp2_with fail
  refine (CG.out b _ c2).mono ?_; rintro e w3 ⟨r, c, V, cv, l, rfl, hrb, hl, o3, c3, g3⟩
  have hs3 := g3.size
  have hs1 := HS1.out
  have k3 : Below w.heap.size w2 w3 := c2.below g3
  have g13 : Below w.heap.size w1 w3 := Below.trans (Below.mono g2 (by omega)) k3
  have G : Grows w w3 := Below.trans g01 g13
  have hb : w.heap.size ≠ b := by
    intro e
    obtain ⟨i, h, _, c⟩ := c2
    have h1 := c.c0
    rw [← e, (mbr.grows g2).c0] at h1
    cases h1
  have mb3 := (mbr.grows g2).by_ g3 hb
  have hvl := fun g e => World.ownsRow.lt o3 g e
  clear hs1 g3 k3 g13 mbr
  obtain ⟨d0, d1, d2⟩ := mb3.cells
  have df := mb3.fz
  have dl := mb3.lt
  have hlt2 : w.heap.size < w2.heap.size := by have := HS1.out; omega
  go_wp2_with fail
  refine bodyPost_ret (v := .agg #[.int .i64 r, .int .i64 c, .slice V l.length cv]) ?_ rfl ?_
  · simp [results, Tryz.results17, go_sem, d0, d1, d2, df, dl]
  · refine ⟨r, c, V, cv, l, rfl, hrb, hl, ?_, by exact bel1 G⟩
    refine Own.less (B := w2.heap.size) ?_ (by omega)
    ((repeat' (first | with_reducible exact o3 | with_reducible refine Own.far ?_ ?_ _)); all_goals (intro g hg; have := hvl g hg; (try simp only); omega))
end
end Go.Proofs.YtfilbjbogggaoaaGreat
