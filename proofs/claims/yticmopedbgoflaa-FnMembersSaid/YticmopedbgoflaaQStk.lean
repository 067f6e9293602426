/- Contracts and lemmas, put together. -/
import Derived.Test.YticmopedbgoflaaPkE
import Derived.Test.YticmopedbgoflaaPkI
/- Contracts: whether matrices are the same, the rows of two matrices below one another, whether lattices are the same, their sum. -/
namespace Go.Proofs.Yticmopedbgoflaa
set_option linter.unusedSimpArgs false
set_option linter.unusedVariables false
open Go.RowKit

/-- the variables of a function with two matrices -/
theorem two_only (w : World) (r c r' c' : Int) (u v : Value) :
    ∃ w1, w1 = (w.alloc (.cells #[.int .i64 r, .int .i64 c, u] 26)).alloc (.cells #[.int .i64 r', .int .i64 c', v] 26) ∧
      MBox w1 w.heap.size r c u ∧ MBox w1 (w.heap.size + 1) r' c' v ∧ w1.heap.size = w.heap.size + 2 ∧ Grows w w1 :=
  ⟨_, rfl, (MBox.mk_ _ _ _ _ _).grows ((Below.refl _ _).alloc (Nat.le_refl _) _), MBox.new_ _ _ _ _ _ (by simp), by simp, by exact bel0⟩
def stkO (a b : MX) : Option MX := if a.ok && b.ok && decide (a.c = b.c) && decide (a.r + b.r ≤ 24) then some ⟨a.r + b.r, a.c, a.l ++ b.l⟩ else none
theorem stkO_no {a b : MX} (h : a.ok = false ∨ b.ok = false ∨ a.c ≠ b.c ∨ 24 < a.r + b.r) : stkO a b = none := by
  unfold stkO
  rw [if_neg]
  rcases h with h | h | h | h
  · simp [h]
  · simp [h]
  · simp [h]
  · simp only [Bool.and_eq_true, decide_eq_true_eq]; omega
theorem stkO_yes {a b : MX} (h1 : a.ok = true) (h2 : b.ok = true) (h3 : a.c = b.c) (h4 : a.r + b.r ≤ 24) : stkO a b = some ⟨a.r + b.r, a.c, a.l ++ b.l⟩ := by
  unfold stkO; rw [if_pos (by simp [h1, h2, h3, h4])]
theorem stkO_ok {a b m : MX} (h : stkO a b = some m) : m.ok = true := by
  unfold stkO at h
  split at h
  · rename_i hc
    simp only [Bool.and_eq_true, decide_eq_true_eq] at hc
    obtain ⟨⟨⟨h1, h2⟩, h3⟩, h4⟩ := hc
    cases h
    obtain ⟨R, C, e1, e2, hR, hC, hl, hn⟩ := isMat_ok h1
    obtain ⟨R', C', e3, e4, hR', hC', hl', hn'⟩ := isMat_ok h2
    obtain rfl : C = C' := by omega
    show isMat (a.r + b.r) a.c (a.l ++ b.l) = true
    rw [e1, e3, e2, ← Int.natCast_add]
    rw [isMat_made (by omega) hC (by rw [List.length_append, hl, hl', Nat.add_mul])]
    rw [allNum_iff]
    intro i hi
    by_cases e : i < a.l.length
    · rw [nth_append_left _ _ _ e]; exact hn i e
    · rw [nth_append_right _ _ _ (by omega)]; exact hn' _ (by simp at hi; omega)
  · cases h
/-- whether the rows span the same lattice, and whether that is known -/
def smlB (a b : MX) : Bool × Bool :=
  match basO a, basO b with
  | some x, some y => if a.c = b.c then (eqMat x.r x.c x.l y.r y.c y.l, true) else (false, false)
  | _, _ => (false, false)
def sumO (a b : MX) : Option MX := if latB a.r a.c a.l && latB b.r b.c b.l then (stkO a b).bind basO else none
theorem sumO_ok {a b m : MX} (h : sumO a b = some m) : m.ok = true := by
  unfold sumO at h
  split at h
  · obtain ⟨x, _, h2⟩ := Option.bind_eq_some_iff.1 h
    exact basO_ok h2
  · cases h

section
set_option maxHeartbeats 2000000
theorem sSameMatrix_c (r c r' c' : Int) (A B : Option Addr) (a b : List Int) (n m ca cb : Nat) (w : World) (hn : a.length = n) (hm : b.length = m) (ha : Rd w A a) (hb : Rd w B b) (hl : n ≤ 1099511627776) (hl2 : m ≤ 1099511627776) :
    Calls Try.prog 89 #[.agg #[.int .i64 r, .int .i64 c, .slice A n ca], .agg #[.int .i64 r', .int .i64 c', .slice B m cb]] w fun e w' => e = .returned (.bool (eqMat r c a r' c' b)) ∧ Grows w w' := by
  obtain ⟨w1, hw1, ma, mb, hs1, g01⟩ := two_only w r c r' c' (.slice A n ca) (.slice B m cb)
  have HW1 := Lib.hid hw1
  have ha1 := ha.grows g01
  have hb1 := hb.grows g01
  have HN := Lib.hid hn
  have HM := Lib.hid hm
  obtain ⟨RES, hRES⟩ : ∃ x, x = eqMat r c a r' c' b := ⟨_, rfl⟩
  rw [← hRES]
  unfold eqMat at hRES
  by_cases h1 : r = r'
  · subst h1
    by_cases h2 : c = c'
    · subst h2
      have e1 : RES = eqL a b := by rw [hRES]; simp
      have HR := Lib.hid e1
      clear hw1 hRES hn hm e1
      by_cases h3 : n = m
      · subst h3
        go_enter Try.func89, Try.ntmps89
        go_wp2_with fail
        rw [← HW1.out]
        go_loopw [5] (fun k wr => ∃ (i : Nat), k = .int .i64 i ∧ i ≤ n ∧ (∀ t, t < i → nth a t = nth b t) ∧ Grows w1 wr) (fun k _ => n - (intOf k).toNat)
        case atStart => exact ⟨0, rfl, Nat.zero_le _, fun t h => by omega, Below.refl _ _⟩
        case round =>
          obtain ⟨i, rfl, hi, he, hgr⟩ := hrel
          have HE := Lib.hid he
          clear he
          obtain ⟨x0, x1, x2⟩ := (ma.grows hgr).cells
          obtain ⟨y0, y1, y2⟩ := (mb.grows hgr).cells
          by_cases hlt : i < n
          · obtain ⟨b1, o1, rfl, hbs1, hc1⟩ := (ha1.grows hgr).at_ i (by rw [HN.out]; exact hlt)
            obtain ⟨b2, o2, rfl, hbs2, hc2⟩ := (hb1.grows hgr).at_ i (by rw [HM.out]; exact hlt)
            have i1 : (i : Int) < (n : Int) := by omega
            by_cases hx : nth a i = nth b i
            · have hx' : (nth a i != nth b i) = false := by simpa using hx
              have HX := Lib.hid hx
              clear hx
              go_wp2_with fail
              go_quiet (fail)
              go_wp2_with fail
              go_round
              case rel => exact ⟨i + 1, by go_num, by omega, fun t ht => by (by_cases e : t = i); (· subst e; exact HX.out); (· exact HE.out t (by omega)), below_drewN hgr _⟩
              case measure => simp [intOf]; omega
            · have hx' : (nth a i != nth b i) = true := by simpa using hx
              have HX := Lib.hid (eqL_at hx)
              clear hx
              go_wp2_with fail
              go_quiet (fail)
              go_wp2_with fail
              go_ret
              exact ⟨by rw [HR.out, HX.out]; rfl, by exact bel2 hgr g01⟩
          · obtain rfl : i = n := by omega
            have HX := Lib.hid (eqL_all (a := a) (b := b) (by rw [HN.out, HM.out]) (fun t ht => HE.out t (by have := HN.out; omega)))
            go_wp2_with fail
            go_ret
            exact ⟨by rw [HR.out, HX.out]; rfl, by exact bel2 hgr g01⟩
      · have HX := Lib.hid (eqL_len (a := a) (b := b) (by rw [HN.out, HM.out]; exact h3))
        have hnm' : ((n : Int) != (m : Int)) = true := by simp; omega
        go_enter Try.func89, Try.ntmps89
        go_wp2_with fail
        go_ret
        exact ⟨by rw [HR.out, HX.out]; rfl, by exact bel0⟩
    · have h2' : (c != c') = true := by simpa using h2
      have HR := Lib.hid (show RES = false by rw [hRES]; simp [h2])
      clear hw1 hRES hn hm h2
      go_enter Try.func89, Try.ntmps89
      go_wp2_with fail
      go_ret
      exact ⟨by rw [HR.out]; rfl, by exact bel0⟩
  · have h1' : (r != r') = true := by simpa using h1
    have HR := Lib.hid (show RES = false by rw [hRES]; simp [h1])
    clear hw1 hRES hn hm h1
    go_enter Try.func89, Try.ntmps89
    go_wp2_with fail
    go_ret
    exact ⟨by rw [HR.out]; rfl, by exact bel0⟩
theorem iSml_c (r c r' c' : Int) (A B : Option Addr) (a b : List Int) (n m ca cb : Nat) (w : World) (hn : a.length = n) (hm : b.length = m) (ha : Rd w A a) (hb : Rd w B b) (hl : n ≤ 1099511627776) (hl2 : m ≤ 1099511627776) :
    Calls Try.prog 24 #[.agg #[.int .i64 r, .int .i64 c, .slice A n ca], .agg #[.int .i64 r', .int .i64 c', .slice B m cb]] w fun e w' => e = .returned (.tuple #[.bool (smlB ⟨r, c, a⟩ ⟨r', c', b⟩).1, .bool (smlB ⟨r, c, a⟩ ⟨r', c', b⟩).2]) ∧ Grows w w' := by
  have HA := fun W h => (iBas_c r c A a n ca W hn h hl).mono fun _ _ h => matRet_out h
  have HB := fun W h => (iBas_c r' c' B b m cb W hm h hl2).mono fun _ _ h => matRet_out h
  have XB := Lib.hid fun (x : MX) (h : basO ⟨r, c, a⟩ = some x) => (oM_length (o := some x) fun m h2 => by cases h2; exact basO_ok h)
  have YB := Lib.hid fun (x : MX) (h : basO ⟨r', c', b⟩ = some x) => (oM_length (o := some x) fun m h2 => by cases h2; exact basO_ok h)
  obtain ⟨w1, hw1, ma, mb, hs1, HG⟩ := two_only w r c r' c' (.slice A n ca) (.slice B m cb)
  have HW1 := Lib.hid hw1
  have ha1 := ha.grows HG
  have hb1 := hb.grows HG
  obtain ⟨RES, hRES⟩ : ∃ x, x = smlB ⟨r, c, a⟩ ⟨r', c', b⟩ := ⟨_, rfl⟩
  rw [← hRES]
  unfold smlB at hRES
  generalize basO ⟨r, c, a⟩ = X at *
  generalize basO ⟨r', c', b⟩ = Y at *
  have HR := Lib.hid hRES
  have HA' := Lib.hid HA
  have HB' := Lib.hid HB
  clear hw1 hRES hn hm HA HB hs1
  go_enter Try.func24, Try.ntmps24
  go_wp2_with fail
  rw [← HW1.out]
  have ma_0 := ma.c0; have ma_1 := ma.c1; have ma_2 := ma.c2; have ma_l := ma.lt; have ma_f := ma.fz
  have mb_0 := mb.c0; have mb_1 := mb.c1; have mb_2 := mb.c2; have mb_l := mb.lt; have mb_f := mb.fz
  refine (HA'.out _ (by exact Rd.grows ha1 (by exact bel0))).mono ?_; rintro e w2 ⟨v2, rfl, o2, g_w2⟩
  have s_w2 := Below.size g_w2; (try simp at s_w2)
  clear ma_0 ma_1 ma_2 ma_l ma_f
  replace ma := ma.grows (w' := w2) (by exact bel1 g_w2)
  have ma_0 := ma.c0; have ma_1 := ma.c1; have ma_2 := ma.c2; have ma_l := ma.lt; have ma_f := ma.fz
  clear mb_0 mb_1 mb_2 mb_l mb_f
  replace mb := mb.grows (w' := w2) (by exact bel1 g_w2)
  have mb_0 := mb.c0; have mb_1 := mb.c1; have mb_2 := mb.c2; have mb_l := mb.lt; have mb_f := mb.fz
  replace ha1 := ha1.grows (w' := w2) (by exact bel1 g_w2)
  replace hb1 := hb1.grows (w' := w2) (by exact bel1 g_w2)
  replace HG : Grows w w2 := by exact bel2 g_w2 HG
  have h_w2 := Below.size HG
  obtain ⟨A2, c2, rfl, hr2, _⟩ := o2.val
  go_wp2_with fail
  refine (HB'.out _ (by exact Rd.grows hb1 (by exact bel0))).mono ?_; rintro e w3 ⟨v3, rfl, o3, g_w3⟩
  have s_w3 := Below.size g_w3; (try simp at s_w3)
  clear ma_0 ma_1 ma_2 ma_l ma_f
  replace ma := ma.grows (w' := w3) (by exact bel1 g_w3)
  have ma_0 := ma.c0; have ma_1 := ma.c1; have ma_2 := ma.c2; have ma_l := ma.lt; have ma_f := ma.fz
  clear mb_0 mb_1 mb_2 mb_l mb_f
  replace mb := mb.grows (w' := w3) (by exact bel1 g_w3)
  have mb_0 := mb.c0; have mb_1 := mb.c1; have mb_2 := mb.c2; have mb_l := mb.lt; have mb_f := mb.fz
  replace ha1 := ha1.grows (w' := w3) (by exact bel1 g_w3)
  replace hb1 := hb1.grows (w' := w3) (by exact bel1 g_w3)
  replace hr2 := hr2.grows (w' := w3) (by exact bel1 g_w3)
  have mx : MBox w3 (w2.heap.size) (oM X).r (oM X).c (.slice A2 (oM X).l.length c2) := MBox.grows (MBox.new_ w2 (oM X).r (oM X).c (.slice A2 (oM X).l.length c2) 26 (by simp)) (w' := w3) (by exact bel1 g_w3)
  have mx_0 := mx.c0; have mx_1 := mx.c1; have mx_2 := mx.c2; have mx_l := mx.lt; have mx_f := mx.fz
  replace HG : Grows w w3 := by exact bel2 g_w3 HG
  have h_w3 := Below.size HG
  obtain ⟨A3, c3, rfl, hr3, _⟩ := o3.val
  clear o2 o3
  cases X with
  | none =>
    obtain rfl : RES = (false, false) := by have := HR.out; cases Y <;> exact this
    go_wp2_with fail
    go_ret2
    exact ⟨rfl, by exact bel1 HG⟩
  | some x =>
    cases Y with
    | none =>
      obtain rfl : RES = (false, false) := HR.out
      go_wp2_with fail
      go_ret2
      exact ⟨rfl, by exact bel1 HG⟩
    | some y =>
      have hx := XB.out x rfl
      have hy := YB.out y rfl
      simp only [oM_some] at hx hy mx mx_0 mx_1 mx_2 hr2 hr3 ⊢
      by_cases hc : c = c'
      · have HR2 := Lib.hid (HR.out.trans (if_pos hc))
        subst hc
        have CS := Lib.hid fun W h h' => sameMatrix_c x.r x.c y.r y.c A2 A3 x.l y.l x.l.length y.l.length c2 c3 W rfl rfl h h' (by omega) (by omega)
        go_wp2_with fail
        refine (CS.out _ (by exact Rd.grows hr2 (by exact bel0)) (by exact Rd.grows hr3 (by exact bel0))).mono ?_; rintro e w4 ⟨rfl, g4⟩
        go_wp2_with fail
        go_ret2
        exact ⟨by rw [HR2.out]; rfl, by exact bel2 g4 HG⟩
      · have hc' : (c != c') = true := by simpa using hc
        obtain rfl : RES = (false, false) := HR.out.trans (if_neg hc)
        clear hc
        go_wp2_with fail
        go_ret2
        exact ⟨rfl, by exact bel1 HG⟩
theorem sSml_c (r c r' c' : Int) (A B : Option Addr) (a b : List Int) (n m ca cb : Nat) (w : World) (hn : a.length = n) (hm : b.length = m) (ha : Rd w A a) (hb : Rd w B b) (hl : n ≤ 1099511627776) (hl2 : m ≤ 1099511627776) :
    Calls Try.prog 25 #[.agg #[.int .i64 r, .int .i64 c, .slice A n ca], .agg #[.int .i64 r', .int .i64 c', .slice B m cb]] w fun e w' => e = .returned (.tuple #[.bool (smlB ⟨r, c, a⟩ ⟨r', c', b⟩).1, .bool (smlB ⟨r, c, a⟩ ⟨r', c', b⟩).2]) ∧ Grows w w' := by
  have HA := fun W h => (sBas_c r c A a n ca W hn h hl).mono fun _ _ h => matRet_out h
  have HB := fun W h => (sBas_c r' c' B b m cb W hm h hl2).mono fun _ _ h => matRet_out h
  have XB := Lib.hid fun (x : MX) (h : basO ⟨r, c, a⟩ = some x) => (oM_length (o := some x) fun m h2 => by cases h2; exact basO_ok h)
  have YB := Lib.hid fun (x : MX) (h : basO ⟨r', c', b⟩ = some x) => (oM_length (o := some x) fun m h2 => by cases h2; exact basO_ok h)
  obtain ⟨w1, hw1, ma, mb, hs1, HG⟩ := two_only w r c r' c' (.slice A n ca) (.slice B m cb)
  have HW1 := Lib.hid hw1
  have ha1 := ha.grows HG
  have hb1 := hb.grows HG
  obtain ⟨RES, hRES⟩ : ∃ x, x = smlB ⟨r, c, a⟩ ⟨r', c', b⟩ := ⟨_, rfl⟩
  rw [← hRES]
  unfold smlB at hRES
  generalize basO ⟨r, c, a⟩ = X at *
  generalize basO ⟨r', c', b⟩ = Y at *
  have HR := Lib.hid hRES
  have HA' := Lib.hid HA
  have HB' := Lib.hid HB
  clear hw1 hRES hn hm HA HB hs1
  go_enter Try.func25, Try.ntmps25
  go_wp2_with fail
  rw [← HW1.out]
  have ma_0 := ma.c0; have ma_1 := ma.c1; have ma_2 := ma.c2; have ma_l := ma.lt; have ma_f := ma.fz
  have mb_0 := mb.c0; have mb_1 := mb.c1; have mb_2 := mb.c2; have mb_l := mb.lt; have mb_f := mb.fz
  refine (HA'.out _ (by exact Rd.grows ha1 (by exact bel0))).mono ?_; rintro e w2 ⟨v2, rfl, o2, g_w2⟩
  have s_w2 := Below.size g_w2; (try simp at s_w2)
  clear ma_0 ma_1 ma_2 ma_l ma_f
  replace ma := ma.grows (w' := w2) (by exact bel1 g_w2)
  have ma_0 := ma.c0; have ma_1 := ma.c1; have ma_2 := ma.c2; have ma_l := ma.lt; have ma_f := ma.fz
  clear mb_0 mb_1 mb_2 mb_l mb_f
  replace mb := mb.grows (w' := w2) (by exact bel1 g_w2)
  have mb_0 := mb.c0; have mb_1 := mb.c1; have mb_2 := mb.c2; have mb_l := mb.lt; have mb_f := mb.fz
  replace ha1 := ha1.grows (w' := w2) (by exact bel1 g_w2)
  replace hb1 := hb1.grows (w' := w2) (by exact bel1 g_w2)
  replace HG : Grows w w2 := by exact bel2 g_w2 HG
  have h_w2 := Below.size HG
  obtain ⟨A2, c2, rfl, hr2, _⟩ := o2.val
  go_wp2_with fail
  refine (HB'.out _ (by exact Rd.grows hb1 (by exact bel0))).mono ?_; rintro e w3 ⟨v3, rfl, o3, g_w3⟩
  have s_w3 := Below.size g_w3; (try simp at s_w3)
  clear ma_0 ma_1 ma_2 ma_l ma_f
  replace ma := ma.grows (w' := w3) (by exact bel1 g_w3)
  have ma_0 := ma.c0; have ma_1 := ma.c1; have ma_2 := ma.c2; have ma_l := ma.lt; have ma_f := ma.fz
  clear mb_0 mb_1 mb_2 mb_l mb_f
  replace mb := mb.grows (w' := w3) (by exact bel1 g_w3)
  have mb_0 := mb.c0; have mb_1 := mb.c1; have mb_2 := mb.c2; have mb_l := mb.lt; have mb_f := mb.fz
  replace ha1 := ha1.grows (w' := w3) (by exact bel1 g_w3)
  replace hb1 := hb1.grows (w' := w3) (by exact bel1 g_w3)
  replace hr2 := hr2.grows (w' := w3) (by exact bel1 g_w3)
  have mx : MBox w3 (w2.heap.size) (oM X).r (oM X).c (.slice A2 (oM X).l.length c2) := MBox.grows (MBox.new_ w2 (oM X).r (oM X).c (.slice A2 (oM X).l.length c2) 26 (by simp)) (w' := w3) (by exact bel1 g_w3)
  have mx_0 := mx.c0; have mx_1 := mx.c1; have mx_2 := mx.c2; have mx_l := mx.lt; have mx_f := mx.fz
  replace HG : Grows w w3 := by exact bel2 g_w3 HG
  have h_w3 := Below.size HG
  obtain ⟨A3, c3, rfl, hr3, _⟩ := o3.val
  clear o2 o3
  cases X with
  | none =>
    obtain rfl : RES = (false, false) := by have := HR.out; cases Y <;> exact this
    go_wp2_with fail
    go_ret2
    exact ⟨rfl, by exact bel1 HG⟩
  | some x =>
    cases Y with
    | none =>
      obtain rfl : RES = (false, false) := HR.out
      go_wp2_with fail
      go_ret2
      exact ⟨rfl, by exact bel1 HG⟩
    | some y =>
      have hx := XB.out x rfl
      have hy := YB.out y rfl
      simp only [oM_some] at hx hy mx mx_0 mx_1 mx_2 hr2 hr3 ⊢
      by_cases hc : c = c'
      · have HR2 := Lib.hid (HR.out.trans (if_pos hc))
        subst hc
        have CS := Lib.hid fun W h h' => sSameMatrix_c x.r x.c y.r y.c A2 A3 x.l y.l x.l.length y.l.length c2 c3 W rfl rfl h h' (by omega) (by omega)
        go_wp2_with fail
        refine (CS.out _ (by exact Rd.grows hr2 (by exact bel0)) (by exact Rd.grows hr3 (by exact bel0))).mono ?_; rintro e w4 ⟨rfl, g4⟩
        go_wp2_with fail
        go_ret2
        exact ⟨by rw [HR2.out]; rfl, by exact bel2 g4 HG⟩
      · have hc' : (c != c') = true := by simpa using hc
        obtain rfl : RES = (false, false) := HR.out.trans (if_neg hc)
        clear hc
        go_wp2_with fail
        go_ret2
        exact ⟨rfl, by exact bel1 HG⟩
theorem iStk_c (r c r' c' : Int) (A B : Option Addr) (a b : List Int) (n m ca cb : Nat) (w : World) (hn : a.length = n) (hm : b.length = m) (ha : Rd w A a) (hb : Rd w B b) (hl : n ≤ 1099511627776) (hl2 : m ≤ 1099511627776) :
    Calls Try.prog 40 #[.agg #[.int .i64 r, .int .i64 c, .slice A n ca], .agg #[.int .i64 r', .int .i64 c', .slice B m cb]] w (MatRet (stkO ⟨r, c, a⟩ ⟨r', c', b⟩) w) := by
  have HA := fun W h => iIsMatrix_c r c A a n ca W hn h hl
  have HB := fun W h => iIsMatrix_c r' c' B b m cb W hm h hl2
  obtain ⟨w1, hw1, ma, mb, mr, hs1, HG⟩ := two_mats w r c r' c' (.slice A n ca) (.slice B m cb)
  have HW1 := Lib.hid hw1
  have HS1 := Lib.hid hs1
  have ha1 := ha.grows HG
  have hb1 := hb.grows HG
  obtain ⟨RES, hRES⟩ : ∃ x, x = stkO ⟨r, c, a⟩ ⟨r', c', b⟩ := ⟨_, rfl⟩
  rw [← hRES]
  cases h1 : isMat r c a
  · rw [stkO_no (a := ⟨r, c, a⟩) (.inl h1)] at hRES
    rw [h1] at HA
    have HA' := Lib.hid HA
    subst hRES
    clear hw1 hn hm HA HB hs1 h1
    go_enter Try.func40, Try.ntmps40
    go_wp2_with fail
    rw [← HW1.out]
    have ma_0 := ma.c0; have ma_1 := ma.c1; have ma_2 := ma.c2; have ma_l := ma.lt; have ma_f := ma.fz
    have mb_0 := mb.c0; have mb_1 := mb.c1; have mb_2 := mb.c2; have mb_l := mb.lt; have mb_f := mb.fz
    have mr_0 := mr.c0; have mr_1 := mr.c1; have mr_2 := mr.c2; have mr_l := mr.lt; have mr_f := mr.fz
    refine (HA'.out _ (by exact Rd.grows ha1 (by exact bel0))).mono ?_; rintro e w2 ⟨rfl, g_w2⟩
    have s_w2 := Below.size g_w2; (try simp at s_w2)
    clear ma_0 ma_1 ma_2 ma_l ma_f
    replace ma := ma.grows (w' := w2) (by exact bel1 g_w2)
    have ma_0 := ma.c0; have ma_1 := ma.c1; have ma_2 := ma.c2; have ma_l := ma.lt; have ma_f := ma.fz
    clear mb_0 mb_1 mb_2 mb_l mb_f
    replace mb := mb.grows (w' := w2) (by exact bel1 g_w2)
    have mb_0 := mb.c0; have mb_1 := mb.c1; have mb_2 := mb.c2; have mb_l := mb.lt; have mb_f := mb.fz
    clear mr_0 mr_1 mr_2 mr_l mr_f
    replace mr := mr.grows (w' := w2) (by exact bel1 g_w2)
    have mr_0 := mr.c0; have mr_1 := mr.c1; have mr_2 := mr.c2; have mr_l := mr.lt; have mr_f := mr.fz
    replace ha1 := ha1.grows (w' := w2) (by exact bel1 g_w2)
    replace hb1 := hb1.grows (w' := w2) (by exact bel1 g_w2)
    replace HG : Grows w w2 := by exact bel2 g_w2 HG
    have h_w2 := Below.size HG
    go_wp2_with fail
    refine bodyPost_ret (v := .tuple #[.agg #[.int .i64 0, .int .i64 0, .slice none 0 0], .bool false]) ?_ rfl ?_
    · simp [results, Try.results40, go_sem, mr_0, mr_1, mr_2, mr_f, mr_l]
    · exact ⟨_, rfl, Own.nil _ _, by exact bel1 HG⟩
  · rw [h1] at HA
    have HA' := Lib.hid HA
    cases h2 : isMat r' c' b
    · rw [stkO_no (b := ⟨r', c', b⟩) (.inr (.inl h2))] at hRES
      rw [h2] at HB
      have HB' := Lib.hid HB
      subst hRES
      clear hw1 hn hm HA HB hs1 h1 h2
      go_enter Try.func40, Try.ntmps40
      go_wp2_with fail
      rw [← HW1.out]
      have ma_0 := ma.c0; have ma_1 := ma.c1; have ma_2 := ma.c2; have ma_l := ma.lt; have ma_f := ma.fz
      have mb_0 := mb.c0; have mb_1 := mb.c1; have mb_2 := mb.c2; have mb_l := mb.lt; have mb_f := mb.fz
      have mr_0 := mr.c0; have mr_1 := mr.c1; have mr_2 := mr.c2; have mr_l := mr.lt; have mr_f := mr.fz
      refine (HA'.out _ (by exact Rd.grows ha1 (by exact bel0))).mono ?_; rintro e w2 ⟨rfl, g_w2⟩
      have s_w2 := Below.size g_w2; (try simp at s_w2)
      clear ma_0 ma_1 ma_2 ma_l ma_f
      replace ma := ma.grows (w' := w2) (by exact bel1 g_w2)
      have ma_0 := ma.c0; have ma_1 := ma.c1; have ma_2 := ma.c2; have ma_l := ma.lt; have ma_f := ma.fz
      clear mb_0 mb_1 mb_2 mb_l mb_f
      replace mb := mb.grows (w' := w2) (by exact bel1 g_w2)
      have mb_0 := mb.c0; have mb_1 := mb.c1; have mb_2 := mb.c2; have mb_l := mb.lt; have mb_f := mb.fz
      clear mr_0 mr_1 mr_2 mr_l mr_f
      replace mr := mr.grows (w' := w2) (by exact bel1 g_w2)
      have mr_0 := mr.c0; have mr_1 := mr.c1; have mr_2 := mr.c2; have mr_l := mr.lt; have mr_f := mr.fz
      replace ha1 := ha1.grows (w' := w2) (by exact bel1 g_w2)
      replace hb1 := hb1.grows (w' := w2) (by exact bel1 g_w2)
      replace HG : Grows w w2 := by exact bel2 g_w2 HG
      have h_w2 := Below.size HG
      go_wp2_with fail
      refine (HB'.out _ (by exact Rd.grows hb1 (by exact bel0))).mono ?_; rintro e w3 ⟨rfl, g_w3⟩
      have s_w3 := Below.size g_w3; (try simp at s_w3)
      clear ma_0 ma_1 ma_2 ma_l ma_f
      replace ma := ma.grows (w' := w3) (by exact bel1 g_w3)
      have ma_0 := ma.c0; have ma_1 := ma.c1; have ma_2 := ma.c2; have ma_l := ma.lt; have ma_f := ma.fz
      clear mb_0 mb_1 mb_2 mb_l mb_f
      replace mb := mb.grows (w' := w3) (by exact bel1 g_w3)
      have mb_0 := mb.c0; have mb_1 := mb.c1; have mb_2 := mb.c2; have mb_l := mb.lt; have mb_f := mb.fz
      clear mr_0 mr_1 mr_2 mr_l mr_f
      replace mr := mr.grows (w' := w3) (by exact bel1 g_w3)
      have mr_0 := mr.c0; have mr_1 := mr.c1; have mr_2 := mr.c2; have mr_l := mr.lt; have mr_f := mr.fz
      replace ha1 := ha1.grows (w' := w3) (by exact bel1 g_w3)
      replace hb1 := hb1.grows (w' := w3) (by exact bel1 g_w3)
      replace HG : Grows w w3 := by exact bel2 g_w3 HG
      have h_w3 := Below.size HG
      go_wp2_with fail
      refine bodyPost_ret (v := .tuple #[.agg #[.int .i64 0, .int .i64 0, .slice none 0 0], .bool false]) ?_ rfl ?_
      · simp [results, Try.results40, go_sem, mr_0, mr_1, mr_2, mr_f, mr_l]
      · exact ⟨_, rfl, Own.nil _ _, by exact bel1 HG⟩
    · rw [h2] at HB
      have HB' := Lib.hid HB
      by_cases h3 : c = c'
      · subst h3
        obtain ⟨R, C, rfl, rfl, hR, hC, hla, _⟩ := isMat_nat h1
        obtain ⟨R', C', rfl, e4, hR', hC', hlb, _⟩ := isMat_nat h2
        obtain rfl : C = C' := by omega
        by_cases h4 : R + R' ≤ 24
        · rw [stkO_yes (a := ⟨R, C, a⟩) (b := ⟨R', C, b⟩) h1 h2 rfl (by simp only; omega)] at hRES
          have hwr : IntKind.i64.wrap ((R : Int) + (R' : Int)) = (R : Int) + (R' : Int) := IntWalk.i64_in _ (by omega)
          have h4' : ¬ (24 : Int) < (R : Int) + (R' : Int) := by omega
          have hla2 : a.length ≤ 576 := by rw [hla]; exact Nat.mul_le_mul hR hC
          have hlb2 : b.length ≤ 576 := by rw [hlb]; exact Nat.mul_le_mul hR' hC
          have HN := Lib.hid hn
          have HM := Lib.hid hm
          subst hRES
          clear hw1 hn hm HA HB hs1 h1 h2 e4 h4 hla hlb
          go_enter Try.func40, Try.ntmps40
          go_wp2_with fail
          rw [← HW1.out]
          have ma_0 := ma.c0; have ma_1 := ma.c1; have ma_2 := ma.c2; have ma_l := ma.lt; have ma_f := ma.fz
          have mb_0 := mb.c0; have mb_1 := mb.c1; have mb_2 := mb.c2; have mb_l := mb.lt; have mb_f := mb.fz
          have mr_0 := mr.c0; have mr_1 := mr.c1; have mr_2 := mr.c2; have mr_l := mr.lt; have mr_f := mr.fz
          refine (HA'.out _ (by exact Rd.grows ha1 (by exact bel0))).mono ?_; rintro e w2 ⟨rfl, g_w2⟩
          have s_w2 := Below.size g_w2; (try simp at s_w2)
          clear ma_0 ma_1 ma_2 ma_l ma_f
          replace ma := ma.grows (w' := w2) (by exact bel1 g_w2)
          have ma_0 := ma.c0; have ma_1 := ma.c1; have ma_2 := ma.c2; have ma_l := ma.lt; have ma_f := ma.fz
          clear mb_0 mb_1 mb_2 mb_l mb_f
          replace mb := mb.grows (w' := w2) (by exact bel1 g_w2)
          have mb_0 := mb.c0; have mb_1 := mb.c1; have mb_2 := mb.c2; have mb_l := mb.lt; have mb_f := mb.fz
          clear mr_0 mr_1 mr_2 mr_l mr_f
          replace mr := mr.grows (w' := w2) (by exact bel1 g_w2)
          have mr_0 := mr.c0; have mr_1 := mr.c1; have mr_2 := mr.c2; have mr_l := mr.lt; have mr_f := mr.fz
          replace ha1 := ha1.grows (w' := w2) (by exact bel1 g_w2)
          replace hb1 := hb1.grows (w' := w2) (by exact bel1 g_w2)
          replace HG : Grows w w2 := by exact bel2 g_w2 HG
          have h_w2 := Below.size HG
          go_wp2_with fail
          refine (HB'.out _ (by exact Rd.grows hb1 (by exact bel0))).mono ?_; rintro e w3 ⟨rfl, g_w3⟩
          have s_w3 := Below.size g_w3; (try simp at s_w3)
          clear ma_0 ma_1 ma_2 ma_l ma_f
          replace ma := ma.grows (w' := w3) (by exact bel1 g_w3)
          have ma_0 := ma.c0; have ma_1 := ma.c1; have ma_2 := ma.c2; have ma_l := ma.lt; have ma_f := ma.fz
          clear mb_0 mb_1 mb_2 mb_l mb_f
          replace mb := mb.grows (w' := w3) (by exact bel1 g_w3)
          have mb_0 := mb.c0; have mb_1 := mb.c1; have mb_2 := mb.c2; have mb_l := mb.lt; have mb_f := mb.fz
          clear mr_0 mr_1 mr_2 mr_l mr_f
          replace mr := mr.grows (w' := w3) (by exact bel1 g_w3)
          have mr_0 := mr.c0; have mr_1 := mr.c1; have mr_2 := mr.c2; have mr_l := mr.lt; have mr_f := mr.fz
          replace ha1 := ha1.grows (w' := w3) (by exact bel1 g_w3)
          replace hb1 := hb1.grows (w' := w3) (by exact bel1 g_w3)
          replace HG : Grows w w3 := by exact bel2 g_w3 HG
          have h_w3 := Below.size HG
          go_wp2_with fail
          have hnew : Own (w3.alloc (.cells #[] 3)).drew w3.heap.size (.slice (some ⟨w3.heap.size, 0, none⟩) 0 0) [] := (Own.new_ w3 rfl (Nat.le_refl _)).drew
          have ma3 := ma; have mb3 := mb; have mr3 := mr
          clear mr_0 mr_1 mr_2 mr_l mr_f
          clear mr
          (refine wp_region_heldL (fun W => W.cell? ⟨w.heap.size, 0, none⟩ = some (.int .i64 R) ∧ W.cell? ⟨w.heap.size, 1, none⟩ = some (.int .i64 C) ∧ W.cell? ⟨w.heap.size, 2, none⟩ = some (.slice A n ca) ∧ W.cell? ⟨w.heap.size + 1, 0, none⟩ = some (.int .i64 R') ∧ W.cell? ⟨w.heap.size + 1, 1, none⟩ = some (.int .i64 C) ∧ W.cell? ⟨w.heap.size + 1, 2, none⟩ = some (.slice B m cb)) (by kernel_rfl) (by ((try dsimp only); (first | exact two_boxes2 ma9 mb9 | ((have _tt := ma9); exact two_boxes2 (v := .slice A n ca) (v' := .slice B m cb) (by ((repeat' (first | with_reducible exact ma9 | with_reducible refine MBox.alloc ?_ _ | with_reducible refine MBox.drew_ ?_ | with_reducible refine MBox.far ?_ ?_ _)); all_goals (first | omega | (simp; done) | (simp; omega)))) (by ((repeat' (first | with_reducible exact mb9 | with_reducible refine MBox.alloc ?_ _ | with_reducible refine MBox.drew_ ?_ | with_reducible refine MBox.far ?_ ?_ _)); all_goals (first | omega | (simp; done) | (simp; omega))))) | exact two_boxes2 ma7 mb7 | exact two_boxes2 (ma3.grows (by exact bel0)) (mb3.grows (by exact bel0))))) (fun hHeld => ?_); refine heldL_take (i := 0) (v := _) (by rfl) (by kernel_rfl) (by kernel_rfl) (by kernel_rfl) (fun _ _ _ h => h) (Or.inl ⟨by rfl, fun wS hSw => by ((try dsimp only at hSw); go_simp; (try with_reducible rfl))⟩) (by assumption) ?_; simp only [Act.put, List.setIfInBounds_toArray, List.set_cons_zero, List.set_cons_succ]; refine heldL_take (i := 1) (v := _) (by rfl) (by kernel_rfl) (by kernel_rfl) (by kernel_rfl) (fun _ _ _ h => h) (Or.inl ⟨by rfl, fun wS hSw => by ((try dsimp only at hSw); go_simp; (try with_reducible rfl))⟩) (by assumption) ?_; simp only [Act.put, List.setIfInBounds_toArray, List.set_cons_zero, List.set_cons_succ]; refine heldL_take (i := 2) (v := _) (by rfl) (by kernel_rfl) (by kernel_rfl) (by kernel_rfl) (fun _ _ _ h => h) (Or.inl ⟨by rfl, fun wS hSw => by ((try dsimp only at hSw); go_simp; (try with_reducible rfl))⟩) (by assumption) ?_; simp only [Act.put, List.setIfInBounds_toArray, List.set_cons_zero, List.set_cons_succ]; refine heldL_take (i := 3) (v := _) (by rfl) (by kernel_rfl) (by kernel_rfl) (by kernel_rfl) (fun _ _ _ h => h) (Or.inl ⟨by rfl, fun wS hSw => by ((try dsimp only at hSw); go_simp; (try with_reducible rfl))⟩) (by assumption) ?_; simp only [Act.put, List.setIfInBounds_toArray, List.set_cons_zero, List.set_cons_succ]; refine heldL_take (i := 4) (v := _) (by rfl) (by kernel_rfl) (by kernel_rfl) (by kernel_rfl) (fun _ _ _ h => h) (Or.inl ⟨by rfl, fun wS hSw => by ((try dsimp only at hSw); go_simp; (try with_reducible rfl))⟩) (by assumption) ?_; simp only [Act.put, List.setIfInBounds_toArray, List.set_cons_zero, List.set_cons_succ]; refine heldL_take (i := 5) (v := _) (by rfl) (by kernel_rfl) (by kernel_rfl) (by kernel_rfl) (fun _ _ _ h => h) (Or.inl ⟨by rfl, fun wS hSw => by ((try dsimp only at hSw); go_simp; (try with_reducible rfl))⟩) (by assumption) ?_; simp only [Act.put, List.setIfInBounds_toArray, List.set_cons_zero, List.set_cons_succ]; refine heldL_take (i := 6) (v := _) (by rfl) (by kernel_rfl) (by kernel_rfl) (by kernel_rfl) (fun _ _ _ h => h) (Or.inl ⟨by rfl, fun wS hSw => by ((try dsimp only at hSw); go_simp; (try with_reducible rfl))⟩) (by assumption) ?_; simp only [Act.put, List.setIfInBounds_toArray, List.set_cons_zero, List.set_cons_succ]; refine heldL_take (i := 8) (v := _) (by rfl) (by kernel_rfl) (by kernel_rfl) (by kernel_rfl) (fun _ _ _ h => h) (Or.inl ⟨by rfl, fun wS hSw => by ((try dsimp only at hSw); go_simp; (try with_reducible rfl))⟩) (by assumption) ?_; simp only [Act.put, List.setIfInBounds_toArray, List.set_cons_zero, List.set_cons_succ]; refine heldL_take (i := 9) (v := _) (by rfl) (by kernel_rfl) (by kernel_rfl) (by kernel_rfl) (fun _ _ _ h => h) (Or.inl ⟨by rfl, fun wS hSw => by ((try dsimp only at hSw); go_simp; (try with_reducible rfl))⟩) (by assumption) ?_; simp only [Act.put, List.setIfInBounds_toArray, List.set_cons_zero, List.set_cons_succ]; refine heldL_take (i := 11) (v := _) (by rfl) (by kernel_rfl) (by kernel_rfl) (by kernel_rfl) (fun _ _ _ h => h) (Or.inl ⟨by rfl, fun wS hSw => by ((try dsimp only at hSw); go_simp; (try with_reducible rfl))⟩) (by assumption) ?_; simp only [Act.put, List.setIfInBounds_toArray, List.set_cons_zero, List.set_cons_succ]; refine heldL_take (i := 12) (v := _) (by rfl) (by kernel_rfl) (by kernel_rfl) (by kernel_rfl) (fun _ _ _ h => h) (Or.inl ⟨by rfl, fun wS hSw => by ((try dsimp only at hSw); go_simp; (try with_reducible rfl))⟩) (by assumption) ?_; simp only [Act.put, List.setIfInBounds_toArray, List.set_cons_zero, List.set_cons_succ]; refine heldL_step (i := 7) (by kernel_rfl) (by rfl) (fun K hK => ?_); go_simp; refine hK.out _ _ (by ((try dsimp only); (first | exact two_boxes2 ma9 mb9 | ((have _tt := ma9); exact two_boxes2 (v := .slice A n ca) (v' := .slice B m cb) (by ((repeat' (first | with_reducible exact ma9 | with_reducible refine MBox.alloc ?_ _ | with_reducible refine MBox.drew_ ?_ | with_reducible refine MBox.far ?_ ?_ _)); all_goals (first | omega | (simp; done) | (simp; omega)))) (by ((repeat' (first | with_reducible exact mb9 | with_reducible refine MBox.alloc ?_ _ | with_reducible refine MBox.drew_ ?_ | with_reducible refine MBox.far ?_ ?_ _)); all_goals (first | omega | (simp; done) | (simp; omega))))) | exact two_boxes2 ma7 mb7 | exact two_boxes2 (ma3.grows (by exact bel0)) (mb3.grows (by exact bel0))))) (fun hHeld => ?_); clear hK K; (try simp only [Act.put, List.setIfInBounds_toArray, List.set_cons_zero, List.set_cons_succ]); refine heldL_step (i := 10) (by kernel_rfl) (by rfl) (fun K hK => ?_); (refine step_app rfl (.tmp 37) (.tmp 39) rfl _ w3.heap.size _ [] (by rfl) hnew A a n ca (by rfl) HN.out (by exact (Rd.grows ha1 (by exact bel0))) (by simp; omega) (by simp) ?_; intro v7 w7 ho7 hg7 hv7; have hb7 : Below w3.heap.size w3 w7 := Below.trans (show Grows w3 (w3.alloc (.cells #[] 3)).drew by exact bel0) (below_app hnew (by simp) hg7); rw [List.nil_append] at ho7; obtain ⟨A7, c7, rfl, _, _⟩ := ho7.val; have ma7 := ma3.keep hb7 ma3.lt; have mb7 := mb3.keep hb7 mb3.lt; have hs7 := hb7.size) ; refine hK.out _ _ (by ((try dsimp only); (first | exact two_boxes2 ma9 mb9 | ((have _tt := ma9); exact two_boxes2 (v := .slice A n ca) (v' := .slice B m cb) (by ((repeat' (first | with_reducible exact ma9 | with_reducible refine MBox.alloc ?_ _ | with_reducible refine MBox.drew_ ?_ | with_reducible refine MBox.far ?_ ?_ _)); all_goals (first | omega | (simp; done) | (simp; omega)))) (by ((repeat' (first | with_reducible exact mb9 | with_reducible refine MBox.alloc ?_ _ | with_reducible refine MBox.drew_ ?_ | with_reducible refine MBox.far ?_ ?_ _)); all_goals (first | omega | (simp; done) | (simp; omega))))) | exact two_boxes2 ma7 mb7 | exact two_boxes2 (ma3.grows (by exact bel0)) (mb3.grows (by exact bel0))))) (fun hHeld => ?_); clear hK K; (try simp only [Act.put, List.setIfInBounds_toArray, List.set_cons_zero, List.set_cons_succ]); refine heldL_step (i := 13) (by kernel_rfl) (by rfl) (fun K hK => ?_); (refine step_app rfl (.tmp 40) (.tmp 42) rfl _ w3.heap.size _ a (by rfl) ho7 B b m cb (by rfl) HM.out (by exact (Rd.grows hb1 (by exact bel1 hb7))) (by omega) (by omega) ?_; intro v9 w9 ho9 hg9 hv9; have hb9 : Below w3.heap.size w3 w9 := Below.trans hb7 (below_app ho7 (by omega) hg9); obtain ⟨A9, c9, rfl, _, _⟩ := ho9.val; have ma9 := ma3.keep hb9 ma3.lt; have mb9 := mb3.keep hb9 mb3.lt; have mr9 := mr3.keep hb9 mr3.lt; obtain ⟨r0, r1, r2⟩ := mr9.cells; have rf := mr9.fz; have rl := mr9.lt; have hs9 := hb9.size) ; refine hK.out _ _ (by ((try dsimp only); (first | exact two_boxes2 ma9 mb9 | ((have _tt := ma9); exact two_boxes2 (v := .slice A n ca) (v' := .slice B m cb) (by ((repeat' (first | with_reducible exact ma9 | with_reducible refine MBox.alloc ?_ _ | with_reducible refine MBox.drew_ ?_ | with_reducible refine MBox.far ?_ ?_ _)); all_goals (first | omega | (simp; done) | (simp; omega)))) (by ((repeat' (first | with_reducible exact mb9 | with_reducible refine MBox.alloc ?_ _ | with_reducible refine MBox.drew_ ?_ | with_reducible refine MBox.far ?_ ?_ _)); all_goals (first | omega | (simp; done) | (simp; omega))))) | exact two_boxes2 ma7 mb7 | exact two_boxes2 (ma3.grows (by exact bel0)) (mb3.grows (by exact bel0))))) (fun hHeld => ?_); clear hK K; (try simp only [Act.put, List.setIfInBounds_toArray, List.set_cons_zero, List.set_cons_succ]); refine heldL_take (i := 14) (v := _) (by rfl) (by kernel_rfl) (by kernel_rfl) (by kernel_rfl) (fun _ _ _ h => h) (Or.inl ⟨by rfl, fun wS hSw => by ((try dsimp only at hSw); go_simp; (try with_reducible rfl))⟩) (by assumption) ?_; simp only [Act.put, List.setIfInBounds_toArray, List.set_cons_zero, List.set_cons_succ]; refine heldL_step (i := 15) (by kernel_rfl) (by rfl) (fun K hK => ?_); go_simp; refine hK.out _ _ (by ((try dsimp only); (first | exact two_boxes2 ma9 mb9 | ((have _tt := ma9); exact two_boxes2 (v := .slice A n ca) (v' := .slice B m cb) (by ((repeat' (first | with_reducible exact ma9 | with_reducible refine MBox.alloc ?_ _ | with_reducible refine MBox.drew_ ?_ | with_reducible refine MBox.far ?_ ?_ _)); all_goals (first | omega | (simp; done) | (simp; omega)))) (by ((repeat' (first | with_reducible exact mb9 | with_reducible refine MBox.alloc ?_ _ | with_reducible refine MBox.drew_ ?_ | with_reducible refine MBox.far ?_ ?_ _)); all_goals (first | omega | (simp; done) | (simp; omega))))) | exact two_boxes2 ma7 mb7 | exact two_boxes2 (ma3.grows (by exact bel0)) (mb3.grows (by exact bel0))))) (fun hHeld => ?_); clear hK K; (try simp only [Act.put, List.setIfInBounds_toArray, List.set_cons_zero, List.set_cons_succ]); refine heldL_take (i := 16) (v := _) (by rfl) (by kernel_rfl) (by kernel_rfl) (by kernel_rfl) (fun _ _ _ h => h) (Or.inl ⟨by rfl, fun wS hSw => by ((try dsimp only at hSw); go_simp; (try with_reducible rfl))⟩) (by assumption) ?_; simp only [Act.put, List.setIfInBounds_toArray, List.set_cons_zero, List.set_cons_succ]; refine wpAnyH_done (by kernel_rfl) ?_ _; refine NoPanic.normal ?_)
          go_wp2_with fail
          refine bodyPost_ret (v := .tuple #[.agg #[.int .i64 ((R : Int) + (R' : Int)), .int .i64 C, .slice A9 (a ++ b).length c9], .bool true]) ?_ rfl ?_
          · simp [results, Try.results40, go_sem, r0, r1, r2, rf, rl]
          · have hs1 := HS1.out
            have ho8 := ho9.less (B' := w.heap.size) (by omega)
            have hf : ∀ g, (Value.slice A9 (a ++ b).length c9).ownBlock = some g → g ≠ w.heap.size + 1 + 1 := fun g hg => by have := (World.ownsRow.lt ho9 g hg).1; omega
            exact ⟨_, rfl, ((ho8.far (p := ⟨w.heap.size + 1 + 1, 0, none⟩) hf _).far (p := ⟨w.heap.size + 1 + 1, 1, none⟩) hf _).far (p := ⟨w.heap.size + 1 + 1, 2, none⟩) hf _, by exact bel2 hb9 HG⟩
        · rw [stkO_no (a := ⟨R, C, a⟩) (b := ⟨R', C, b⟩) (.inr (.inr (.inr (by simp only; omega))))] at hRES
          have h4' : (24 : Int) < (R : Int) + (R' : Int) := by omega
          subst hRES
          clear hw1 hn hm HA HB hs1 h1 h2 e4 h4 hla hlb
          go_enter Try.func40, Try.ntmps40
          go_wp2_with fail
          rw [← HW1.out]
          have ma_0 := ma.c0; have ma_1 := ma.c1; have ma_2 := ma.c2; have ma_l := ma.lt; have ma_f := ma.fz
          have mb_0 := mb.c0; have mb_1 := mb.c1; have mb_2 := mb.c2; have mb_l := mb.lt; have mb_f := mb.fz
          have mr_0 := mr.c0; have mr_1 := mr.c1; have mr_2 := mr.c2; have mr_l := mr.lt; have mr_f := mr.fz
          refine (HA'.out _ (by exact Rd.grows ha1 (by exact bel0))).mono ?_; rintro e w2 ⟨rfl, g_w2⟩
          have s_w2 := Below.size g_w2; (try simp at s_w2)
          clear ma_0 ma_1 ma_2 ma_l ma_f
          replace ma := ma.grows (w' := w2) (by exact bel1 g_w2)
          have ma_0 := ma.c0; have ma_1 := ma.c1; have ma_2 := ma.c2; have ma_l := ma.lt; have ma_f := ma.fz
          clear mb_0 mb_1 mb_2 mb_l mb_f
          replace mb := mb.grows (w' := w2) (by exact bel1 g_w2)
          have mb_0 := mb.c0; have mb_1 := mb.c1; have mb_2 := mb.c2; have mb_l := mb.lt; have mb_f := mb.fz
          clear mr_0 mr_1 mr_2 mr_l mr_f
          replace mr := mr.grows (w' := w2) (by exact bel1 g_w2)
          have mr_0 := mr.c0; have mr_1 := mr.c1; have mr_2 := mr.c2; have mr_l := mr.lt; have mr_f := mr.fz
          replace ha1 := ha1.grows (w' := w2) (by exact bel1 g_w2)
          replace hb1 := hb1.grows (w' := w2) (by exact bel1 g_w2)
          replace HG : Grows w w2 := by exact bel2 g_w2 HG
          have h_w2 := Below.size HG
          go_wp2_with fail
          refine (HB'.out _ (by exact Rd.grows hb1 (by exact bel0))).mono ?_; rintro e w3 ⟨rfl, g_w3⟩
          have s_w3 := Below.size g_w3; (try simp at s_w3)
          clear ma_0 ma_1 ma_2 ma_l ma_f
          replace ma := ma.grows (w' := w3) (by exact bel1 g_w3)
          have ma_0 := ma.c0; have ma_1 := ma.c1; have ma_2 := ma.c2; have ma_l := ma.lt; have ma_f := ma.fz
          clear mb_0 mb_1 mb_2 mb_l mb_f
          replace mb := mb.grows (w' := w3) (by exact bel1 g_w3)
          have mb_0 := mb.c0; have mb_1 := mb.c1; have mb_2 := mb.c2; have mb_l := mb.lt; have mb_f := mb.fz
          clear mr_0 mr_1 mr_2 mr_l mr_f
          replace mr := mr.grows (w' := w3) (by exact bel1 g_w3)
          have mr_0 := mr.c0; have mr_1 := mr.c1; have mr_2 := mr.c2; have mr_l := mr.lt; have mr_f := mr.fz
          replace ha1 := ha1.grows (w' := w3) (by exact bel1 g_w3)
          replace hb1 := hb1.grows (w' := w3) (by exact bel1 g_w3)
          replace HG : Grows w w3 := by exact bel2 g_w3 HG
          have h_w3 := Below.size HG
          go_wp2_with fail
          refine bodyPost_ret (v := .tuple #[.agg #[.int .i64 0, .int .i64 0, .slice none 0 0], .bool false]) ?_ rfl ?_
          · simp [results, Try.results40, go_sem, mr_0, mr_1, mr_2, mr_f, mr_l]
          · exact ⟨_, rfl, Own.nil _ _, by exact bel1 HG⟩
      · rw [stkO_no (a := ⟨r, c, a⟩) (b := ⟨r', c', b⟩) (.inr (.inr (.inl h3)))] at hRES
        have h3' : (c != c') = true := by simpa using h3
        subst hRES
        clear hw1 hn hm HA HB hs1 h1 h2 h3
        go_enter Try.func40, Try.ntmps40
        go_wp2_with fail
        rw [← HW1.out]
        have ma_0 := ma.c0; have ma_1 := ma.c1; have ma_2 := ma.c2; have ma_l := ma.lt; have ma_f := ma.fz
        have mb_0 := mb.c0; have mb_1 := mb.c1; have mb_2 := mb.c2; have mb_l := mb.lt; have mb_f := mb.fz
        have mr_0 := mr.c0; have mr_1 := mr.c1; have mr_2 := mr.c2; have mr_l := mr.lt; have mr_f := mr.fz
        refine (HA'.out _ (by exact Rd.grows ha1 (by exact bel0))).mono ?_; rintro e w2 ⟨rfl, g_w2⟩
        have s_w2 := Below.size g_w2; (try simp at s_w2)
        clear ma_0 ma_1 ma_2 ma_l ma_f
        replace ma := ma.grows (w' := w2) (by exact bel1 g_w2)
        have ma_0 := ma.c0; have ma_1 := ma.c1; have ma_2 := ma.c2; have ma_l := ma.lt; have ma_f := ma.fz
        clear mb_0 mb_1 mb_2 mb_l mb_f
        replace mb := mb.grows (w' := w2) (by exact bel1 g_w2)
        have mb_0 := mb.c0; have mb_1 := mb.c1; have mb_2 := mb.c2; have mb_l := mb.lt; have mb_f := mb.fz
        clear mr_0 mr_1 mr_2 mr_l mr_f
        replace mr := mr.grows (w' := w2) (by exact bel1 g_w2)
        have mr_0 := mr.c0; have mr_1 := mr.c1; have mr_2 := mr.c2; have mr_l := mr.lt; have mr_f := mr.fz
        replace ha1 := ha1.grows (w' := w2) (by exact bel1 g_w2)
        replace hb1 := hb1.grows (w' := w2) (by exact bel1 g_w2)
        replace HG : Grows w w2 := by exact bel2 g_w2 HG
        have h_w2 := Below.size HG
        go_wp2_with fail
        refine (HB'.out _ (by exact Rd.grows hb1 (by exact bel0))).mono ?_; rintro e w3 ⟨rfl, g_w3⟩
        have s_w3 := Below.size g_w3; (try simp at s_w3)
        clear ma_0 ma_1 ma_2 ma_l ma_f
        replace ma := ma.grows (w' := w3) (by exact bel1 g_w3)
        have ma_0 := ma.c0; have ma_1 := ma.c1; have ma_2 := ma.c2; have ma_l := ma.lt; have ma_f := ma.fz
        clear mb_0 mb_1 mb_2 mb_l mb_f
        replace mb := mb.grows (w' := w3) (by exact bel1 g_w3)
        have mb_0 := mb.c0; have mb_1 := mb.c1; have mb_2 := mb.c2; have mb_l := mb.lt; have mb_f := mb.fz
        clear mr_0 mr_1 mr_2 mr_l mr_f
        replace mr := mr.grows (w' := w3) (by exact bel1 g_w3)
        have mr_0 := mr.c0; have mr_1 := mr.c1; have mr_2 := mr.c2; have mr_l := mr.lt; have mr_f := mr.fz
        replace ha1 := ha1.grows (w' := w3) (by exact bel1 g_w3)
        replace hb1 := hb1.grows (w' := w3) (by exact bel1 g_w3)
        replace HG : Grows w w3 := by exact bel2 g_w3 HG
        have h_w3 := Below.size HG
        go_wp2_with fail
        refine bodyPost_ret (v := .tuple #[.agg #[.int .i64 0, .int .i64 0, .slice none 0 0], .bool false]) ?_ rfl ?_
        · simp [results, Try.results40, go_sem, mr_0, mr_1, mr_2, mr_f, mr_l]
        · exact ⟨_, rfl, Own.nil _ _, by exact bel1 HG⟩
theorem sStk_c (r c r' c' : Int) (A B : Option Addr) (a b : List Int) (n m ca cb : Nat) (w : World) (hn : a.length = n) (hm : b.length = m) (ha : Rd w A a) (hb : Rd w B b) (hl : n ≤ 1099511627776) (hl2 : m ≤ 1099511627776) :
    Calls Try.prog 120 #[.agg #[.int .i64 r, .int .i64 c, .slice A n ca], .agg #[.int .i64 r', .int .i64 c', .slice B m cb]] w (MatRet (stkO ⟨r, c, a⟩ ⟨r', c', b⟩) w) := by
  have HA := fun W h => sIsMatrix_c r c A a n ca W hn h hl
  have HB := fun W h => sIsMatrix_c r' c' B b m cb W hm h hl2
  obtain ⟨w1, hw1, ma, mb, mr, hs1, HG⟩ := two_mats w r c r' c' (.slice A n ca) (.slice B m cb)
  have HW1 := Lib.hid hw1
  have HS1 := Lib.hid hs1
  have ha1 := ha.grows HG
  have hb1 := hb.grows HG
  obtain ⟨RES, hRES⟩ : ∃ x, x = stkO ⟨r, c, a⟩ ⟨r', c', b⟩ := ⟨_, rfl⟩
  rw [← hRES]
  cases h1 : isMat r c a
  · rw [stkO_no (a := ⟨r, c, a⟩) (.inl h1)] at hRES
    rw [h1] at HA
    have HA' := Lib.hid HA
    subst hRES
    clear hw1 hn hm HA HB hs1 h1
    go_enter Try.func120, Try.ntmps120
    go_wp2_with fail
    rw [← HW1.out]
    have ma_0 := ma.c0; have ma_1 := ma.c1; have ma_2 := ma.c2; have ma_l := ma.lt; have ma_f := ma.fz
    have mb_0 := mb.c0; have mb_1 := mb.c1; have mb_2 := mb.c2; have mb_l := mb.lt; have mb_f := mb.fz
    have mr_0 := mr.c0; have mr_1 := mr.c1; have mr_2 := mr.c2; have mr_l := mr.lt; have mr_f := mr.fz
    refine (HA'.out _ (by exact Rd.grows ha1 (by exact bel0))).mono ?_; rintro e w2 ⟨rfl, g_w2⟩
    have s_w2 := Below.size g_w2; (try simp at s_w2)
    clear ma_0 ma_1 ma_2 ma_l ma_f
    replace ma := ma.grows (w' := w2) (by exact bel1 g_w2)
    have ma_0 := ma.c0; have ma_1 := ma.c1; have ma_2 := ma.c2; have ma_l := ma.lt; have ma_f := ma.fz
    clear mb_0 mb_1 mb_2 mb_l mb_f
    replace mb := mb.grows (w' := w2) (by exact bel1 g_w2)
    have mb_0 := mb.c0; have mb_1 := mb.c1; have mb_2 := mb.c2; have mb_l := mb.lt; have mb_f := mb.fz
    clear mr_0 mr_1 mr_2 mr_l mr_f
    replace mr := mr.grows (w' := w2) (by exact bel1 g_w2)
    have mr_0 := mr.c0; have mr_1 := mr.c1; have mr_2 := mr.c2; have mr_l := mr.lt; have mr_f := mr.fz
    replace ha1 := ha1.grows (w' := w2) (by exact bel1 g_w2)
    replace hb1 := hb1.grows (w' := w2) (by exact bel1 g_w2)
    replace HG : Grows w w2 := by exact bel2 g_w2 HG
    have h_w2 := Below.size HG
    go_wp2_with fail
    refine bodyPost_ret (v := .tuple #[.agg #[.int .i64 0, .int .i64 0, .slice none 0 0], .bool false]) ?_ rfl ?_
    · simp [results, Try.results120, go_sem, mr_0, mr_1, mr_2, mr_f, mr_l]
    · exact ⟨_, rfl, Own.nil _ _, by exact bel1 HG⟩
  · rw [h1] at HA
    have HA' := Lib.hid HA
    cases h2 : isMat r' c' b
    · rw [stkO_no (b := ⟨r', c', b⟩) (.inr (.inl h2))] at hRES
      rw [h2] at HB
      have HB' := Lib.hid HB
      subst hRES
      clear hw1 hn hm HA HB hs1 h1 h2
      go_enter Try.func120, Try.ntmps120
      go_wp2_with fail
      rw [← HW1.out]
      have ma_0 := ma.c0; have ma_1 := ma.c1; have ma_2 := ma.c2; have ma_l := ma.lt; have ma_f := ma.fz
      have mb_0 := mb.c0; have mb_1 := mb.c1; have mb_2 := mb.c2; have mb_l := mb.lt; have mb_f := mb.fz
      have mr_0 := mr.c0; have mr_1 := mr.c1; have mr_2 := mr.c2; have mr_l := mr.lt; have mr_f := mr.fz
      refine (HA'.out _ (by exact Rd.grows ha1 (by exact bel0))).mono ?_; rintro e w2 ⟨rfl, g_w2⟩
      have s_w2 := Below.size g_w2; (try simp at s_w2)
      clear ma_0 ma_1 ma_2 ma_l ma_f
      replace ma := ma.grows (w' := w2) (by exact bel1 g_w2)
      have ma_0 := ma.c0; have ma_1 := ma.c1; have ma_2 := ma.c2; have ma_l := ma.lt; have ma_f := ma.fz
      clear mb_0 mb_1 mb_2 mb_l mb_f
      replace mb := mb.grows (w' := w2) (by exact bel1 g_w2)
      have mb_0 := mb.c0; have mb_1 := mb.c1; have mb_2 := mb.c2; have mb_l := mb.lt; have mb_f := mb.fz
      clear mr_0 mr_1 mr_2 mr_l mr_f
      replace mr := mr.grows (w' := w2) (by exact bel1 g_w2)
      have mr_0 := mr.c0; have mr_1 := mr.c1; have mr_2 := mr.c2; have mr_l := mr.lt; have mr_f := mr.fz
      replace ha1 := ha1.grows (w' := w2) (by exact bel1 g_w2)
      replace hb1 := hb1.grows (w' := w2) (by exact bel1 g_w2)
      replace HG : Grows w w2 := by exact bel2 g_w2 HG
      have h_w2 := Below.size HG
      go_wp2_with fail
      refine (HB'.out _ (by exact Rd.grows hb1 (by exact bel0))).mono ?_; rintro e w3 ⟨rfl, g_w3⟩
      have s_w3 := Below.size g_w3; (try simp at s_w3)
      clear ma_0 ma_1 ma_2 ma_l ma_f
      replace ma := ma.grows (w' := w3) (by exact bel1 g_w3)
      have ma_0 := ma.c0; have ma_1 := ma.c1; have ma_2 := ma.c2; have ma_l := ma.lt; have ma_f := ma.fz
      clear mb_0 mb_1 mb_2 mb_l mb_f
      replace mb := mb.grows (w' := w3) (by exact bel1 g_w3)
      have mb_0 := mb.c0; have mb_1 := mb.c1; have mb_2 := mb.c2; have mb_l := mb.lt; have mb_f := mb.fz
      clear mr_0 mr_1 mr_2 mr_l mr_f
      replace mr := mr.grows (w' := w3) (by exact bel1 g_w3)
      have mr_0 := mr.c0; have mr_1 := mr.c1; have mr_2 := mr.c2; have mr_l := mr.lt; have mr_f := mr.fz
      replace ha1 := ha1.grows (w' := w3) (by exact bel1 g_w3)
      replace hb1 := hb1.grows (w' := w3) (by exact bel1 g_w3)
      replace HG : Grows w w3 := by exact bel2 g_w3 HG
      have h_w3 := Below.size HG
      go_wp2_with fail
      refine bodyPost_ret (v := .tuple #[.agg #[.int .i64 0, .int .i64 0, .slice none 0 0], .bool false]) ?_ rfl ?_
      · simp [results, Try.results120, go_sem, mr_0, mr_1, mr_2, mr_f, mr_l]
      · exact ⟨_, rfl, Own.nil _ _, by exact bel1 HG⟩
    · rw [h2] at HB
      have HB' := Lib.hid HB
      by_cases h3 : c = c'
      · subst h3
        obtain ⟨R, C, rfl, rfl, hR, hC, hla, _⟩ := isMat_nat h1
        obtain ⟨R', C', rfl, e4, hR', hC', hlb, _⟩ := isMat_nat h2
        obtain rfl : C = C' := by omega
        by_cases h4 : R + R' ≤ 24
        · rw [stkO_yes (a := ⟨R, C, a⟩) (b := ⟨R', C, b⟩) h1 h2 rfl (by simp only; omega)] at hRES
          have hwr : IntKind.i64.wrap ((R : Int) + (R' : Int)) = (R : Int) + (R' : Int) := IntWalk.i64_in _ (by omega)
          have h4' : ¬ (24 : Int) < (R : Int) + (R' : Int) := by omega
          have hla2 : a.length ≤ 576 := by rw [hla]; exact Nat.mul_le_mul hR hC
          have hlb2 : b.length ≤ 576 := by rw [hlb]; exact Nat.mul_le_mul hR' hC
          have HN := Lib.hid hn
          have HM := Lib.hid hm
          subst hRES
          clear hw1 hn hm HA HB hs1 h1 h2 e4 h4 hla hlb
          go_enter Try.func120, Try.ntmps120
          go_wp2_with fail
          rw [← HW1.out]
          have ma_0 := ma.c0; have ma_1 := ma.c1; have ma_2 := ma.c2; have ma_l := ma.lt; have ma_f := ma.fz
          have mb_0 := mb.c0; have mb_1 := mb.c1; have mb_2 := mb.c2; have mb_l := mb.lt; have mb_f := mb.fz
          have mr_0 := mr.c0; have mr_1 := mr.c1; have mr_2 := mr.c2; have mr_l := mr.lt; have mr_f := mr.fz
          refine (HA'.out _ (by exact Rd.grows ha1 (by exact bel0))).mono ?_; rintro e w2 ⟨rfl, g_w2⟩
          have s_w2 := Below.size g_w2; (try simp at s_w2)
          clear ma_0 ma_1 ma_2 ma_l ma_f
          replace ma := ma.grows (w' := w2) (by exact bel1 g_w2)
          have ma_0 := ma.c0; have ma_1 := ma.c1; have ma_2 := ma.c2; have ma_l := ma.lt; have ma_f := ma.fz
          clear mb_0 mb_1 mb_2 mb_l mb_f
          replace mb := mb.grows (w' := w2) (by exact bel1 g_w2)
          have mb_0 := mb.c0; have mb_1 := mb.c1; have mb_2 := mb.c2; have mb_l := mb.lt; have mb_f := mb.fz
          clear mr_0 mr_1 mr_2 mr_l mr_f
          replace mr := mr.grows (w' := w2) (by exact bel1 g_w2)
          have mr_0 := mr.c0; have mr_1 := mr.c1; have mr_2 := mr.c2; have mr_l := mr.lt; have mr_f := mr.fz
          replace ha1 := ha1.grows (w' := w2) (by exact bel1 g_w2)
          replace hb1 := hb1.grows (w' := w2) (by exact bel1 g_w2)
          replace HG : Grows w w2 := by exact bel2 g_w2 HG
          have h_w2 := Below.size HG
          go_wp2_with fail
          refine (HB'.out _ (by exact Rd.grows hb1 (by exact bel0))).mono ?_; rintro e w3 ⟨rfl, g_w3⟩
          have s_w3 := Below.size g_w3; (try simp at s_w3)
          clear ma_0 ma_1 ma_2 ma_l ma_f
          replace ma := ma.grows (w' := w3) (by exact bel1 g_w3)
          have ma_0 := ma.c0; have ma_1 := ma.c1; have ma_2 := ma.c2; have ma_l := ma.lt; have ma_f := ma.fz
          clear mb_0 mb_1 mb_2 mb_l mb_f
          replace mb := mb.grows (w' := w3) (by exact bel1 g_w3)
          have mb_0 := mb.c0; have mb_1 := mb.c1; have mb_2 := mb.c2; have mb_l := mb.lt; have mb_f := mb.fz
          clear mr_0 mr_1 mr_2 mr_l mr_f
          replace mr := mr.grows (w' := w3) (by exact bel1 g_w3)
          have mr_0 := mr.c0; have mr_1 := mr.c1; have mr_2 := mr.c2; have mr_l := mr.lt; have mr_f := mr.fz
          replace ha1 := ha1.grows (w' := w3) (by exact bel1 g_w3)
          replace hb1 := hb1.grows (w' := w3) (by exact bel1 g_w3)
          replace HG : Grows w w3 := by exact bel2 g_w3 HG
          have h_w3 := Below.size HG
          go_wp2_with fail
          have hnew : Own (w3.alloc (.cells #[] 3)).drew w3.heap.size (.slice (some ⟨w3.heap.size, 0, none⟩) 0 0) [] := (Own.new_ w3 rfl (Nat.le_refl _)).drew
          have ma3 := ma; have mb3 := mb; have mr3 := mr
          clear mr_0 mr_1 mr_2 mr_l mr_f
          clear mr
          (refine wp_region_heldL (fun W => W.cell? ⟨w.heap.size, 0, none⟩ = some (.int .i64 R) ∧ W.cell? ⟨w.heap.size, 1, none⟩ = some (.int .i64 C) ∧ W.cell? ⟨w.heap.size, 2, none⟩ = some (.slice A n ca) ∧ W.cell? ⟨w.heap.size + 1, 0, none⟩ = some (.int .i64 R') ∧ W.cell? ⟨w.heap.size + 1, 1, none⟩ = some (.int .i64 C) ∧ W.cell? ⟨w.heap.size + 1, 2, none⟩ = some (.slice B m cb)) (by kernel_rfl) (by ((try dsimp only); (first | exact two_boxes2 ma9 mb9 | ((have _tt := ma9); exact two_boxes2 (v := .slice A n ca) (v' := .slice B m cb) (by ((repeat' (first | with_reducible exact ma9 | with_reducible refine MBox.alloc ?_ _ | with_reducible refine MBox.drew_ ?_ | with_reducible refine MBox.far ?_ ?_ _)); all_goals (first | omega | (simp; done) | (simp; omega)))) (by ((repeat' (first | with_reducible exact mb9 | with_reducible refine MBox.alloc ?_ _ | with_reducible refine MBox.drew_ ?_ | with_reducible refine MBox.far ?_ ?_ _)); all_goals (first | omega | (simp; done) | (simp; omega))))) | exact two_boxes2 ma7 mb7 | exact two_boxes2 (ma3.grows (by exact bel0)) (mb3.grows (by exact bel0))))) (fun hHeld => ?_); refine heldL_take (i := 0) (v := _) (by rfl) (by kernel_rfl) (by kernel_rfl) (by kernel_rfl) (fun _ _ _ h => h) (Or.inl ⟨by rfl, fun wS hSw => by ((try dsimp only at hSw); go_simp; (try with_reducible rfl))⟩) (by assumption) ?_; simp only [Act.put, List.setIfInBounds_toArray, List.set_cons_zero, List.set_cons_succ]; refine heldL_take (i := 1) (v := _) (by rfl) (by kernel_rfl) (by kernel_rfl) (by kernel_rfl) (fun _ _ _ h => h) (Or.inl ⟨by rfl, fun wS hSw => by ((try dsimp only at hSw); go_simp; (try with_reducible rfl))⟩) (by assumption) ?_; simp only [Act.put, List.setIfInBounds_toArray, List.set_cons_zero, List.set_cons_succ]; refine heldL_take (i := 2) (v := _) (by rfl) (by kernel_rfl) (by kernel_rfl) (by kernel_rfl) (fun _ _ _ h => h) (Or.inl ⟨by rfl, fun wS hSw => by ((try dsimp only at hSw); go_simp; (try with_reducible rfl))⟩) (by assumption) ?_; simp only [Act.put, List.setIfInBounds_toArray, List.set_cons_zero, List.set_cons_succ]; refine heldL_take (i := 3) (v := _) (by rfl) (by kernel_rfl) (by kernel_rfl) (by kernel_rfl) (fun _ _ _ h => h) (Or.inl ⟨by rfl, fun wS hSw => by ((try dsimp only at hSw); go_simp; (try with_reducible rfl))⟩) (by assumption) ?_; simp only [Act.put, List.setIfInBounds_toArray, List.set_cons_zero, List.set_cons_succ]; refine heldL_take (i := 4) (v := _) (by rfl) (by kernel_rfl) (by kernel_rfl) (by kernel_rfl) (fun _ _ _ h => h) (Or.inl ⟨by rfl, fun wS hSw => by ((try dsimp only at hSw); go_simp; (try with_reducible rfl))⟩) (by assumption) ?_; simp only [Act.put, List.setIfInBounds_toArray, List.set_cons_zero, List.set_cons_succ]; refine heldL_take (i := 5) (v := _) (by rfl) (by kernel_rfl) (by kernel_rfl) (by kernel_rfl) (fun _ _ _ h => h) (Or.inl ⟨by rfl, fun wS hSw => by ((try dsimp only at hSw); go_simp; (try with_reducible rfl))⟩) (by assumption) ?_; simp only [Act.put, List.setIfInBounds_toArray, List.set_cons_zero, List.set_cons_succ]; refine heldL_take (i := 6) (v := _) (by rfl) (by kernel_rfl) (by kernel_rfl) (by kernel_rfl) (fun _ _ _ h => h) (Or.inl ⟨by rfl, fun wS hSw => by ((try dsimp only at hSw); go_simp; (try with_reducible rfl))⟩) (by assumption) ?_; simp only [Act.put, List.setIfInBounds_toArray, List.set_cons_zero, List.set_cons_succ]; refine heldL_take (i := 8) (v := _) (by rfl) (by kernel_rfl) (by kernel_rfl) (by kernel_rfl) (fun _ _ _ h => h) (Or.inl ⟨by rfl, fun wS hSw => by ((try dsimp only at hSw); go_simp; (try with_reducible rfl))⟩) (by assumption) ?_; simp only [Act.put, List.setIfInBounds_toArray, List.set_cons_zero, List.set_cons_succ]; refine heldL_take (i := 9) (v := _) (by rfl) (by kernel_rfl) (by kernel_rfl) (by kernel_rfl) (fun _ _ _ h => h) (Or.inl ⟨by rfl, fun wS hSw => by ((try dsimp only at hSw); go_simp; (try with_reducible rfl))⟩) (by assumption) ?_; simp only [Act.put, List.setIfInBounds_toArray, List.set_cons_zero, List.set_cons_succ]; refine heldL_take (i := 11) (v := _) (by rfl) (by kernel_rfl) (by kernel_rfl) (by kernel_rfl) (fun _ _ _ h => h) (Or.inl ⟨by rfl, fun wS hSw => by ((try dsimp only at hSw); go_simp; (try with_reducible rfl))⟩) (by assumption) ?_; simp only [Act.put, List.setIfInBounds_toArray, List.set_cons_zero, List.set_cons_succ]; refine heldL_take (i := 12) (v := _) (by rfl) (by kernel_rfl) (by kernel_rfl) (by kernel_rfl) (fun _ _ _ h => h) (Or.inl ⟨by rfl, fun wS hSw => by ((try dsimp only at hSw); go_simp; (try with_reducible rfl))⟩) (by assumption) ?_; simp only [Act.put, List.setIfInBounds_toArray, List.set_cons_zero, List.set_cons_succ]; refine heldL_step (i := 7) (by kernel_rfl) (by rfl) (fun K hK => ?_); go_simp; refine hK.out _ _ (by ((try dsimp only); (first | exact two_boxes2 ma9 mb9 | ((have _tt := ma9); exact two_boxes2 (v := .slice A n ca) (v' := .slice B m cb) (by ((repeat' (first | with_reducible exact ma9 | with_reducible refine MBox.alloc ?_ _ | with_reducible refine MBox.drew_ ?_ | with_reducible refine MBox.far ?_ ?_ _)); all_goals (first | omega | (simp; done) | (simp; omega)))) (by ((repeat' (first | with_reducible exact mb9 | with_reducible refine MBox.alloc ?_ _ | with_reducible refine MBox.drew_ ?_ | with_reducible refine MBox.far ?_ ?_ _)); all_goals (first | omega | (simp; done) | (simp; omega))))) | exact two_boxes2 ma7 mb7 | exact two_boxes2 (ma3.grows (by exact bel0)) (mb3.grows (by exact bel0))))) (fun hHeld => ?_); clear hK K; (try simp only [Act.put, List.setIfInBounds_toArray, List.set_cons_zero, List.set_cons_succ]); refine heldL_step (i := 10) (by kernel_rfl) (by rfl) (fun K hK => ?_); (refine step_app rfl (.tmp 37) (.tmp 39) rfl _ w3.heap.size _ [] (by rfl) hnew A a n ca (by rfl) HN.out (by exact (Rd.grows ha1 (by exact bel0))) (by simp; omega) (by simp) ?_; intro v7 w7 ho7 hg7 hv7; have hb7 : Below w3.heap.size w3 w7 := Below.trans (show Grows w3 (w3.alloc (.cells #[] 3)).drew by exact bel0) (below_app hnew (by simp) hg7); rw [List.nil_append] at ho7; obtain ⟨A7, c7, rfl, _, _⟩ := ho7.val; have ma7 := ma3.keep hb7 ma3.lt; have mb7 := mb3.keep hb7 mb3.lt; have hs7 := hb7.size) ; refine hK.out _ _ (by ((try dsimp only); (first | exact two_boxes2 ma9 mb9 | ((have _tt := ma9); exact two_boxes2 (v := .slice A n ca) (v' := .slice B m cb) (by ((repeat' (first | with_reducible exact ma9 | with_reducible refine MBox.alloc ?_ _ | with_reducible refine MBox.drew_ ?_ | with_reducible refine MBox.far ?_ ?_ _)); all_goals (first | omega | (simp; done) | (simp; omega)))) (by ((repeat' (first | with_reducible exact mb9 | with_reducible refine MBox.alloc ?_ _ | with_reducible refine MBox.drew_ ?_ | with_reducible refine MBox.far ?_ ?_ _)); all_goals (first | omega | (simp; done) | (simp; omega))))) | exact two_boxes2 ma7 mb7 | exact two_boxes2 (ma3.grows (by exact bel0)) (mb3.grows (by exact bel0))))) (fun hHeld => ?_); clear hK K; (try simp only [Act.put, List.setIfInBounds_toArray, List.set_cons_zero, List.set_cons_succ]); refine heldL_step (i := 13) (by kernel_rfl) (by rfl) (fun K hK => ?_); (refine step_app rfl (.tmp 40) (.tmp 42) rfl _ w3.heap.size _ a (by rfl) ho7 B b m cb (by rfl) HM.out (by exact (Rd.grows hb1 (by exact bel1 hb7))) (by omega) (by omega) ?_; intro v9 w9 ho9 hg9 hv9; have hb9 : Below w3.heap.size w3 w9 := Below.trans hb7 (below_app ho7 (by omega) hg9); obtain ⟨A9, c9, rfl, _, _⟩ := ho9.val; have ma9 := ma3.keep hb9 ma3.lt; have mb9 := mb3.keep hb9 mb3.lt; have mr9 := mr3.keep hb9 mr3.lt; obtain ⟨r0, r1, r2⟩ := mr9.cells; have rf := mr9.fz; have rl := mr9.lt; have hs9 := hb9.size) ; refine hK.out _ _ (by ((try dsimp only); (first | exact two_boxes2 ma9 mb9 | ((have _tt := ma9); exact two_boxes2 (v := .slice A n ca) (v' := .slice B m cb) (by ((repeat' (first | with_reducible exact ma9 | with_reducible refine MBox.alloc ?_ _ | with_reducible refine MBox.drew_ ?_ | with_reducible refine MBox.far ?_ ?_ _)); all_goals (first | omega | (simp; done) | (simp; omega)))) (by ((repeat' (first | with_reducible exact mb9 | with_reducible refine MBox.alloc ?_ _ | with_reducible refine MBox.drew_ ?_ | with_reducible refine MBox.far ?_ ?_ _)); all_goals (first | omega | (simp; done) | (simp; omega))))) | exact two_boxes2 ma7 mb7 | exact two_boxes2 (ma3.grows (by exact bel0)) (mb3.grows (by exact bel0))))) (fun hHeld => ?_); clear hK K; (try simp only [Act.put, List.setIfInBounds_toArray, List.set_cons_zero, List.set_cons_succ]); refine heldL_take (i := 14) (v := _) (by rfl) (by kernel_rfl) (by kernel_rfl) (by kernel_rfl) (fun _ _ _ h => h) (Or.inl ⟨by rfl, fun wS hSw => by ((try dsimp only at hSw); go_simp; (try with_reducible rfl))⟩) (by assumption) ?_; simp only [Act.put, List.setIfInBounds_toArray, List.set_cons_zero, List.set_cons_succ]; refine heldL_step (i := 15) (by kernel_rfl) (by rfl) (fun K hK => ?_); go_simp; refine hK.out _ _ (by ((try dsimp only); (first | exact two_boxes2 ma9 mb9 | ((have _tt := ma9); exact two_boxes2 (v := .slice A n ca) (v' := .slice B m cb) (by ((repeat' (first | with_reducible exact ma9 | with_reducible refine MBox.alloc ?_ _ | with_reducible refine MBox.drew_ ?_ | with_reducible refine MBox.far ?_ ?_ _)); all_goals (first | omega | (simp; done) | (simp; omega)))) (by ((repeat' (first | with_reducible exact mb9 | with_reducible refine MBox.alloc ?_ _ | with_reducible refine MBox.drew_ ?_ | with_reducible refine MBox.far ?_ ?_ _)); all_goals (first | omega | (simp; done) | (simp; omega))))) | exact two_boxes2 ma7 mb7 | exact two_boxes2 (ma3.grows (by exact bel0)) (mb3.grows (by exact bel0))))) (fun hHeld => ?_); clear hK K; (try simp only [Act.put, List.setIfInBounds_toArray, List.set_cons_zero, List.set_cons_succ]); refine heldL_take (i := 16) (v := _) (by rfl) (by kernel_rfl) (by kernel_rfl) (by kernel_rfl) (fun _ _ _ h => h) (Or.inl ⟨by rfl, fun wS hSw => by ((try dsimp only at hSw); go_simp; (try with_reducible rfl))⟩) (by assumption) ?_; simp only [Act.put, List.setIfInBounds_toArray, List.set_cons_zero, List.set_cons_succ]; refine wpAnyH_done (by kernel_rfl) ?_ _; refine NoPanic.normal ?_)
          go_wp2_with fail
          refine bodyPost_ret (v := .tuple #[.agg #[.int .i64 ((R : Int) + (R' : Int)), .int .i64 C, .slice A9 (a ++ b).length c9], .bool true]) ?_ rfl ?_
          · simp [results, Try.results120, go_sem, r0, r1, r2, rf, rl]
          · have hs1 := HS1.out
            have ho8 := ho9.less (B' := w.heap.size) (by omega)
            have hf : ∀ g, (Value.slice A9 (a ++ b).length c9).ownBlock = some g → g ≠ w.heap.size + 1 + 1 := fun g hg => by have := (World.ownsRow.lt ho9 g hg).1; omega
            exact ⟨_, rfl, ((ho8.far (p := ⟨w.heap.size + 1 + 1, 0, none⟩) hf _).far (p := ⟨w.heap.size + 1 + 1, 1, none⟩) hf _).far (p := ⟨w.heap.size + 1 + 1, 2, none⟩) hf _, by exact bel2 hb9 HG⟩
        · rw [stkO_no (a := ⟨R, C, a⟩) (b := ⟨R', C, b⟩) (.inr (.inr (.inr (by simp only; omega))))] at hRES
          have h4' : (24 : Int) < (R : Int) + (R' : Int) := by omega
          subst hRES
          clear hw1 hn hm HA HB hs1 h1 h2 e4 h4 hla hlb
          go_enter Try.func120, Try.ntmps120
          go_wp2_with fail
          rw [← HW1.out]
          have ma_0 := ma.c0; have ma_1 := ma.c1; have ma_2 := ma.c2; have ma_l := ma.lt; have ma_f := ma.fz
          have mb_0 := mb.c0; have mb_1 := mb.c1; have mb_2 := mb.c2; have mb_l := mb.lt; have mb_f := mb.fz
          have mr_0 := mr.c0; have mr_1 := mr.c1; have mr_2 := mr.c2; have mr_l := mr.lt; have mr_f := mr.fz
          refine (HA'.out _ (by exact Rd.grows ha1 (by exact bel0))).mono ?_; rintro e w2 ⟨rfl, g_w2⟩
          have s_w2 := Below.size g_w2; (try simp at s_w2)
          clear ma_0 ma_1 ma_2 ma_l ma_f
          replace ma := ma.grows (w' := w2) (by exact bel1 g_w2)
          have ma_0 := ma.c0; have ma_1 := ma.c1; have ma_2 := ma.c2; have ma_l := ma.lt; have ma_f := ma.fz
          clear mb_0 mb_1 mb_2 mb_l mb_f
          replace mb := mb.grows (w' := w2) (by exact bel1 g_w2)
          have mb_0 := mb.c0; have mb_1 := mb.c1; have mb_2 := mb.c2; have mb_l := mb.lt; have mb_f := mb.fz
          clear mr_0 mr_1 mr_2 mr_l mr_f
          replace mr := mr.grows (w' := w2) (by exact bel1 g_w2)
          have mr_0 := mr.c0; have mr_1 := mr.c1; have mr_2 := mr.c2; have mr_l := mr.lt; have mr_f := mr.fz
          replace ha1 := ha1.grows (w' := w2) (by exact bel1 g_w2)
          replace hb1 := hb1.grows (w' := w2) (by exact bel1 g_w2)
          replace HG : Grows w w2 := by exact bel2 g_w2 HG
          have h_w2 := Below.size HG
          go_wp2_with fail
          refine (HB'.out _ (by exact Rd.grows hb1 (by exact bel0))).mono ?_; rintro e w3 ⟨rfl, g_w3⟩
          have s_w3 := Below.size g_w3; (try simp at s_w3)
          clear ma_0 ma_1 ma_2 ma_l ma_f
          replace ma := ma.grows (w' := w3) (by exact bel1 g_w3)
          have ma_0 := ma.c0; have ma_1 := ma.c1; have ma_2 := ma.c2; have ma_l := ma.lt; have ma_f := ma.fz
          clear mb_0 mb_1 mb_2 mb_l mb_f
          replace mb := mb.grows (w' := w3) (by exact bel1 g_w3)
          have mb_0 := mb.c0; have mb_1 := mb.c1; have mb_2 := mb.c2; have mb_l := mb.lt; have mb_f := mb.fz
          clear mr_0 mr_1 mr_2 mr_l mr_f
          replace mr := mr.grows (w' := w3) (by exact bel1 g_w3)
          have mr_0 := mr.c0; have mr_1 := mr.c1; have mr_2 := mr.c2; have mr_l := mr.lt; have mr_f := mr.fz
          replace ha1 := ha1.grows (w' := w3) (by exact bel1 g_w3)
          replace hb1 := hb1.grows (w' := w3) (by exact bel1 g_w3)
          replace HG : Grows w w3 := by exact bel2 g_w3 HG
          have h_w3 := Below.size HG
          go_wp2_with fail
          refine bodyPost_ret (v := .tuple #[.agg #[.int .i64 0, .int .i64 0, .slice none 0 0], .bool false]) ?_ rfl ?_
          · simp [results, Try.results120, go_sem, mr_0, mr_1, mr_2, mr_f, mr_l]
          · exact ⟨_, rfl, Own.nil _ _, by exact bel1 HG⟩
      · rw [stkO_no (a := ⟨r, c, a⟩) (b := ⟨r', c', b⟩) (.inr (.inr (.inl h3)))] at hRES
        have h3' : (c != c') = true := by simpa using h3
        subst hRES
        clear hw1 hn hm HA HB hs1 h1 h2 h3
        go_enter Try.func120, Try.ntmps120
        go_wp2_with fail
        rw [← HW1.out]
        have ma_0 := ma.c0; have ma_1 := ma.c1; have ma_2 := ma.c2; have ma_l := ma.lt; have ma_f := ma.fz
        have mb_0 := mb.c0; have mb_1 := mb.c1; have mb_2 := mb.c2; have mb_l := mb.lt; have mb_f := mb.fz
        have mr_0 := mr.c0; have mr_1 := mr.c1; have mr_2 := mr.c2; have mr_l := mr.lt; have mr_f := mr.fz
        refine (HA'.out _ (by exact Rd.grows ha1 (by exact bel0))).mono ?_; rintro e w2 ⟨rfl, g_w2⟩
        have s_w2 := Below.size g_w2; (try simp at s_w2)
        clear ma_0 ma_1 ma_2 ma_l ma_f
        replace ma := ma.grows (w' := w2) (by exact bel1 g_w2)
        have ma_0 := ma.c0; have ma_1 := ma.c1; have ma_2 := ma.c2; have ma_l := ma.lt; have ma_f := ma.fz
        clear mb_0 mb_1 mb_2 mb_l mb_f
        replace mb := mb.grows (w' := w2) (by exact bel1 g_w2)
        have mb_0 := mb.c0; have mb_1 := mb.c1; have mb_2 := mb.c2; have mb_l := mb.lt; have mb_f := mb.fz
        clear mr_0 mr_1 mr_2 mr_l mr_f
        replace mr := mr.grows (w' := w2) (by exact bel1 g_w2)
        have mr_0 := mr.c0; have mr_1 := mr.c1; have mr_2 := mr.c2; have mr_l := mr.lt; have mr_f := mr.fz
        replace ha1 := ha1.grows (w' := w2) (by exact bel1 g_w2)
        replace hb1 := hb1.grows (w' := w2) (by exact bel1 g_w2)
        replace HG : Grows w w2 := by exact bel2 g_w2 HG
        have h_w2 := Below.size HG
        go_wp2_with fail
        refine (HB'.out _ (by exact Rd.grows hb1 (by exact bel0))).mono ?_; rintro e w3 ⟨rfl, g_w3⟩
        have s_w3 := Below.size g_w3; (try simp at s_w3)
        clear ma_0 ma_1 ma_2 ma_l ma_f
        replace ma := ma.grows (w' := w3) (by exact bel1 g_w3)
        have ma_0 := ma.c0; have ma_1 := ma.c1; have ma_2 := ma.c2; have ma_l := ma.lt; have ma_f := ma.fz
        clear mb_0 mb_1 mb_2 mb_l mb_f
        replace mb := mb.grows (w' := w3) (by exact bel1 g_w3)
        have mb_0 := mb.c0; have mb_1 := mb.c1; have mb_2 := mb.c2; have mb_l := mb.lt; have mb_f := mb.fz
        clear mr_0 mr_1 mr_2 mr_l mr_f
        replace mr := mr.grows (w' := w3) (by exact bel1 g_w3)
        have mr_0 := mr.c0; have mr_1 := mr.c1; have mr_2 := mr.c2; have mr_l := mr.lt; have mr_f := mr.fz
        replace ha1 := ha1.grows (w' := w3) (by exact bel1 g_w3)
        replace hb1 := hb1.grows (w' := w3) (by exact bel1 g_w3)
        replace HG : Grows w w3 := by exact bel2 g_w3 HG
        have h_w3 := Below.size HG
        go_wp2_with fail
        refine bodyPost_ret (v := .tuple #[.agg #[.int .i64 0, .int .i64 0, .slice none 0 0], .bool false]) ?_ rfl ?_
        · simp [results, Try.results120, go_sem, mr_0, mr_1, mr_2, mr_f, mr_l]
        · exact ⟨_, rfl, Own.nil _ _, by exact bel1 HG⟩
end
end Go.Proofs.Yticmopedbgoflaa
