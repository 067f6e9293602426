/- Contracts and lemmas, put together. -/
import Derived.Test.YthajmffhgbenpaaPkB
import Derived.Test.YthajmffhgbenpaaPkE
import Derived.Test.YthajmffhgbenpaaPkF
import Derived.Test.YthajmffhgbenpaaPkH
/- Plain: the coordinates of a vector in a lattice, row by row. -/
namespace Go.Proofs.Ythajmffhgbenpaa
set_option linter.unusedSimpArgs false
set_option linter.unusedVariables false
open Go.RowKit

/-- a row times q taken away; the mark where a number is beyond the limit -/
def subRow (C : Nat) (l : List Int) (I : Nat) (q : Int) (x : List Int) : List Int := (List.range C).map fun j => addB (nth x j) (mulB (nth l (I * C + j)) (-q))
theorem subRow_length (C : Nat) (l : List Int) (I : Nat) (q : Int) (x : List Int) : (subRow C l I q x).length = C := by simp [subRow]
theorem subRow_nth {C : Nat} {l : List Int} {I : Nat} {q : Int} {x : List Int} {j : Nat} (h : j < C) : nth (subRow C l I q x) j = addB (nth x j) (mulB (nth l (I * C + j)) (-q)) := by
  rw [nth_get _ _ (by rw [subRow_length]; exact h)]; simp [subRow]
def crdQ (C : Nat) (l : List Int) (I : Nat) (x : List Int) : Int := (nth x (pv C l I)).tdiv (nth l (I * C + pv C l I))
/-- a row: what is left, and the number found -/
def crdS (C : Nat) (l : List Int) (I : Nat) (s : List Int × List Int) : Option (List Int × List Int) :=
  if (nth s.1 (pv C l I)).tmod (nth l (I * C + pv C l I)) = 0 ∧ allNum (subRow C l I (crdQ C l I s.1) s.1) = true then some (subRow C l I (crdQ C l I s.1) s.1, s.2 ++ [crdQ C l I s.1]) else none
def crdF (C : Nat) (l v : List Int) : Nat → Option (List Int × List Int)
  | 0 => some (v, [])
  | I + 1 => (crdF C l v I).bind (crdS C l I)
def crdO (a : MX) (v : List Int) : Option (List Int) :=
  if latB a.r a.c a.l && decide ((v.length : Int) = a.c) && allNum v then
    (crdF a.c.toNat a.l v a.r.toNat).bind fun s => if zeroB s.1 then some s.2 else none
  else none
theorem crdF_none {C : Nat} {l v : List Int} {i k : Nat} (h : crdF C l v i = none) (hk : i ≤ k) : crdF C l v k = none := by
  induction k with
  | zero => obtain rfl : i = 0 := by omega
            exact h
  | succ k ih =>
    by_cases e : i = k + 1
    · rw [← e]; exact h
    · rw [crdF, ih (by omega)]; rfl
theorem crdF_next {C : Nat} {l v : List Int} {I : Nat} {s : List Int × List Int} (h : crdF C l v I = some s) : crdF C l v (I + 1) = crdS C l I s := by rw [crdF, h]; rfl
theorem crdS_some {C : Nat} {l : List Int} {I : Nat} {s s' : List Int × List Int} (h : crdS C l I s = some s') : s' = (subRow C l I (crdQ C l I s.1) s.1, s.2 ++ [crdQ C l I s.1]) ∧ allNum s'.1 = true := by
  unfold crdS at h
  split at h
  · rename_i hc
    cases h
    exact ⟨rfl, hc.2⟩
  · cases h
theorem tdiv_num {x y : Int} (h : isNum x = true) : isNum (x.tdiv y) = true := by
  rw [isNum_iff] at h ⊢
  have h1 : (x.tdiv y).natAbs = x.natAbs / y.natAbs := Int.natAbs_tdiv x y
  have h2 := Nat.div_le_self x.natAbs y.natAbs
  omega
structure CrdI (C : Nat) (v : List Int) (I : Nat) (s : List Int × List Int) : Prop where
  l1 : s.1.length = C
  n1 : allNum s.1 = true
  l2 : s.2.length = I
  n2 : allNum s.2 = true
theorem allNum_snoc {l : List Int} {x : Int} (h : allNum l = true) (hx : isNum x = true) : allNum (l ++ [x]) = true := by
  unfold allNum at *; simp [h, hx]
theorem nth_num {l : List Int} (h : allNum l = true) (i : Nat) : isNum (nth l i) = true := by
  by_cases e : i < l.length
  · exact (allNum_iff l).1 h i e
  · rw [nth_out _ _ (by omega)]; decide
theorem crdF_inv {C : Nat} {l v : List Int} (hv : v.length = C) (hn : allNum v = true) {I : Nat} {s : List Int × List Int} (h : crdF C l v I = some s) : CrdI C v I s := by
  induction I generalizing s with
  | zero => cases h; exact ⟨hv, hn, rfl, rfl⟩
  | succ I ih =>
    cases hI : crdF C l v I with
    | none => rw [crdF, hI] at h; cases h
    | some t =>
      rw [crdF_next hI] at h
      have hi := ih hI
      obtain ⟨rfl, h2⟩ := crdS_some h
      refine ⟨subRow_length _ _ _ _ _, h2, by simp [hi.l2], allNum_snoc hi.n2 ?_⟩
      exact tdiv_num (nth_num hi.n1 _)
theorem crdO_no {a : MX} {v : List Int} (h : latB a.r a.c a.l = false ∨ (v.length : Int) ≠ a.c ∨ allNum v = false) : crdO a v = none := by
  unfold crdO
  rw [if_neg]
  rcases h with h | h | h <;> simp [h]
theorem crdO_yes {R C : Nat} {l v : List Int} (h : latB R C l = true) (hv : v.length = C) (hn : allNum v = true) : crdO ⟨R, C, l⟩ v = (crdF C l v R).bind fun s => if zeroB s.1 then some s.2 else none := by
  unfold crdO
  rw [if_pos (by simp [h, hv, hn])]
  simp only [Int.toNat_natCast]
theorem crdO_some {R C : Nat} {l v x : List Int} (h : crdO ⟨R, C, l⟩ v = some x) : x.length = R ∧ allNum x = true := by
  cases h1 : latB R C l
  · rw [crdO_no (a := ⟨R, C, l⟩) (.inl h1)] at h; cases h
  · by_cases h2 : (v.length : Int) = C
    · cases h3 : allNum v
      · rw [crdO_no (a := ⟨R, C, l⟩) (.inr (.inr h3))] at h; cases h
      · rw [crdO_yes h1 (by omega) h3] at h
        obtain ⟨s, h4, h5⟩ := Option.bind_eq_some_iff.1 h
        have hi := crdF_inv (by omega) h3 h4
        split at h5
        · cases h5; exact ⟨hi.l2, hi.n2⟩
        · cases h5
    · rw [crdO_no (a := ⟨R, C, l⟩) (.inr (.inl h2))] at h; cases h
/-- the cells that are done: exact, within the limit -/
def SubD (C : Nat) (l : List Int) (I : Nat) (q : Int) (x : List Int) (J : Nat) (m : List Int) : Prop :=
  m.length = C ∧ ∀ j, j < C → nth m j = if j < J then nth (subRow C l I q x) j else nth x j
theorem SubD.zero {C : Nat} {l : List Int} {I : Nat} {q : Int} {x : List Int} (h : x.length = C) : SubD C l I q x 0 x := ⟨h, fun j _ => by simp⟩
theorem SubD.cell {C : Nat} {l : List Int} {I : Nat} {q : Int} {x m : List Int} {J : Nat} (h : SubD C l I q x J m) (hJ : J < C) : nth m J = nth x J := by rw [h.2 J hJ, if_neg (by omega)]
theorem SubD.set {C : Nat} {l : List Int} {I : Nat} {q : Int} {x m : List Int} {J : Nat} (h : SubD C l I q x J m) (hJ : J < C) {y : Int} (hy : y = nth (subRow C l I q x) J) : SubD C l I q x (J + 1) (m.set J y) := by
  refine ⟨by rw [List.length_set]; exact h.1, fun j hj => ?_⟩
  rw [nth_set _ _ _ _ (by rw [h.1]; exact hJ)]
  by_cases e : j = J
  · subst e; rw [if_pos rfl, if_pos (by omega), hy]
  · rw [if_neg e, h.2 j hj]
    by_cases e2 : j < J
    · rw [if_pos e2, if_pos (by omega)]
    · rw [if_neg e2, if_neg (by omega)]
theorem SubD.all {C : Nat} {l : List Int} {I : Nat} {q : Int} {x m : List Int} (h : SubD C l I q x C m) : m = subRow C l I q x :=
  nth_ext (by rw [h.1, subRow_length]) fun j hj => by rw [h.2 j (by rw [← h.1]; exact hj), if_pos (by rw [← h.1]; exact hj)]
theorem sub_cell {x r q : Int} (hx : isNum x = true) (hr : isNum r = true) (hq : isNum q = true) :
    addB x (mulB r (-q)) = if isNum (r * q) && isNum (x - r * q) then x - r * q else bad := by
  have hq' : isNum (-q) = true := by rw [isNum_iff] at hq ⊢; omega
  rw [mulB_num hr hq', show r * -q = -(r * q) by rw [Int.mul_neg]]
  cases h1 : isNum (r * q)
  · have : isNum (-(r * q)) = false := by rw [isNum_no] at h1 ⊢; omega
    rw [fit_no this, addB_bad_right]; rfl
  · have : isNum (-(r * q)) = true := by rw [isNum_iff] at h1 ⊢; omega
    rw [fit_yes this, addB_num hx this, show x + -(r * q) = x - r * q by omega]
    cases h2 : isNum (x - r * q)
    · rw [fit_no h2]; rfl
    · rw [fit_yes h2]; rfl
end Go.Proofs.Ythajmffhgbenpaa

/- Contracts: the coordinates of a vector in a lattice. -/
namespace Go.Proofs.Ythajmffhgbenpaa
set_option linter.unusedSimpArgs false
set_option linter.unusedVariables false
open Go.RowKit

theorem crd_fail {R C I : Nat} {l v : List Int} {s : List Int × List Int} (h : crdF C l v I = some s) (hI : I < R) (h2 : crdS C l I s = none) : ((crdF C l v R).bind fun s => if zeroB s.1 then some s.2 else none) = none := by
  have := crdF_next h
  rw [h2] at this
  rw [crdF_none this (by omega)]; rfl
theorem crdS_mod {C I : Nat} {l : List Int} {s : List Int × List Int} (h : (nth s.1 (pv C l I)).tmod (nth l (I * C + pv C l I)) ≠ 0) : crdS C l I s = none := by
  unfold crdS; rw [if_neg]; intro h2; exact h h2.1
theorem crdS_bad {C I J : Nat} {l : List Int} {s : List Int × List Int} (hJ : J < C) (h : isNum (nth (subRow C l I (crdQ C l I s.1) s.1) J) = false) : crdS C l I s = none := by
  unfold crdS; rw [if_neg]; intro h2
  rw [allNum_no (by rw [subRow_length]; exact hJ) h] at h2
  exact absurd h2.2 (by simp)
theorem crdS_yes {C I : Nat} {l : List Int} {s : List Int × List Int} (h : (nth s.1 (pv C l I)).tmod (nth l (I * C + pv C l I)) = 0) (h2 : ∀ j, j < C → isNum (nth (subRow C l I (crdQ C l I s.1) s.1) j) = true) : crdS C l I s = some (subRow C l I (crdQ C l I s.1) s.1, s.2 ++ [crdQ C l I s.1]) := by
  unfold crdS; rw [if_pos]; exact ⟨h, (allNum_iff _).2 fun i hi => h2 i (by rw [subRow_length] at hi; exact hi)⟩

section
set_option maxHeartbeats 2000000
set_option maxRecDepth 100000
theorem iCrd_c (r c : Int) (A B : Option Addr) (l v : List Int) (n cap m cb : Nat) (w : World) (hn : l.length = n) (hcap : n ≤ cap) (hcap2 : cap ≤ 9223372036854775807) (ha : Rd w A l) (hl : n ≤ 1099511627776) (hm : v.length = m) (hb : Rd w B v) (hl2 : m ≤ 1099511627776) :
    Calls Try.prog 27 #[.agg #[.int .i64 r, .int .i64 c, .slice A n cap], .slice B m cb] w (LRet (crdO ⟨r, c, l⟩ v) w) := by
  have HA := fun W h => iIsLat_c r c A l n cap W hn hcap hcap2 h hl
  have HB := fun W h => areNumbers_c B v m cb W hm h hl2
  obtain ⟨w1, hw1⟩ : ∃ w1, w1 = w.alloc (.cells #[.int .i64 r, .int .i64 c, .slice A n cap] 26) := ⟨_, rfl⟩
  have mg : MBox w1 w.heap.size r c (.slice A n cap) := by rw [hw1]; exact MBox.mk_ _ _ _ _ _
  have HG : Grows w w1 := by rw [hw1]; exact bel0
  have ha1 := ha.grows HG
  have hb1 := hb.grows HG
  have HW1 := Lib.hid hw1
  obtain ⟨RES, hRES⟩ : ∃ x, x = crdO ⟨r, c, l⟩ v := ⟨_, rfl⟩
  rw [← hRES]
  cases h1 : latB r c l
  · rw [crdO_no (a := ⟨r, c, l⟩) (.inl h1)] at hRES
    rw [h1] at HA
    have HA' := Lib.hid HA
    subst hRES
    clear hw1 hn hm HA HB h1
    go_enter Try.func27, Try.ntmps27
    go_wp2_with fail
    rw [← HW1.out]
    refine (HA'.out _ (by exact Rd.grows ha1 (by exact bel0))).mono ?_; rintro e w2 ⟨rfl, g_w2⟩
    have s_w2 := Below.size g_w2; (try simp at s_w2)
    replace HG : Grows w w2 := by exact bel2 g_w2 HG
    have h_w2 := Below.size HG
    go_wp2_with fail
    go_ret2
    exact ⟨_, rfl, Own.new_ _ rfl (by omega), by exact bel1 HG⟩
  · rw [h1] at HA
    have HA' := Lib.hid HA
    obtain ⟨hmat, hher, hpv⟩ := latB_parts h1
    obtain ⟨R, C, rfl, rfl, hR, hC, hlen, hnum⟩ := isMat_nat hmat
    simp only [Int.toNat_natCast] at hher hpv
    by_cases h2 : m = C
    · subst h2
      cases h3 : allNum v
      · rw [crdO_no (a := ⟨R, m, l⟩) (.inr (.inr h3))] at hRES
        rw [h3] at HB
        have HB' := Lib.hid HB
        subst hRES
        clear hw1 hn hm HA HB h1 h3 hmat hher hpv hlen hnum
        go_enter Try.func27, Try.ntmps27
        go_wp2_with fail
        rw [← HW1.out]
        have mg_0 := mg.c0; have mg_1 := mg.c1; have mg_2 := mg.c2; have mg_l := mg.lt; have mg_f := mg.fz
        refine (HA'.out _ (by exact Rd.grows ha1 (by exact bel0))).mono ?_; rintro e w2 ⟨rfl, g_w2⟩
        have s_w2 := Below.size g_w2; (try simp at s_w2)
        clear mg_0 mg_1 mg_2 mg_l mg_f
        replace mg := mg.grows (w' := w2) (by exact bel1 g_w2)
        have mg_0 := mg.c0; have mg_1 := mg.c1; have mg_2 := mg.c2; have mg_l := mg.lt; have mg_f := mg.fz
        replace ha1 := ha1.grows (w' := w2) (by exact bel1 g_w2)
        replace hb1 := hb1.grows (w' := w2) (by exact bel1 g_w2)
        replace HG : Grows w w2 := by exact bel2 g_w2 HG
        have h_w2 := Below.size HG
        go_wp2_with fail
        refine (HB'.out _ (by exact Rd.grows hb1 (by exact bel0))).mono ?_; rintro e w3 ⟨rfl, rfl⟩
        go_wp2_with fail
        go_ret2
        exact ⟨_, rfl, Own.new_ _ rfl (by omega), by exact bel1 HG⟩
      · rw [h3] at HB
        have HB' := Lib.hid HB
        rw [crdO_yes h1 hm h3] at hRES
        have HRES := Lib.hid hRES
        have HN := Lib.hid hn
        have HLN := Lib.hid hlen
        have HM := Lib.hid hm
        have HV := Lib.hid h3
        have HNU := Lib.hid hnum
        have HPV := Lib.hid (fun i (hi : i < R) => show pv m l i < m by have := pv_le hlen hi; have := hpv i hi; omega)
        have HZ := Lib.hid fun W x Ar cr hx h => isZeroRow_c Ar x m cr W hx h (by omega)
        have hRC : R * m ≤ 576 := Nat.mul_le_mul hR hC
        clear hw1 hn hm HA HB h1 h3 hmat hher hpv hlen hnum hRES
        go_enter Try.func27, Try.ntmps27
        go_wp2_with fail
        rw [← HW1.out]
        have mg_0 := mg.c0; have mg_1 := mg.c1; have mg_2 := mg.c2; have mg_l := mg.lt; have mg_f := mg.fz
        refine (HA'.out _ (by exact Rd.grows ha1 (by exact bel0))).mono ?_; rintro e w2 ⟨rfl, g_w2⟩
        have s_w2 := Below.size g_w2; (try simp at s_w2)
        clear mg_0 mg_1 mg_2 mg_l mg_f
        replace mg := mg.grows (w' := w2) (by exact bel1 g_w2)
        have mg_0 := mg.c0; have mg_1 := mg.c1; have mg_2 := mg.c2; have mg_l := mg.lt; have mg_f := mg.fz
        replace ha1 := ha1.grows (w' := w2) (by exact bel1 g_w2)
        replace hb1 := hb1.grows (w' := w2) (by exact bel1 g_w2)
        replace HG : Grows w w2 := by exact bel2 g_w2 HG
        have h_w2 := Below.size HG
        go_wp2_with fail
        refine (HB'.out _ (by exact Rd.grows hb1 (by exact bel0))).mono ?_; rintro e w3 ⟨rfl, rfl⟩
        go_wp2_with (at_builtin; refine wpList_app rfl (.tmp 30) (.tmp 31) rfl _ w2.heap.size _ [] (by rfl) (Own.new_ w2 rfl (Nat.le_refl _)) B v m cb (by rfl) HM.out (by exact Rd.grows hb1 (by exact bel0)) (by rw [HM.out]; simp; omega) (by simp) ?_; intro v4 w4 ho4 hg4 _; have g_w4 : Grows w2 w4 := Below.trans (show Grows w2 (w2.alloc (.cells #[] 3)) by exact bel0) (below_app (Own.new_ w2 rfl (Nat.le_refl _)) (by simp) hg4); rw [List.nil_append] at ho4; obtain ⟨A4, c4, hv4, _, _⟩ := ho4.val; rw [HM.out] at hv4; subst hv4; clear hg4)
        have s_w4 := Below.size g_w4
        go_loopw [7, 8] (fun o i wr => ∃ (I : Nat) (s : List Int × List Int) (A7 : Option Addr) (c7 : Nat), i = .int .i64 I ∧ I ≤ R ∧ crdF m l v I = some s ∧ o = .slice A7 I c7 ∧ Own wr w2.heap.size (.slice A4 m c4) s.1 ∧ Own wr w2.heap.size (.slice A7 I c7) s.2 ∧ (∀ g, (Value.slice A7 I c7).ownBlock = some g → (Value.slice A4 m c4).ownBlock ≠ some g) ∧ Grows w2 wr) (fun _ i _ => R - (intOf i).toNat)
        case atStart => exact ⟨0, (v, []), _, _, rfl, Nat.zero_le _, rfl, rfl, ho4.alloc _, Own.new_ w4 rfl (by omega), fun g hg e => by (simp [Value.ownBlock] at hg; have := (World.ownsRow.lt ho4 g e).2; omega), by exact bel1 g_w4⟩
        case round =>
          clear ho4 g_w4 s_w4
          obtain ⟨I, s, A7, c7, rfl, hI, hF, rfl, hor, hoo, hap, hg⟩ := hrel
          have HF := Lib.hid hF
          have HI := Lib.hid (crdF_inv HM.out HV.out hF)
          have HAP := Lib.hid hap
          have hsr := Below.size hg
          have b0 := (mg.grows hg).c0; have b1 := (mg.grows hg).c1; have b2 := (mg.grows hg).c2
          clear mg_0 mg_1 mg_2 mg_l mg_f
          clear mg
          clear hF hap
          by_cases hlt : I < R
          · have hlt' : (I : Int) < (R : Int) := by omega
            have hpv := HPV.out I hlt
            have HPZ := Lib.hid (pv_ne HLN.out hlt hpv)
            have hFC : fcI (rowL m l I) = (pv m l I : Int) := by rw [fcI_pv HLN.out hlt, if_neg (by omega)]
            have hIC : (I + 1) * m ≤ n := by rw [← HN.out, HLN.out]; exact Nat.mul_le_mul_right m hlt
            have CR := fun W => row_c R m A l n cap I I W rfl HN.out hcap hcap2 hIC (by omega) (by omega)
            have hrl : (rowL m l I).length = m := rowL_length (by rw [HN.out]; exact hIC)
            have CF := fun W h => firstCell_c (rowA cap m A I) (rowL m l I) m (cap - I * m) W hrl h (by omega)
            rw [hFC] at CF
            have hrow : Rd w2 (rowA cap m A I) (rowL m l I) := rowA_rd (cap := cap) (C := m) (I := I) ha1 (by rw [HN.out]; exact hIC) (by rw [HN.out]; exact hcap)
            obtain ⟨b, off, hA, hbs, hcP⟩ := hrow.at_ (pv m l I) (by rw [hrl]; exact hpv)
            generalize rowA cap m A I = dR at *
            subst hA
            rw [rowL_nth hpv] at hcP
            have HRL := Lib.hid hrl
            have CR' := Lib.hid CR
            have CF' := Lib.hid CF
            clear CR CF hFC hrl hIC
            obtain ⟨g, ca4, ev, hgB, hgs⟩ := hor.form (by rw [HI.out.l1]; omega)
            simp only [Value.slice.injEq] at ev
            obtain ⟨rfl, -, -⟩ := ev
            have hq : crdQ m l I s.1 = (nth s.1 (pv m l I)).tdiv (nth l (I * m + pv m l I)) := rfl
            have hqn : isNum (crdQ m l I s.1) = true := tdiv_num (nth_num HI.out.n1 _)
            have hxn : isNum (nth s.1 (pv m l I)) = true := nth_num HI.out.n1 _
            have hyn : isNum (nth l (I * m + pv m l I)) = true := HNU.out _ (by rw [HLN.out]; exact idx_lt hlt hpv)
            have HS0 := Lib.hid fun h => crd_fail HF.out hlt (crdS_mod h)
            have HS1 := Lib.hid fun J hJ h => crd_fail HF.out hlt (crdS_bad (I := I) (s := s) (J := J) hJ h)
            have HS2 := Lib.hid fun h h2 => (crdF_next HF.out).trans (crdS_yes (I := I) (s := s) h h2)
            have hcr := hor.cell (pv m l I) (by rw [HI.out.l1]; exact hpv)
            have hI1 := HI.out.l1
            obtain ⟨bx1, bx2⟩ := (isNum_iff _).1 hxn
            obtain ⟨by1, by2⟩ := (isNum_iff _).1 hyn
            have hy0 := HPZ.out
            generalize crdQ m l I s.1 = q at *
            generalize pv m l I = P at *
            generalize nth s.1 P = x at *
            generalize nth l (I * m + P) = y at *
            have HQ := Lib.hid hq
            have HI1 := Lib.hid hI1
            have HX := Lib.hid hxn
            have HQN := Lib.hid hqn
            have hPi : (P : Int) < (m : Int) := by omega
            have hy' : (y == 0) = false := by rw [beq_eq_false_iff_ne]; exact hy0
            clear hq hI1 hqn hxn hyn HPZ HF
            by_cases hmod : x.tmod y = 0
            · have hm' : (x.tmod y != 0) = false := by simp [hmod]
              have HMOD := Lib.hid hmod
              have hquo : IntKind.i64.wrap (x.tdiv y) = q := by rw [HQ.out]; have := (isNum_iff _).1 (tdiv_num (y := y) HX.out); exact IntWalk.i64_in _ (by omega)
              clear hmod
              go_wp2_with fail
              refine (CR'.out _).mono ?_; rintro e w5 ⟨rfl, g5⟩
              have hrow5 := hrow.grows (w' := w5) (by exact bel2 g5 hg)
              have hor5 := hor.grows (w' := w5) (by exact bel1 g5)
              have hoo5 := hoo.grows (w' := w5) (by exact bel1 g5)
              have g25 : Grows w2 w5 := by exact bel2 g5 hg
              go_wp2_with fail
              refine (CF'.out _ (by exact (Rd.grows hrow5 (by exact bel0)))).mono ?_; rintro e w6 ⟨rfl, rfl⟩
              have k1 := (bcell g25).1 b (off + P) hbs
              rw [hcP] at k1
              have k2 := (bcell g5).1 g P hgs
              rw [hcr] at k2
              have hs5 := Below.size g25
              clear b0 b1 b2 hcP hcr
              go_wp2_with fail
              go_quiet (fail)
              go_wp2_with fail
              go_quiet (fail)
              go_wp2_with fail
              go_loopw [67] (fun k wx => ∃ (J : Nat) (x' : List Int), k = .int .i64 J ∧ J ≤ m ∧ SubD m l I q s.1 J x' ∧ (∀ j, j < J → isNum (nth (subRow m l I q s.1) j) = true) ∧ Own wx w2.heap.size (.slice (some ⟨g, 0, none⟩) m c4) x' ∧ Own wx w2.heap.size (.slice A7 I c7) s.2 ∧ Grows w2 wx) (fun k _ => m - (intOf k).toNat)
              case atStart => exact ⟨0, s.1, rfl, Nat.zero_le _, SubD.zero HI1.out, fun j h => by omega, hor5, hoo5, by exact bel1 g25⟩
              case round =>
                clear hor5 hoo5 g25 g5 hs5 k1 k2 hrow5 hg hsr hgs
                obtain ⟨J, x', rfl, hJ, hsd, hnu, hor6, hoo6, hg6⟩ := hrel
                have HSD := Lib.hid hsd
                have HNJ := Lib.hid hnu
                have hgl := hor6.lt
                have hsx := Below.size hg6
                clear hsd hnu
                by_cases hlt2 : J < m
                · have hlt2' : (J : Int) < (m : Int) := by omega
                  obtain ⟨b', o', e', hbs', hcJ⟩ := (hrow.grows hg6).at_ J (by rw [HRL.out]; exact hlt2)
                  cases e'
                  rw [rowL_nth hlt2] at hcJ
                  have hcx := hor6.cell J (by rw [HSD.out.1]; exact hlt2)
                  rw [HSD.out.cell hlt2] at hcx
                  have hfx := hor6.free J
                  have hxn := nth_num HI.out.n1 J
                  have hzn := HNU.out (I * m + J) (by rw [HLN.out]; exact idx_lt hlt hlt2)
                  have HT := Lib.hid ((subRow_nth (l := l) (I := I) (q := q) (x := s.1) hlt2).trans (sub_cell hxn hzn HQN.out))
                  have hmb := mul_bd hzn HQN.out
                  obtain ⟨bu1, bu2⟩ := (isNum_iff _).1 hxn
                  clear hxn hzn
                  have hos := fun y => hor6.put (HSD.out.1) J y
                  have hof := fun y : Int => hoo6.far (p := ⟨g, J, none⟩) (fun g' h e => HAP.out g' h (by rw [e]; rfl)) (.int .i64 y)
                  have HOS := Lib.hid hos
                  have HOF := Lib.hid hof
                  generalize nth l (I * m + J) = z at *
                  generalize nth s.1 J = u at *
                  have NX := fun W => iIsNumber_c (z * q) W
                  clear hos hof
                  cases hz : isNum (z * q)
                  · obtain rfl : RES = none := by rw [HRES.out]; exact HS1.out J hlt2 (by rw [HT.out, hz]; exact bad_not)
                    rw [hz] at NX
                    have NX' := Lib.hid NX
                    clear NX hz
                    go_wp2_with fail
                    refine (NX'.out _).mono ?_; rintro e w' ⟨rfl, rfl⟩
                    go_wp2_with fail
                    go_ret2
                    exact ⟨_, rfl, Own.new_ _ (by simp) (by first | omega | (simp; omega)), by exact bel2 hg6 HG⟩
                  · rw [hz] at NX
                    have NX' := Lib.hid NX
                    have NY := fun W => iIsNumber_c (u - z * q) W
                    cases hy : isNum (u - z * q)
                    · obtain rfl : RES = none := by rw [HRES.out]; exact HS1.out J hlt2 (by rw [HT.out, hz, hy]; exact bad_not)
                      rw [hy] at NY
                      have NY' := Lib.hid NY
                      clear NX hz NY hy
                      go_wp2_with fail
                      refine (NX'.out _).mono ?_; rintro e w' ⟨rfl, rfl⟩
                      go_wp2_with fail
                      refine (NY'.out _).mono ?_; rintro e w' ⟨rfl, rfl⟩
                      go_wp2_with fail
                      go_ret2
                      exact ⟨_, rfl, Own.new_ _ (by simp) (by first | omega | (simp; omega)), by exact bel2 hg6 HG⟩
                    · rw [hy] at NY
                      have NY' := Lib.hid NY
                      have HV2 := Lib.hid (HT.out.trans (show _ = u - z * q by rw [hz, hy]; rfl))
                      have HY := Lib.hid hy
                      clear NX hz NY hy
                      go_wp2_with fail
                      refine (NX'.out _).mono ?_; rintro e w' ⟨rfl, rfl⟩
                      go_wp2_with fail
                      refine (NY'.out _).mono ?_; rintro e w' ⟨rfl, rfl⟩
                      go_wp2_with fail
                      go_round
                      case rel => exact ⟨J + 1, x'.set J (u - z * q), by go_num, by omega, HSD.out.set hlt2 HV2.out.symm, fun j hj => by (by_cases e : j = J); (· subst e; rw [HV2.out]; exact HY.out); (· exact HNJ.out j (by omega)), HOS.out _, HOF.out _, by exact bel1 hg6⟩
                      case measure => simp [intOf]; omega
                · obtain rfl : J = m := by omega
                  have hfin := HSD.out.all
                  subst hfin
                  have HNX := Lib.hid (HS2.out HMOD.out (fun j hj => HNJ.out j hj))
                  have HL8 := Lib.hid (show (s.2 ++ [q]).length = I + 1 by simp [HI.out.l2])
                  go_wp2_with (at_builtin; refine wpList_app1 rfl (.tmp 96) (.tmp 98) rfl _ q w2.heap.size _ s.2 (by rfl) hoo6 (by rfl) (by rw [HI.out.l2]; omega) (by omega) ?_; intro v8 w8 ho8 hg8 hv8; have hor8 := hor6.other hg8 HAP.out; have hap8 := apart_app hor6 HAP.out hv8; have hb8 : Below w2.heap.size _ w8 := below_app hoo6 (by omega) hg8; obtain ⟨A8, c8, hv8e, _, _⟩ := ho8.val; rw [HL8.out] at hv8e; subst hv8e; clear hg8 hv8)
                  have HA8 := Lib.hid hap8
                  clear hap8
                  go_round
                  case rel => exact ⟨I + 1, (subRow J l I q s.1, s.2 ++ [q]), _, _, by go_num, by omega, HNX.out, rfl, hor8, ho8, HA8.out, by exact bel2 hb8 hg6⟩
                  case measure => simp [intOf]; omega
            · have hm' : (x.tmod y != 0) = true := by simpa using hmod
              obtain rfl : RES = none := by rw [HRES.out]; exact HS0.out hmod
              clear hmod
              go_wp2_with fail
              refine (CR'.out _).mono ?_; rintro e w5 ⟨rfl, g5⟩
              have hrow5 := hrow.grows (w' := w5) (by exact bel2 g5 hg)
              have g25 : Grows w2 w5 := by exact bel2 g5 hg
              go_wp2_with fail
              refine (CF'.out _ (by exact (Rd.grows hrow5 (by exact bel0)))).mono ?_; rintro e w6 ⟨rfl, rfl⟩
              have k1 := (bcell g25).1 b (off + P) hbs
              rw [hcP] at k1
              have k2 := (bcell g5).1 g P hgs
              rw [hcr] at k2
              have hs5 := Below.size g25
              clear b0 b1 b2 hcP hcr
              go_wp2_with fail
              go_quiet (fail)
              go_wp2_with fail
              go_ret2
              exact ⟨_, rfl, Own.new_ _ (by simp) (by omega), by exact bel2 g25 HG⟩
          · obtain rfl : I = R := by omega
            have CZ := fun W h => HZ.out W s.1 A4 c4 HI.out.l1 h
            have hrd := hor.rd'
            cases hz : zeroB s.1
            · obtain rfl : RES = none := by rw [HRES.out, HF.out]; simp [hz]
              rw [hz] at CZ
              have CZ' := Lib.hid CZ
              clear CZ hz
              go_wp2_with fail
              refine (CZ'.out _ (by exact (Rd.grows hrd (by exact bel0)))).mono ?_; rintro e w6 ⟨rfl, rfl⟩
              go_wp2_with fail
              go_ret2
              exact ⟨_, rfl, Own.new_ _ (by simp) (by omega), by exact bel2 hg HG⟩
            · obtain rfl : RES = some s.2 := by rw [HRES.out, HF.out]; simp [hz]
              rw [hz] at CZ
              have CZ' := Lib.hid CZ
              clear CZ hz
              go_wp2_with fail
              refine (CZ'.out _ (by exact (Rd.grows hrd (by exact bel0)))).mono ?_; rintro e w6 ⟨rfl, rfl⟩
              go_wp2_with fail
              go_ret2
              exact ⟨_, rfl, hoo.less (by omega), by exact bel2 hg HG⟩
    · rw [crdO_no (a := ⟨R, C, l⟩) (.inr (.inl (by simp only; omega)))] at hRES
      have h2' : ((m : Int) != (C : Int)) = true := by simp; omega
      subst hRES
      clear hw1 hn hm HA HB h1 hmat hher hpv hlen hnum
      go_enter Try.func27, Try.ntmps27
      go_wp2_with fail
      rw [← HW1.out]
      have mg_0 := mg.c0; have mg_1 := mg.c1; have mg_2 := mg.c2; have mg_l := mg.lt; have mg_f := mg.fz
      refine (HA'.out _ (by exact Rd.grows ha1 (by exact bel0))).mono ?_; rintro e w2 ⟨rfl, g_w2⟩
      have s_w2 := Below.size g_w2; (try simp at s_w2)
      clear mg_0 mg_1 mg_2 mg_l mg_f
      replace mg := mg.grows (w' := w2) (by exact bel1 g_w2)
      have mg_0 := mg.c0; have mg_1 := mg.c1; have mg_2 := mg.c2; have mg_l := mg.lt; have mg_f := mg.fz
      replace ha1 := ha1.grows (w' := w2) (by exact bel1 g_w2)
      replace hb1 := hb1.grows (w' := w2) (by exact bel1 g_w2)
      replace HG : Grows w w2 := by exact bel2 g_w2 HG
      have h_w2 := Below.size HG
      go_wp2_with fail
      go_ret2
      exact ⟨_, rfl, Own.new_ _ rfl (by omega), by exact bel1 HG⟩
end
end Go.Proofs.Ythajmffhgbenpaa

/- Contracts: the coordinates of a vector in a lattice, the reference's way. -/
namespace Go.Proofs.Ythajmffhgbenpaa
set_option linter.unusedSimpArgs false
set_option linter.unusedVariables false
open Go.RowKit

theorem subRow_mkd {C : Nat} {l : List Int} {I : Nat} {q : Int} {x : List Int} : mkd (subRow C l I q x) := fun j hj => by
  rw [subRow_length] at hj
  rw [subRow_nth hj]; exact addB_or' _ _
theorem crdS_bad' {C I : Nat} {l : List Int} {s : List Int × List Int} (h : allNum (subRow C l I (crdQ C l I s.1) s.1) = false) : crdS C l I s = none := by
  unfold crdS; rw [if_neg]; intro h2; rw [h] at h2; exact absurd h2.2 (by simp)
theorem crdS_yes' {C I : Nat} {l : List Int} {s : List Int × List Int} (h : (nth s.1 (pv C l I)).tmod (nth l (I * C + pv C l I)) = 0) (h2 : allNum (subRow C l I (crdQ C l I s.1) s.1) = true) : crdS C l I s = some (subRow C l I (crdQ C l I s.1) s.1, s.2 ++ [crdQ C l I s.1]) := by
  unfold crdS; rw [if_pos ⟨h, h2⟩]
theorem isMat_one {v : List Int} {m : Nat} (hv : v.length = m) (hm : m ≤ 24) : isMat 1 m v = allNum v := by
  have := isMat_made (R := 1) (C := m) (by omega) hm (show v.length = 1 * m by omega)
  simpa using this

section
set_option maxHeartbeats 2000000
set_option maxRecDepth 100000
end
end Go.Proofs.Ythajmffhgbenpaa

/- Contracts: the coordinates of the rows of a lattice in another. -/
namespace Go.Proofs.Ythajmffhgbenpaa
set_option linter.unusedSimpArgs false
set_option linter.unusedVariables false
open Go.RowKit

def crmF (a : MX) (C : Nat) (l : List Int) : Nat → Option (List (List Int))
  | 0 => some []
  | i + 1 => (crmF a C l i).bind fun L => (crdO a (rowL C l i)).map fun x => L ++ [x]
def crmO (a b : MX) : Option MX :=
  if latB a.r a.c a.l && latB b.r b.c b.l && decide (a.c = b.c) then (crmF a b.c.toNat b.l b.r.toNat).map fun L => ⟨b.r, a.r, flatF L b.r.toNat⟩ else none
theorem crmF_none {a : MX} {C : Nat} {l : List Int} {i k : Nat} (h : crmF a C l i = none) (hk : i ≤ k) : crmF a C l k = none := by
  induction k with
  | zero => obtain rfl : i = 0 := by omega
            exact h
  | succ k ih =>
    by_cases e : i = k + 1
    · rw [← e]; exact h
    · rw [crmF, ih (by omega)]; rfl
theorem crmF_fail {a : MX} {C : Nat} {l : List Int} {i : Nat} {L : List (List Int)} (h : crmF a C l i = some L) (h2 : crdO a (rowL C l i) = none) : crmF a C l (i + 1) = none := by rw [crmF, h, Option.bind_some, h2]; rfl
theorem crmF_next {a : MX} {C : Nat} {l : List Int} {i : Nat} {L : List (List Int)} {x : List Int} (h : crmF a C l i = some L) (h2 : crdO a (rowL C l i) = some x) : crmF a C l (i + 1) = some (L ++ [x]) := by rw [crmF, h, Option.bind_some, h2]; rfl
theorem crmO_none {a b : MX} {i : Nat} (hi : i ≤ b.r.toNat) (h : crmF a b.c.toNat b.l i = none) : crmO a b = none := by
  unfold crmO
  rw [crmF_none h hi]
  split <;> rfl
theorem crmO_no {a b : MX} (h : latB a.r a.c a.l = false ∨ latB b.r b.c b.l = false ∨ a.c ≠ b.c) : crmO a b = none := by
  unfold crmO
  rw [if_neg]
  rcases h with h | h | h <;> simp [h]
theorem crmO_yes {a b : MX} {L : List (List Int)} (h1 : latB a.r a.c a.l = true) (h2 : latB b.r b.c b.l = true) (h3 : a.c = b.c) (h : crmF a b.c.toNat b.l b.r.toNat = some L) : crmO a b = some ⟨b.r, a.r, flatF L b.r.toNat⟩ := by
  unfold crmO
  rw [if_pos (by rw [h1, h2, decide_eq_true h3]; rfl), h]; rfl
/-- what is known of the numbers found for a vector -/
theorem crdO_lat {a : MX} {v x : List Int} (h : crdO a v = some x) : latB a.r a.c a.l = true ∧ x.length = a.r.toNat ∧ x.length ≤ 24 ∧ allNum x = true := by
  cases h1 : latB a.r a.c a.l
  · rw [crdO_no (.inl h1)] at h; cases h
  · obtain ⟨hm, _⟩ := latB_parts h1
    obtain ⟨R, C, e1, e2, hR, hC, _⟩ := isMat_nat hm
    obtain ⟨r, c, l⟩ := a
    simp only at e1 e2
    subst e1 e2
    obtain ⟨h2, h3⟩ := crdO_some h
    exact ⟨rfl, by simp [h2], by omega, h3⟩
structure CrmI (a : MX) (i : Nat) (L : List (List Int)) : Prop where
  len : L.length = i
  row : ∀ j, j < i → latB a.r a.c a.l = true ∧ (L.getD j []).length = a.r.toNat ∧ (L.getD j []).length ≤ 24 ∧ allNum (L.getD j []) = true
theorem getD_app_left {L M : List (List Int)} {j : Nat} (h : j < L.length) : (L ++ M).getD j [] = L.getD j [] := by
  simp only [List.getD_eq_getElem?_getD, List.getElem?_append_left h]
theorem getD_app_last {L : List (List Int)} {x : List Int} : (L ++ [x]).getD L.length [] = x := by
  simp only [List.getD_eq_getElem?_getD, List.getElem?_append_right (Nat.le_refl _), Nat.sub_self]; rfl
theorem crmF_inv {a : MX} {C : Nat} {l : List Int} {i : Nat} {L : List (List Int)} (h : crmF a C l i = some L) : CrmI a i L := by
  induction i generalizing L with
  | zero => cases h; exact ⟨rfl, fun j h => by omega⟩
  | succ i ih =>
    rw [crmF] at h
    obtain ⟨M, h1, h2⟩ := Option.bind_eq_some_iff.1 h
    obtain ⟨x, h3, rfl⟩ := Option.map_eq_some_iff.1 h2
    have hi := ih h1
    refine ⟨by simp [hi.len], fun j hj => ?_⟩
    by_cases e : j < i
    · rw [getD_app_left (by rw [hi.len]; exact e)]; exact hi.row j e
    · obtain rfl : j = M.length := by rw [hi.len]; omega
      rw [getD_app_last]; exact crdO_lat h3
theorem flatF_app {L M : List (List Int)} {i : Nat} (h : i ≤ L.length) : flatF (L ++ M) i = flatF L i := by
  induction i with
  | zero => rfl
  | succ i ih => rw [flatF, flatF, ih (by omega), getD_app_left (by omega)]
theorem flatF_snoc {L : List (List Int)} {x : List Int} {i : Nat} (h : L.length = i) : flatF (L ++ [x]) (i + 1) = flatF L i ++ x := by
  subst h
  rw [flatF, flatF_app (Nat.le_refl _), getD_app_last]
theorem flatF_bound {L : List (List Int)} {n : Nat} (h : ∀ j, j < n → (L.getD j []).length ≤ 24) (i : Nat) (hi : i ≤ n) : (flatF L i).length ≤ i * 24 := by
  induction i with
  | zero => simp [flatF]
  | succ i ih => rw [flatF, List.length_append]; have := ih (by omega); have := h i (by omega); omega
theorem flatF_num {L : List (List Int)} {n : Nat} (h : ∀ j, j < n → allNum (L.getD j []) = true) (i : Nat) (hi : i ≤ n) : allNum (flatF L i) = true := by
  induction i with
  | zero => rfl
  | succ i ih =>
    have h1 := ih (by omega); have h2 := h i (by omega)
    rw [flatF]; unfold allNum at *; rw [List.all_append, h1, h2]; rfl
theorem crm_mat {R R' C C' : Nat} {a l : List Int} {L : List (List Int)} (hR : R ≤ 24) (hR' : R' ≤ 24) (h : crmF ⟨R, C', a⟩ C l R' = some L) : isMat R' R (flatF L R') = true ∧ (flatF L R').length = R' * R ∧ ∀ i, i < L.length → (L.getD i []).length = R := by
  have hi := crmF_inv h
  have hrow : ∀ i, i < L.length → (L.getD i []).length = R := fun i h => by have := (hi.row i (by rw [← hi.len]; exact h)).2.1; simpa using this
  have hlen := flatF_length hrow R' (by rw [hi.len]; exact Nat.le_refl _)
  refine ⟨?_, hlen, hrow⟩
  rw [isMat_made hR' hR hlen]
  exact flatF_num (n := R') (fun j hj => (hi.row j hj).2.2.2) R' (Nat.le_refl _)
theorem crmO_ok {a b m : MX} (h : crmO a b = some m) : m.ok = true := by
  unfold crmO at h
  split at h
  · rename_i hc
    simp only [Bool.and_eq_true, decide_eq_true_eq] at hc
    obtain ⟨⟨h1, h2⟩, h3⟩ := hc
    obtain ⟨L, h4, rfl⟩ := Option.map_eq_some_iff.1 h
    obtain ⟨hm, _⟩ := latB_parts h1
    obtain ⟨R, C, e1, e2, hR, hC, _⟩ := isMat_nat hm
    obtain ⟨hm', _⟩ := latB_parts h2
    obtain ⟨R', C', e3, e4, hR', hC', _⟩ := isMat_nat hm'
    obtain ⟨r, c, l⟩ := a
    simp only at e1 e2
    subst e1 e2
    unfold MX.ok
    simp only [e3, e4, Int.toNat_natCast] at h4 ⊢
    exact (crm_mat hR hR' h4).1
  · cases h
theorem adR_own {v : Value} {g : Nat} (h : adR v = some g) : v.ownBlock = some g := by
  unfold adR at h
  split at h
  · split at h
    · cases h
    · cases h; rfl
  · cases h

section
set_option maxHeartbeats 2000000
set_option maxRecDepth 100000
theorem iCrm_c (r c r' c' : Int) (A B : Option Addr) (a b : List Int) (n m ca cb : Nat) (w : World) (hn : a.length = n) (hm : b.length = m) (hca : n ≤ ca) (hca2 : ca ≤ 9223372036854775807) (hcb : m ≤ cb) (hcb2 : cb ≤ 9223372036854775807) (ha : Rd w A a) (hb : Rd w B b) (hl : n ≤ 1099511627776) (hl2 : m ≤ 1099511627776) :
    Calls Try.prog 11 #[.agg #[.int .i64 r, .int .i64 c, .slice A n ca], .agg #[.int .i64 r', .int .i64 c', .slice B m cb]] w (MatRet (crmO ⟨r, c, a⟩ ⟨r', c', b⟩) w) := by
  have HA := fun W h => iIsLat_c r c A a n ca W hn hca hca2 h hl
  have HB := fun W h => iIsLat_c r' c' B b m cb W hm hcb hcb2 h hl2
  obtain ⟨w1, hw1, ma, mb, mr, hs1, HG⟩ := two_mats w r c r' c' (.slice A n ca) (.slice B m cb)
  have HW1 := Lib.hid hw1
  have HS1 := Lib.hid hs1
  have ha1 := ha.grows HG
  have hb1 := hb.grows HG
  obtain ⟨RES, hRES⟩ : ∃ x, x = crmO ⟨r, c, a⟩ ⟨r', c', b⟩ := ⟨_, rfl⟩
  rw [← hRES]
  cases h1 : latB r c a
  · rw [crmO_no (a := ⟨r, c, a⟩) (.inl h1)] at hRES
    rw [h1] at HA
    have HA' := Lib.hid HA
    subst hRES
    clear hw1 hn hm HA HB hs1 h1
    go_enter Try.func11, Try.ntmps11
    go_wp2_with fail
    rw [← HW1.out]
    have ma_0 := ma.c0; have ma_1 := ma.c1; have ma_2 := ma.c2; have ma_l := ma.lt; have ma_f := ma.fz
    have mb_0 := mb.c0; have mb_1 := mb.c1; have mb_2 := mb.c2; have mb_l := mb.lt; have mb_f := mb.fz
    have mr_0 := mr.c0; have mr_1 := mr.c1; have mr_2 := mr.c2; have mr_l := mr.lt; have mr_f := mr.fz
    refine (HA'.out _ (by exact Rd.grows ha1 (by exact bel0))).mono ?_; rintro e w2 ⟨rfl, g_w2⟩
    have s_w2 := Below.size g_w2; (try simp at s_w2)
    clear ma_0 ma_1 ma_2 ma_l ma_f
    replace ma := ma.grows (w' := w2) (by exact bel1 g_w2)
    have ma_0 := ma.c0; have ma_1 := ma.c1; have ma_2 := ma.c2; have ma_l := ma.lt; have ma_f := ma.fz
    clear mb_0 mb_1 mb_2 mb_l mb_f
    replace mb := mb.grows (w' := w2) (by exact bel1 g_w2)
    have mb_0 := mb.c0; have mb_1 := mb.c1; have mb_2 := mb.c2; have mb_l := mb.lt; have mb_f := mb.fz
    clear mr_0 mr_1 mr_2 mr_l mr_f
    replace mr := mr.grows (w' := w2) (by exact bel1 g_w2)
    have mr_0 := mr.c0; have mr_1 := mr.c1; have mr_2 := mr.c2; have mr_l := mr.lt; have mr_f := mr.fz
    replace ha1 := ha1.grows (w' := w2) (by exact bel1 g_w2)
    replace hb1 := hb1.grows (w' := w2) (by exact bel1 g_w2)
    replace HG : Grows w w2 := by exact bel2 g_w2 HG
    have h_w2 := Below.size HG
    go_wp2_with fail
    refine bodyPost_ret (v := .tuple #[.agg #[.int .i64 0, .int .i64 0, .slice none 0 0], .bool false]) ?_ rfl ?_
    · simp [results, Try.results11, go_sem, mr_0, mr_1, mr_2, mr_f, mr_l]
    · exact ⟨_, rfl, Own.nil _ _, by exact bel1 HG⟩
  · rw [h1] at HA
    have HA' := Lib.hid HA
    cases h2 : latB r' c' b
    · rw [crmO_no (b := ⟨r', c', b⟩) (.inr (.inl h2))] at hRES
      rw [h2] at HB
      have HB' := Lib.hid HB
      subst hRES
      clear hw1 hn hm HA HB hs1 h1 h2
      go_enter Try.func11, Try.ntmps11
      go_wp2_with fail
      rw [← HW1.out]
      have ma_0 := ma.c0; have ma_1 := ma.c1; have ma_2 := ma.c2; have ma_l := ma.lt; have ma_f := ma.fz
      have mb_0 := mb.c0; have mb_1 := mb.c1; have mb_2 := mb.c2; have mb_l := mb.lt; have mb_f := mb.fz
      have mr_0 := mr.c0; have mr_1 := mr.c1; have mr_2 := mr.c2; have mr_l := mr.lt; have mr_f := mr.fz
      refine (HA'.out _ (by exact Rd.grows ha1 (by exact bel0))).mono ?_; rintro e w2 ⟨rfl, g_w2⟩
      have s_w2 := Below.size g_w2; (try simp at s_w2)
      clear ma_0 ma_1 ma_2 ma_l ma_f
      replace ma := ma.grows (w' := w2) (by exact bel1 g_w2)
      have ma_0 := ma.c0; have ma_1 := ma.c1; have ma_2 := ma.c2; have ma_l := ma.lt; have ma_f := ma.fz
      clear mb_0 mb_1 mb_2 mb_l mb_f
      replace mb := mb.grows (w' := w2) (by exact bel1 g_w2)
      have mb_0 := mb.c0; have mb_1 := mb.c1; have mb_2 := mb.c2; have mb_l := mb.lt; have mb_f := mb.fz
      clear mr_0 mr_1 mr_2 mr_l mr_f
      replace mr := mr.grows (w' := w2) (by exact bel1 g_w2)
      have mr_0 := mr.c0; have mr_1 := mr.c1; have mr_2 := mr.c2; have mr_l := mr.lt; have mr_f := mr.fz
      replace ha1 := ha1.grows (w' := w2) (by exact bel1 g_w2)
      replace hb1 := hb1.grows (w' := w2) (by exact bel1 g_w2)
      replace HG : Grows w w2 := by exact bel2 g_w2 HG
      have h_w2 := Below.size HG
      go_wp2_with fail
      refine (HB'.out _ (by exact Rd.grows hb1 (by exact bel0))).mono ?_; rintro e w3 ⟨rfl, g_w3⟩
      have s_w3 := Below.size g_w3; (try simp at s_w3)
      clear ma_0 ma_1 ma_2 ma_l ma_f
      replace ma := ma.grows (w' := w3) (by exact bel1 g_w3)
      have ma_0 := ma.c0; have ma_1 := ma.c1; have ma_2 := ma.c2; have ma_l := ma.lt; have ma_f := ma.fz
      clear mb_0 mb_1 mb_2 mb_l mb_f
      replace mb := mb.grows (w' := w3) (by exact bel1 g_w3)
      have mb_0 := mb.c0; have mb_1 := mb.c1; have mb_2 := mb.c2; have mb_l := mb.lt; have mb_f := mb.fz
      clear mr_0 mr_1 mr_2 mr_l mr_f
      replace mr := mr.grows (w' := w3) (by exact bel1 g_w3)
      have mr_0 := mr.c0; have mr_1 := mr.c1; have mr_2 := mr.c2; have mr_l := mr.lt; have mr_f := mr.fz
      replace ha1 := ha1.grows (w' := w3) (by exact bel1 g_w3)
      replace hb1 := hb1.grows (w' := w3) (by exact bel1 g_w3)
      replace HG : Grows w w3 := by exact bel2 g_w3 HG
      have h_w3 := Below.size HG
      go_wp2_with fail
      refine bodyPost_ret (v := .tuple #[.agg #[.int .i64 0, .int .i64 0, .slice none 0 0], .bool false]) ?_ rfl ?_
      · simp [results, Try.results11, go_sem, mr_0, mr_1, mr_2, mr_f, mr_l]
      · exact ⟨_, rfl, Own.nil _ _, by exact bel1 HG⟩
    · rw [h2] at HB
      have HB' := Lib.hid HB
      by_cases h3 : c = c'
      · subst h3
        obtain ⟨hma, _⟩ := latB_parts h1
        obtain ⟨R, C, rfl, rfl, hR, hC, _⟩ := isMat_nat hma
        obtain ⟨hmb, _⟩ := latB_parts h2
        obtain ⟨R', C', rfl, ec, hR', hC', hlb, _⟩ := isMat_nat hmb
        obtain rfl : C = C' := by omega
        have HFL := Lib.hid fun i hi h => hRES.trans (crmO_none (a := ⟨R, C, a⟩) (b := ⟨R', C, b⟩) (i := i) hi h)
        have HYES := Lib.hid fun L h => hRES.trans (crmO_yes (a := ⟨R, C, a⟩) (b := ⟨R', C, b⟩) (L := L) h1 h2 rfl h)
        have HIC := Lib.hid fun i (hi : i < R') => (show (i + 1) * C ≤ m by rw [← hm, hlb]; exact Nat.mul_le_mul_right C hi)
        have CR := Lib.hid fun W (i : Nat) (hi : i < R') => row_c R' C B b m cb i i W rfl hm hcb hcb2 (HIC.out i hi) (by omega) (by omega)
        have CC := Lib.hid fun W Bq v k h1 h2 h3 => (iCrd_c R C A Bq a v n ca C k W hn hca hca2 h1 hl h2 h3 (by omega)).mono fun _ _ h => lRet_out h
        have HM := Lib.hid hm
        clear hw1 hn HA HB h1 h2 hma hmb hlb ec hRES hm
        simp only [Int.toNat_natCast] at HFL HYES
        go_enter Try.func11, Try.ntmps11
        go_wp2_with fail
        rw [← HW1.out]
        have ma_0 := ma.c0; have ma_1 := ma.c1; have ma_2 := ma.c2; have ma_l := ma.lt; have ma_f := ma.fz
        have mb_0 := mb.c0; have mb_1 := mb.c1; have mb_2 := mb.c2; have mb_l := mb.lt; have mb_f := mb.fz
        have mr_0 := mr.c0; have mr_1 := mr.c1; have mr_2 := mr.c2; have mr_l := mr.lt; have mr_f := mr.fz
        refine (HA'.out _ (by exact Rd.grows ha1 (by exact bel0))).mono ?_; rintro e w2 ⟨rfl, g_w2⟩
        have s_w2 := Below.size g_w2; (try simp at s_w2)
        clear ma_0 ma_1 ma_2 ma_l ma_f
        replace ma := ma.grows (w' := w2) (by exact bel1 g_w2)
        have ma_0 := ma.c0; have ma_1 := ma.c1; have ma_2 := ma.c2; have ma_l := ma.lt; have ma_f := ma.fz
        clear mb_0 mb_1 mb_2 mb_l mb_f
        replace mb := mb.grows (w' := w2) (by exact bel1 g_w2)
        have mb_0 := mb.c0; have mb_1 := mb.c1; have mb_2 := mb.c2; have mb_l := mb.lt; have mb_f := mb.fz
        clear mr_0 mr_1 mr_2 mr_l mr_f
        replace mr := mr.grows (w' := w2) (by exact bel1 g_w2)
        have mr_0 := mr.c0; have mr_1 := mr.c1; have mr_2 := mr.c2; have mr_l := mr.lt; have mr_f := mr.fz
        replace ha1 := ha1.grows (w' := w2) (by exact bel1 g_w2)
        replace hb1 := hb1.grows (w' := w2) (by exact bel1 g_w2)
        replace HG : Grows w w2 := by exact bel2 g_w2 HG
        have h_w2 := Below.size HG
        go_wp2_with fail
        refine (HB'.out _ (by exact Rd.grows hb1 (by exact bel0))).mono ?_; rintro e w3 ⟨rfl, g_w3⟩
        have s_w3 := Below.size g_w3; (try simp at s_w3)
        clear ma_0 ma_1 ma_2 ma_l ma_f
        replace ma := ma.grows (w' := w3) (by exact bel1 g_w3)
        have ma_0 := ma.c0; have ma_1 := ma.c1; have ma_2 := ma.c2; have ma_l := ma.lt; have ma_f := ma.fz
        clear mb_0 mb_1 mb_2 mb_l mb_f
        replace mb := mb.grows (w' := w3) (by exact bel1 g_w3)
        have mb_0 := mb.c0; have mb_1 := mb.c1; have mb_2 := mb.c2; have mb_l := mb.lt; have mb_f := mb.fz
        clear mr_0 mr_1 mr_2 mr_l mr_f
        replace mr := mr.grows (w' := w3) (by exact bel1 g_w3)
        have mr_0 := mr.c0; have mr_1 := mr.c1; have mr_2 := mr.c2; have mr_l := mr.lt; have mr_f := mr.fz
        replace ha1 := ha1.grows (w' := w3) (by exact bel1 g_w3)
        replace hb1 := hb1.grows (w' := w3) (by exact bel1 g_w3)
        replace HG : Grows w w3 := by exact bel2 g_w3 HG
        have h_w3 := Below.size HG
        go_wp2_with fail
        have ma3 := ma; have mb3 := mb; have mr3 := mr
        clear ma_0 ma_1 ma_2 ma_l ma_f
        clear ma
        clear mb_0 mb_1 mb_2 mb_l mb_f
        clear mb
        clear mr_0 mr_1 mr_2 mr_l mr_f
        clear mr
        go_loopw [6, 7] (fun v i wr => ∃ (I : Nat) (A1 : Option Addr) (c1 : Nat) (L : List (List Int)), i = .int .i64 I ∧ I ≤ R' ∧ v = .slice A1 I c1 ∧ crmF ⟨R, C, a⟩ C b I = some L ∧ OwnR 24 adR RSI wr w3.heap.size (.slice A1 I c1) L [] ∧ Grows w3 wr) (fun _ i _ => R' - (intOf i).toNat)
        case atStart => exact ⟨0, _, _, [], rfl, Nat.zero_le _, rfl, rfl, OwnR.new_ _ _ _ w3 [] (by omega) (by omega), by exact bel0⟩
        case round =>
          obtain ⟨I, A1, c1, L, rfl, hI, rfl, hF, ho, hg⟩ := hrel
          have hsz := Below.size hg
          have ma := ma3.grows hg
          have mb := mb3.grows hg
          have HF := Lib.hid hF
          have HLN := Lib.hid (crmF_inv hF).len
          clear hF
          by_cases hlt : I < R'
          · have hlt' : (I : Int) < (R' : Int) := by omega
            have C1 := Lib.hid fun W => CR.out W I hlt
            have hrl : (rowL C b I).length = C := rowL_length (by rw [HM.out]; exact HIC.out I hlt)
            have hrow : Rd w3 (rowA cb C B I) (rowL C b I) := rowA_rd hb1 (by rw [HM.out]; exact HIC.out I hlt) (by rw [HM.out]; exact hcb)
            have HNO := Lib.hid fun h => HFL.out (I + 1) (by omega) (crmF_fail HF.out h)
            have HNX := Lib.hid fun x h => crmF_next (x := x) HF.out h
            have HXL := Lib.hid fun x (h : crdO ⟨R, C, a⟩ (rowL C b I) = some x) => (crdO_lat h).2.2.1
            have C2 := fun W Bq k h1 h2 => CC.out W Bq (rowL C b I) k h1 hrl h2
            have hra := ha1.grows hg
            generalize rowA cb C B I = dB at *
            generalize rowL C b I = V at *
            generalize crdO ⟨R, C, a⟩ V = X at *
            have C2' := Lib.hid C2
            clear C2 hrl
            obtain ⟨x0, x1, x2⟩ := ma.cells
            obtain ⟨y0, y1, y2⟩ := mb.cells
            have xl := ma.lt
            have yl := mb.lt
            go_wp2_with fail
            go_upto_region 7 with fail
            go_cut [8, 9] (fun s8 s9 wx => ∃ (A8 : Option Addr) (c8 : Nat), s8 = .slice A8 (oL X).length c8 ∧ s9 = .bool X.isSome ∧ Own wx wr.heap.size (.slice A8 (oL X).length c8) (oL X) ∧ Grows wr wx)
            case first =>
              (refine wp_region_heldL (fun W => W.cell? ⟨w.heap.size, 0, none⟩ = some (.int .i64 R) ∧ W.cell? ⟨w.heap.size, 1, none⟩ = some (.int .i64 C) ∧ W.cell? ⟨w.heap.size, 2, none⟩ = some (.slice A n ca) ∧ W.cell? ⟨w.heap.size + 1, 0, none⟩ = some (.int .i64 R') ∧ W.cell? ⟨w.heap.size + 1, 1, none⟩ = some (.int .i64 C) ∧ W.cell? ⟨w.heap.size + 1, 2, none⟩ = some (.slice B m cb)) (by kernel_rfl) (by ((try dsimp only); (first | exact two_boxes2 (ma.grows (by exact bel2 g6 g5)) (mb.grows (by exact bel2 g6 g5)) | exact two_boxes2 (ma.grows (by exact bel1 g5)) (mb.grows (by exact bel1 g5)) | exact two_boxes2 (ma.grows (by exact bel0)) (mb.grows (by exact bel0))))) (fun hHeld => ?_); refine heldL_take (i := 0) (v := _) (by rfl) (by kernel_rfl) (by kernel_rfl) (by kernel_rfl) (fun _ _ _ h => h) (Or.inl ⟨by rfl, fun wS hSw => by ((try dsimp only at hSw); go_simp; (try with_reducible rfl))⟩) (by assumption) ?_; simp only [Act.put, List.setIfInBounds_toArray, List.set_cons_zero, List.set_cons_succ]; refine heldL_take (i := 1) (v := _) (by rfl) (by kernel_rfl) (by kernel_rfl) (by kernel_rfl) (fun _ _ _ h => h) (Or.inl ⟨by rfl, fun wS hSw => by ((try dsimp only at hSw); go_simp; (try with_reducible rfl))⟩) (by assumption) ?_; simp only [Act.put, List.setIfInBounds_toArray, List.set_cons_zero, List.set_cons_succ]; refine heldL_take (i := 2) (v := _) (by rfl) (by kernel_rfl) (by kernel_rfl) (by kernel_rfl) (fun _ _ _ h => h) (Or.inl ⟨by rfl, fun wS hSw => by ((try dsimp only at hSw); go_simp; (try with_reducible rfl))⟩) (by assumption) ?_; simp only [Act.put, List.setIfInBounds_toArray, List.set_cons_zero, List.set_cons_succ]; refine heldL_step (i := 3) (by kernel_rfl) (by rfl) (fun K hK => ?_); go_simp; (refine (C1.out _).mono ?_; rintro e w5 ⟨rfl, g5⟩) ; (try (go_wp2_with fail)); refine hK.out _ _ (by ((try dsimp only); (first | exact two_boxes2 (ma.grows (by exact bel2 g6 g5)) (mb.grows (by exact bel2 g6 g5)) | exact two_boxes2 (ma.grows (by exact bel1 g5)) (mb.grows (by exact bel1 g5)) | exact two_boxes2 (ma.grows (by exact bel0)) (mb.grows (by exact bel0))))) (fun hHeld => ?_); clear hK K; (try simp only [Act.put, List.setIfInBounds_toArray, List.set_cons_zero, List.set_cons_succ]); refine heldL_step (i := 4) (by kernel_rfl) (by rfl) (fun K hK => ?_); go_simp; (refine (C2'.out _ _ _ (by exact (Rd.grows hra (by exact bel1 g5))) (by exact hrow.grows (by exact bel2 g5 hg))).mono ?_; rintro e w6 ⟨v6, rfl, o6, g6⟩; obtain ⟨A6, c6, rfl, _, _⟩ := o6.val; have hs5 := Below.size g5; (try simp at hs5)) ; (try (go_wp2_with fail)); refine hK.out _ _ (by ((try dsimp only); (first | exact two_boxes2 (ma.grows (by exact bel2 g6 g5)) (mb.grows (by exact bel2 g6 g5)) | exact two_boxes2 (ma.grows (by exact bel1 g5)) (mb.grows (by exact bel1 g5)) | exact two_boxes2 (ma.grows (by exact bel0)) (mb.grows (by exact bel0))))) (fun hHeld => ?_); clear hK K; (try simp only [Act.put, List.setIfInBounds_toArray, List.set_cons_zero, List.set_cons_succ]); refine heldL_take (i := 5) (v := _) (by rfl) (by kernel_rfl) (by kernel_rfl) (by kernel_rfl) (fun _ _ _ h => h) (Or.inl ⟨by rfl, fun wS hSw => by ((try dsimp only at hSw); go_simp; (try with_reducible rfl))⟩) (by assumption) ?_; simp only [Act.put, List.setIfInBounds_toArray, List.set_cons_zero, List.set_cons_succ]; refine heldL_take (i := 6) (v := _) (by rfl) (by kernel_rfl) (by kernel_rfl) (by kernel_rfl) (fun _ _ _ h => h) (Or.inl ⟨by rfl, fun wS hSw => by ((try dsimp only at hSw); go_simp; (try with_reducible rfl))⟩) (by assumption) ?_; simp only [Act.put, List.setIfInBounds_toArray, List.set_cons_zero, List.set_cons_succ]; refine heldL_take (i := 7) (v := _) (by rfl) (by kernel_rfl) (by kernel_rfl) (by kernel_rfl) (fun _ _ _ h => h) (Or.inl ⟨by rfl, fun wS hSw => by ((try dsimp only at hSw); go_simp; (try with_reducible rfl))⟩) (by assumption) ?_; simp only [Act.put, List.setIfInBounds_toArray, List.set_cons_zero, List.set_cons_succ]; refine heldL_take (i := 8) (v := _) (by rfl) (by kernel_rfl) (by kernel_rfl) (by kernel_rfl) (fun _ _ _ h => h) (Or.inl ⟨by rfl, fun wS hSw => by ((try dsimp only at hSw); go_simp; (try with_reducible rfl))⟩) (by assumption) ?_; simp only [Act.put, List.setIfInBounds_toArray, List.set_cons_zero, List.set_cons_succ]; refine heldL_take (i := 9) (v := _) (by rfl) (by kernel_rfl) (by kernel_rfl) (by kernel_rfl) (fun _ _ _ h => h) (Or.inl ⟨by rfl, fun wS hSw => by ((try dsimp only at hSw); go_simp; (try with_reducible rfl))⟩) (by assumption) ?_; simp only [Act.put, List.setIfInBounds_toArray, List.set_cons_zero, List.set_cons_succ]; refine wpAnyH_done (by kernel_rfl) ?_ _; refine NoPanic.normal ?_)
              go_wp2_with fail
              go_meet
              exact ⟨A6, c6, rfl, rfl, o6.less (by omega), by exact bel2 g6 g5⟩
            case rest =>
              obtain ⟨A8, c8, rfl, rfl, o8, g8⟩ := hcut
              have hs8 := Below.size g8
              have g38 : Grows w3 wc := by exact bel2 g8 hg
              cases X with
              | none =>
                obtain rfl : RES = none := HNO.out rfl
                have mr := mr3.grows g38
                have HG8 : Grows w wc := by exact bel2 g38 HG
                obtain ⟨zr0, zr1, zr2⟩ := mr.cells; have zrf := mr.fz; have zrl := mr.lt
                go_wp2_with fail
                refine bodyPost_ret (v := .tuple #[.agg #[.int .i64 0, .int .i64 0, .slice none 0 0], .bool false]) ?_ rfl ?_
                · simp [results, Try.results11, go_sem, zr0, zr1, zr2, zrf, zrl]
                · exact ⟨_, rfl, Own.nil _ _, by exact bel1 HG8⟩
              | some x =>
                have HN2 := Lib.hid (HNX.out x rfl)
                have hr8 := o8.rd'
                have hxl := HXL.out x rfl
                have hcp := (o8.caps).2.1
                have ho8 := ho.grows RSI.good g8
                have hz8 : RSI wc (.slice A8 (oL (some x)).length c8) x := ⟨A8, c8, rfl, hr8, hcp⟩
                have HSEP := Lib.hid (show ∀ g, adR (.slice A8 (oL (some x)).length c8) = some g → (Value.slice A1 I c1).ownBlock ≠ some g ∧ ∀ s ∈ ([] : List Value), s.ownBlock ≠ some g from fun g hg2 => ⟨fun e => by have := (World.ownsRow.lt o8 g (adR_own hg2)).1; have := (ho.lt e).2; omega, fun s h => by simp at h⟩)
                have HL7 := Lib.hid (show (L ++ [x]).length = I + 1 by simp [HLN.out])
                go_wp2_with (at_builtin; refine wpList_appR1 24 36 und_ints info_ints rfl (.tmp 44) (.tmp 46) rfl _ (.slice A8 (oL (some x)).length c8) x RSI.good rfl hz8 w3.heap.size _ L [] (by rfl) ho8 HSEP.out (by rfl) (by rw [HLN.out]; omega) (by omega) ?_; intro v7 w7 ho7 hg7 hv7; obtain ⟨A7, c7, hv7e, _, _⟩ := ho7.val; rw [HL7.out] at hv7e; subst hv7e; have hb7 := below_R ho8 (by omega) hg7; clear hg7 hv7)
                go_round
                case rel => exact ⟨I + 1, _, _, _, by go_num, by omega, rfl, HN2.out, ho7, by exact bel2 hb7 g38⟩
                case measure => simp [intOf]; omega
          · obtain rfl : I = R' := by omega
            obtain ⟨hmat, hfl, hrw⟩ := crm_mat (R := R) (R' := I) (C := C) (C' := C) hR hR' HF.out
            obtain rfl : RES = some ⟨I, R, flatF L I⟩ := HYES.out L HF.out
            have CF := Lib.hid fun W h => fromRows_c A1 L I c1 R R W HLN.out (by omega) (by omega) hrw h
            have hlI : I * R ≤ 576 := Nat.mul_le_mul hR' hR
            have CK := Lib.hid fun W Ak k h => checked_yes I R Ak (flatF L I) (flatF L I).length k W rfl h (by rw [hfl]; omega) hmat
            have hrd := ho.rd
            have mr := mr3.grows hg
            have HGr : Grows w wr := by exact bel2 hg HG
            clear hmat hfl hrw
            obtain ⟨x0, x1, x2⟩ := ma.cells
            obtain ⟨y0, y1, y2⟩ := mb.cells
            replace HG := HGr
            have mr_0 := mr.c0; have mr_1 := mr.c1; have mr_2 := mr.c2; have mr_l := mr.lt; have mr_f := mr.fz
            go_wp2_with fail
            refine (CF.out _ (by exact hrd.grows RSI.good (by exact bel0))).mono ?_; rintro e w6 ⟨v6, rfl, o6, g_w6⟩
            have s_w6 := Below.size g_w6; (try simp at s_w6)
            clear mr_0 mr_1 mr_2 mr_l mr_f
            replace mr := mr.grows (w' := w6) (by exact bel1 g_w6)
            have mr_0 := mr.c0; have mr_1 := mr.c1; have mr_2 := mr.c2; have mr_l := mr.lt; have mr_f := mr.fz
            replace HG : Grows w w6 := by exact bel2 g_w6 HG
            have h_w6 := Below.size HG
            obtain ⟨A6, c6, rfl, hr6, _⟩ := o6.val
            clear x0 x1 x2 y0 y1 y2
            go_wp2_with fail
            refine (CK.out _ _ _ (by exact Rd.grows hr6 (by exact bel0))).mono ?_; rintro e w7 ⟨rfl, g_w7⟩
            have s_w7 := Below.size g_w7; (try simp at s_w7)
            clear mr_0 mr_1 mr_2 mr_l mr_f
            replace mr := mr.grows (w' := w7) (by exact bel1 g_w7)
            have mr_0 := mr.c0; have mr_1 := mr.c1; have mr_2 := mr.c2; have mr_l := mr.lt; have mr_f := mr.fz
            replace o6 := o6.grows (w' := w7) (by exact bel1 g_w7)
            replace HG : Grows w w7 := by exact bel2 g_w7 HG
            have h_w7 := Below.size HG
            have o6' : Own w7 wr.heap.size (.slice A6 (flatF L I).length c6) (oM (some ⟨(I : Int), (R : Int), flatF L I⟩)).l := o6
            go_wp2_with fail
            refine bodyPost_ret (v := .tuple #[.agg #[.int .i64 I, .int .i64 R, .slice A6 (flatF L I).length c6], .bool true]) ?_ rfl ?_
            · simp [results, Try.results11, go_sem, mr_0, mr_1, mr_2, mr_f, mr_l]
            · exact ⟨_, rfl, by exact ownl o6', by exact bel1 HG⟩
      · rw [crmO_no (a := ⟨r, c, a⟩) (b := ⟨r', c', b⟩) (.inr (.inr h3))] at hRES
        have h3' : (c != c') = true := by simpa using h3
        subst hRES
        clear hw1 hn hm HA HB hs1 h1 h2 h3
        go_enter Try.func11, Try.ntmps11
        go_wp2_with fail
        rw [← HW1.out]
        have ma_0 := ma.c0; have ma_1 := ma.c1; have ma_2 := ma.c2; have ma_l := ma.lt; have ma_f := ma.fz
        have mb_0 := mb.c0; have mb_1 := mb.c1; have mb_2 := mb.c2; have mb_l := mb.lt; have mb_f := mb.fz
        have mr_0 := mr.c0; have mr_1 := mr.c1; have mr_2 := mr.c2; have mr_l := mr.lt; have mr_f := mr.fz
        refine (HA'.out _ (by exact Rd.grows ha1 (by exact bel0))).mono ?_; rintro e w2 ⟨rfl, g_w2⟩
        have s_w2 := Below.size g_w2; (try simp at s_w2)
        clear ma_0 ma_1 ma_2 ma_l ma_f
        replace ma := ma.grows (w' := w2) (by exact bel1 g_w2)
        have ma_0 := ma.c0; have ma_1 := ma.c1; have ma_2 := ma.c2; have ma_l := ma.lt; have ma_f := ma.fz
        clear mb_0 mb_1 mb_2 mb_l mb_f
        replace mb := mb.grows (w' := w2) (by exact bel1 g_w2)
        have mb_0 := mb.c0; have mb_1 := mb.c1; have mb_2 := mb.c2; have mb_l := mb.lt; have mb_f := mb.fz
        clear mr_0 mr_1 mr_2 mr_l mr_f
        replace mr := mr.grows (w' := w2) (by exact bel1 g_w2)
        have mr_0 := mr.c0; have mr_1 := mr.c1; have mr_2 := mr.c2; have mr_l := mr.lt; have mr_f := mr.fz
        replace ha1 := ha1.grows (w' := w2) (by exact bel1 g_w2)
        replace hb1 := hb1.grows (w' := w2) (by exact bel1 g_w2)
        replace HG : Grows w w2 := by exact bel2 g_w2 HG
        have h_w2 := Below.size HG
        go_wp2_with fail
        refine (HB'.out _ (by exact Rd.grows hb1 (by exact bel0))).mono ?_; rintro e w3 ⟨rfl, g_w3⟩
        have s_w3 := Below.size g_w3; (try simp at s_w3)
        clear ma_0 ma_1 ma_2 ma_l ma_f
        replace ma := ma.grows (w' := w3) (by exact bel1 g_w3)
        have ma_0 := ma.c0; have ma_1 := ma.c1; have ma_2 := ma.c2; have ma_l := ma.lt; have ma_f := ma.fz
        clear mb_0 mb_1 mb_2 mb_l mb_f
        replace mb := mb.grows (w' := w3) (by exact bel1 g_w3)
        have mb_0 := mb.c0; have mb_1 := mb.c1; have mb_2 := mb.c2; have mb_l := mb.lt; have mb_f := mb.fz
        clear mr_0 mr_1 mr_2 mr_l mr_f
        replace mr := mr.grows (w' := w3) (by exact bel1 g_w3)
        have mr_0 := mr.c0; have mr_1 := mr.c1; have mr_2 := mr.c2; have mr_l := mr.lt; have mr_f := mr.fz
        replace ha1 := ha1.grows (w' := w3) (by exact bel1 g_w3)
        replace hb1 := hb1.grows (w' := w3) (by exact bel1 g_w3)
        replace HG : Grows w w3 := by exact bel2 g_w3 HG
        have h_w3 := Below.size HG
        go_wp2_with fail
        refine bodyPost_ret (v := .tuple #[.agg #[.int .i64 0, .int .i64 0, .slice none 0 0], .bool false]) ?_ rfl ?_
        · simp [results, Try.results11, go_sem, mr_0, mr_1, mr_2, mr_f, mr_l]
        · exact ⟨_, rfl, Own.nil _ _, by exact bel1 HG⟩
end
end Go.Proofs.Ythajmffhgbenpaa

/- What the coordinates of a lattice are, where there are any; two Matrix variables. -/
namespace Go.Proofs.Ythajmffhgbenpaa
set_option linter.unusedSimpArgs false
set_option linter.unusedVariables false
open Go.RowKit

/-- what the coordinates are, where there are any -/
theorem crmO_shape {r c r' c' : Int} {a b : List Int} {m : MX} (h : crmO ⟨r, c, a⟩ ⟨r', c', b⟩ = some m) :
    ∃ (R R' : Nat) (l : List Int), m = ⟨R', R, l⟩ ∧ r = R ∧ r' = R' ∧ R ≤ 24 ∧ R' ≤ 24 ∧ isMat R' R l = true ∧ l.length = R' * R := by
  unfold crmO at h
  simp only at h
  split at h
  · rename_i hc
    simp only [Bool.and_eq_true, decide_eq_true_eq] at hc
    obtain ⟨R, C, rfl, rfl, hR, _⟩ := isMat_nat (latB_parts hc.1.1).1
    obtain ⟨R', C', rfl, rfl, hR', _⟩ := isMat_nat (latB_parts hc.1.2).1
    simp only [Int.toNat_natCast] at h
    obtain ⟨L, hL, h2⟩ := Option.map_eq_some_iff.1 h
    obtain ⟨h3, h4, _⟩ := crm_mat hR hR' hL
    exact ⟨R, R', flatF L R', h2.symm, rfl, rfl, hR, hR', h3, h4⟩
  · cases h
theorem two_box (w : World) (r c r' c' : Int) (u u' : Value) : ∃ w1, w1 = (w.alloc (.cells #[.int .i64 r, .int .i64 c, u] 26)).alloc (.cells #[.int .i64 r', .int .i64 c', u'] 26) ∧
    MBox w1 w.heap.size r c u ∧ MBox w1 (w.heap.size + 1) r' c' u' ∧ Grows w w1 :=
  ⟨_, rfl, (MBox.mk_ _ _ _ _ _).grows ((Below.refl _ _).alloc (Nat.le_refl _) _), MBox.new_ _ _ _ _ _ (by simp), by exact bel0⟩
end Go.Proofs.Ythajmffhgbenpaa
