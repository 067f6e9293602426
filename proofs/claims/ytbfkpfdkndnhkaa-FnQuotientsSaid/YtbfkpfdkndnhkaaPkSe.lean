/- Contracts and lemmas, put together. -/
import Derived.Test.YtbfkpfdkndnhkaaPkB
import Derived.Test.YtbfkpfdkndnhkaaPkDd
import Derived.Test.YtbfkpfdkndnhkaaPkHc
import Derived.Test.YtbfkpfdkndnhkaaPkSb
import Derived.Test.YtbfkpfdkndnhkaaPkSd
/- The factors of a matrix, the orders of a quotient: plain. -/
namespace Go.Proofs.Ytbfkpfdkndnhkaa
set_option linter.unusedSimpArgs false
set_option linter.unusedVariables false
open Go.RowKit

theorem SmF.ok {R C t : Nat} {s : L3} {o : Option L3} (h : SmF R C t s o) (hs : Ok3 R C s) : ∀ y, o = some y → Ok3 R C y := by
  induction h with
  | stop _ => intro y e; cases e; exact hs
  | bad _ _ _ _ => intro y e; cases e
  | step h1 h2 _ k _ ih => exact ih (k.ok hs h1 h2 _ rfl)
theorem smF_ok {R C : Nat} {s y : L3} (hs : Ok3 R C s) (h : smF R C s = some y) : Ok3 R C y := by
  unfold smF at h
  split at h
  · rename_i hx; exact hx.choose_spec.ok hs _ h
  · cases h
theorem smD_some {m d : MX} (h : smD m = some d) : ∃ (R C : Nat) (l : List Int), d = ⟨R, C, l⟩ ∧ R ≤ 24 ∧ C ≤ 24 ∧ l.length = R * C ∧ allNum l = true := by
  cases hq : m.ok with
  | false => rw [smD_no hq] at h; cases h
  | true =>
    obtain ⟨r, c, l⟩ := m
    obtain ⟨R, C, rfl, rfl, hR, hC, hlen, hnum⟩ := isMat_nat hq
    rw [smD_nat hq] at h
    obtain ⟨s, h1, rfl⟩ := Option.map_eq_some_iff.1 h
    have ok := smF_ok ⟨hlen, idL_length R, idL_length C, (allNum_iff _).2 hnum, idL_num R, idL_num C⟩ h1
    exact ⟨R, C, s.1, rfl, hR, hC, ok.l1, ok.n1⟩
/-- the numbers of the diagonal that are not 0 -/
def dgs (C : Nat) (l : List Int) : Nat → List Int
  | 0 => []
  | k + 1 => if nth l (k * C + k) = 0 then dgs C l k else dgs C l k ++ [nth l (k * C + k)]
theorem dgs_length (C : Nat) (l : List Int) (k : Nat) : (dgs C l k).length ≤ k := by
  induction k with
  | zero => exact Nat.le_refl _
  | succ k ih =>
    rw [dgs]
    split
    · omega
    · rw [List.length_append]; simp only [List.length_singleton]; omega
theorem dgs_zero {C : Nat} {l : List Int} {k : Nat} (h : nth l (k * C + k) = 0) : dgs C l (k + 1) = dgs C l k := by rw [dgs, if_pos h]
theorem dgs_more {C : Nat} {l : List Int} {k : Nat} (h : nth l (k * C + k) ≠ 0) : dgs C l (k + 1) = dgs C l k ++ [nth l (k * C + k)] := by rw [dgs, if_neg h]
theorem dgs_num {C : Nat} {l : List Int} {k : Nat} (h : ∀ i, i < k → isNum (nth l (i * C + i)) = true) : ∀ x ∈ dgs C l k, isNum x = true := by
  induction k with
  | zero => intro x hx; cases hx
  | succ k ih =>
    intro x hx
    rw [dgs] at hx
    split at hx
    · exact ih (fun i hi => h i (by omega)) x hx
    · rcases List.mem_append.1 hx with hx | hx
      · exact ih (fun i hi => h i (by omega)) x hx
      · rw [List.mem_singleton.1 hx]; exact h k (by omega)
noncomputable def facO (m : MX) : Option (List Int) := (smD m).map fun d => dgs d.c.toNat d.l (min d.r.toNat d.c.toNat)
/-- those greater than 1 -/
def gt1 : List Int → List Int := List.filter fun x => decide (1 < x)
def gtF (f : List Int) : Nat → List Int
  | 0 => []
  | k + 1 => if 1 < nth f k then gtF f k ++ [nth f k] else gtF f k
theorem gtF_length (f : List Int) (k : Nat) : (gtF f k).length ≤ k := by
  induction k with
  | zero => exact Nat.le_refl _
  | succ k ih =>
    rw [gtF]
    split
    · rw [List.length_append]; simp only [List.length_singleton]; omega
    · omega
theorem gtF_more {f : List Int} {k : Nat} (h : 1 < nth f k) : gtF f (k + 1) = gtF f k ++ [nth f k] := by rw [gtF, if_pos h]
theorem gtF_less {f : List Int} {k : Nat} (h : ¬ 1 < nth f k) : gtF f (k + 1) = gtF f k := by rw [gtF, if_neg h]
def quoA (l : MX) (o : Option (List Int)) : Option (List Int × Int) := o.map fun f => (gtF f f.length, l.r - f.length)
/-- the orders of a quotient, how many of them are infinite -/
noncomputable def quoO (l sub : MX) : Option (List Int × Int) := (crmO l sub).bind fun c => quoA l (facO c)
/-- what the functions give for it -/
def qoL (o : Option (List Int × Int)) : List Int := (o.map (·.1)).getD []
def qoN (o : Option (List Int × Int)) : Int := (o.map (·.2)).getD 0
end Go.Proofs.Ytbfkpfdkndnhkaa

/- Contracts: the factors of a matrix, the orders of a quotient, the program's. -/
namespace Go.Proofs.Ytbfkpfdkndnhkaa
set_option linter.unusedSimpArgs false
set_option linter.unusedVariables false
open Go.RowKit

theorem smRet_out {o : Option MX} {w w' : World} {e : Ending} (h : SmRet o w e w') : ∃ (v : Value) (r2 c2 : Int) (A2 : Option Addr) (n2 k2 : Nat) (r3 c3 : Int) (A3 : Option Addr) (n3 k3 : Nat), e = .returned (.tuple #[.agg #[.int .i64 (oM o).r, .int .i64 (oM o).c, v], .agg #[.int .i64 r2, .int .i64 c2, .slice A2 n2 k2], .agg #[.int .i64 r3, .int .i64 c3, .slice A3 n3 k3], .bool o.isSome]) ∧ Own w' w.heap.size v (oM o).l ∧ Grows w w' := h
theorem facO_some {m : MX} {R C : Nat} {l : List Int} (h : smD m = some ⟨R, C, l⟩) : facO m = some (dgs C l (min R C)) := by
  unfold facO; rw [h]; simp only [Option.map_some, Int.toNat_natCast]
theorem facO_none {m : MX} (h : smD m = none) : facO m = none := by unfold facO; rw [h]; rfl
theorem facO_len {m : MX} {f : List Int} (h : facO m = some f) : f.length ≤ 24 ∧ ∀ x ∈ f, isNum x = true := by
  cases e : smD m with
  | none => rw [facO_none e] at h; cases h
  | some d =>
    obtain ⟨R, C, l, rfl, hR, hC, hlen, hnum⟩ := smD_some e
    rw [facO_some e] at h
    cases h
    refine ⟨by have := dgs_length C l (min R C); omega, dgs_num fun i hi => (allNum_iff _).1 hnum _ ?_⟩
    rw [hlen]; exact idx_lt (by omega) (by omega)
def QuoRet (o : Option (List Int × Int)) (w : World) (e : Ending) (w' : World) : Prop := ∃ v, e = .returned (.tuple #[v, .int .i64 (qoN o), .bool o.isSome]) ∧ Own w' w.heap.size v (qoL o) ∧ Grows w w'
theorem quoRet_out {o : Option (List Int × Int)} {w w' : World} {e : Ending} (h : QuoRet o w e w') : ∃ v, e = .returned (.tuple #[v, .int .i64 (qoN o), .bool o.isSome]) ∧ Own w' w.heap.size v (qoL o) ∧ Grows w w' := h
theorem quoO_none {a b : MX} (h : crmO a b = none) : quoO a b = none := by unfold quoO; rw [h]; rfl
theorem quoO_some {a b x : MX} (h : crmO a b = some x) : quoO a b = quoA a (facO x) := by unfold quoO; rw [h]; rfl
theorem quoA_some {a : MX} {f : List Int} : quoA a (some f) = some (gtF f f.length, a.r - f.length) := rfl
theorem quoO_len {a b : MX} : (qoL (quoO a b)).length ≤ 24 := by
  cases e : crmO a b with
  | none => rw [quoO_none e]; exact Nat.zero_le _
  | some x =>
    rw [quoO_some e]
    cases e2 : facO x with
    | none => exact Nat.zero_le _
    | some f =>
      rw [quoA_some]
      have h1 : (gtF f f.length).length ≤ f.length := gtF_length f f.length
      have h2 := (facO_len e2).1
      show (gtF f f.length).length ≤ 24
      omega
section
set_option maxHeartbeats 4000000
set_option maxRecDepth 10000
theorem diagX_c (R C : Nat) (v : Value) (i : Nat) (w : World) (hi : i < R) (hi2 : ¬ i < C) :
    Calls Try.prog 65 #[.agg #[.int .i64 R, .int .i64 C, v], .int .i64 i] w fun e w' => e = .returned (.int .i64 0) ∧ Grows w w' := by
  have i1 : (i : Int) < (R : Int) := by omega
  have i2 : (C : Int) ≤ (i : Int) := by omega
  have i3 : ¬ ((R : Int) ≤ (i : Int)) := by omega
  go_enter Try.func65, Try.ntmps65
  go_wp2_with fail
  go_ret
  exact ⟨rfl, by exact bel0⟩
theorem iFac_c (r c : Int) (A : Option Addr) (l : List Int) (n cap : Nat) (w : World) (hn : l.length = n) (ha : Rd w A l) (hl : n ≤ 1099511627776) :
    Calls Try.prog 71 #[.agg #[.int .i64 r, .int .i64 c, .slice A n cap]] w (LRet (facO ⟨r, c, l⟩) w) := by
  have CS := fun W h => (iSmith_c r c A l n cap W hn h hl).mono fun _ _ h => smRet_out h
  have XS := Lib.hid fun (x : MX) (h : smD ⟨r, c, l⟩ = some x) => smD_some h
  have XF := Lib.hid fun (R C : Nat) (l' : List Int) (h : smD ⟨r, c, l⟩ = some ⟨R, C, l'⟩) => facO_some h
  obtain ⟨w1, hw1⟩ : ∃ w1, w1 = w.alloc (.cells #[.int .i64 r, .int .i64 c, .slice A n cap] 26) := ⟨_, rfl⟩
  have HG : Grows w w1 := by rw [hw1]; exact bel0
  have ha1 := ha.grows HG
  have hs1 := Below.size HG
  have HW1 := Lib.hid hw1
  obtain ⟨RES, hRES⟩ : ∃ x, x = facO ⟨r, c, l⟩ := ⟨_, rfl⟩
  rw [← hRES]
  obtain ⟨CO, hCO⟩ : ∃ x, x = smD ⟨r, c, l⟩ := ⟨_, rfl⟩
  rw [← hCO] at CS
  have HR := Lib.hid hRES
  have HCO := Lib.hid hCO
  have CS' := Lib.hid CS
  clear hw1 hRES hn CS hCO
  go_enter Try.func71, Try.ntmps71
  go_wp2_with fail
  rw [← HW1.out]
  refine (CS'.out _ (by exact (Rd.grows ha1 (by exact bel0)))).mono ?_; rintro e w2 ⟨v2, r2, c2, A2, n2, k2, r3, c3, A3, n3, k3, rfl, o2, g2⟩
  obtain ⟨A5, c5, rfl, hr2, _⟩ := o2.val
  have hs2 := Below.size g2
  cases CO with
  | none =>
    obtain rfl : RES = none := by rw [HR.out, facO_none HCO.out.symm]
    go_wp2_with fail
    go_ret2
    exact ⟨_, rfl, Own.new_ _ (by simp) (by omega), by exact bel2 g2 HG⟩
  | some x =>
    obtain ⟨R, C, l', rfl, hR, hC, hlen, hnum⟩ := XS.out x HCO.out.symm
    simp only [oM_some, Option.isSome_some] at hr2 ⊢
    have HRB := Lib.hid (HR.out.trans (XF.out R C l' HCO.out.symm))
    have HLEN := Lib.hid hlen
    obtain ⟨w3, hw3⟩ : ∃ w3, w3 = ((w2.alloc (.cells #[.int .i64 R, .int .i64 C, .slice A5 l'.length c5] 26)).alloc (.cells #[.int .i64 r2, .int .i64 c2, .slice A2 n2 k2] 26)).alloc (.cells #[.int .i64 r3, .int .i64 c3, .slice A3 n3 k3] 26) := ⟨_, rfl⟩
    have m4 : MBox w3 w2.heap.size R C (.slice A5 l'.length c5) := by rw [hw3]; exact (MBox.mk_ _ _ _ _ _).grows (by exact bel0)
    have g23 : Grows w2 w3 := by rw [hw3]; exact bel0
    have HW3 := Lib.hid hw3
    have hr3 := hr2.grows g23
    have hs3 := Below.size g23
    have HS3 := Lib.hid (show w3.heap.size = w2.heap.size + 1 + 1 + 1 by rw [hw3]; simp)
    clear hw3 HR HCO XS XF hlen hnum o2
    go_wp2_with fail
    rw [← HW3.out]
    go_loopw [8, 9] (fun o i wr => ∃ (I : Nat) (A4 : Option Addr) (L : List Int) (c4 : Nat), i = .int .i64 I ∧ I ≤ R ∧ o = .slice A4 L.length c4 ∧ RowKit.Hid (dgs C l' (min I C) = L) ∧ Own wr w3.heap.size (.slice A4 L.length c4) L ∧ Grows w3 wr) (fun _ i _ => R - (intOf i).toNat)
    case atStart => exact ⟨0, _, [], _, rfl, Nat.zero_le _, rfl, Lib.hid (by rw [Nat.zero_min]; rfl), Own.new_ _ HS3.out (Nat.le_of_eq HS3.out), by exact bel0⟩
    case round =>
      obtain ⟨I, A4, L, c4, rfl, hI, rfl, HL, ho, hg⟩ := hrel
      have hll : L.length ≤ 24 := by have := dgs_length C l' (min I C); rw [HL.out] at this; omega
      obtain ⟨b0, b1, b2⟩ := (m4.grows hg).cells
      have hrd := hr3.grows hg
      have hsr := Below.size hg
      by_cases hlt : I < R
      · have hlt' : (I : Int) < (R : Int) := by omega
        by_cases hltC : I < C
        · have CD := fun W h => diag_c R C A5 l' l'.length c5 I W rfl HLEN.out hR hC hlt hltC h
          have e1 : min (I + 1) C = min I C + 1 := by omega
          have e2 : min I C = I := by omega
          have E1 := Lib.hid e1
          have E2 := Lib.hid e2
          by_cases hz : nth l' (I * C + I) = 0
          · have HX : RowKit.Hid (dgs C l' (min (I + 1) C) = L) := Lib.hid (by rw [E1.out, E2.out, dgs_zero hz, ← HL.out, E2.out])
            rw [hz] at CD
            have CD' := Lib.hid CD
            clear CD hz e1 e2
            go_wp2_with fail
            refine (CD'.out _ hrd).mono ?_; rintro e w4 ⟨rfl, g4⟩
            go_wp2_with fail
            go_round
            case rel => exact ⟨I + 1, _, L, _, by go_num, by omega, rfl, HX, ho.grows g4, by exact bel2 g4 hg⟩
            case measure => simp [intOf]; omega
          · have HX : RowKit.Hid (dgs C l' (min (I + 1) C) = L ++ [nth l' (I * C + I)]) := Lib.hid (by rw [E1.out, E2.out, dgs_more hz, ← HL.out, E2.out])
            have hz' : (nth l' (I * C + I) != 0) = true := by simpa using hz
            generalize nth l' (I * C + I) = d at *
            have CD' := Lib.hid CD
            clear CD hz e1 e2
            go_wp2_with fail
            refine (CD'.out _ hrd).mono ?_; rintro e w4 ⟨rfl, g4⟩
            have ho4 := ho.grows g4
            have hs4 := Below.size g4
            go_wp2_with (at_builtin; refine wpList_app1 rfl (.tmp 33) (.tmp 35) rfl _ d w3.heap.size _ L (by rfl) ho4 (by rfl) (by omega) (by omega) ?_; intro v7 w7 ho7 hg7 _)
            obtain ⟨A7, c7, rfl, _, _⟩ := ho7.val
            have hb7 : Below w3.heap.size w4 w7 := below_app ho4 (by omega) hg7
            go_round
            case rel => exact ⟨I + 1, _, _, _, by go_num, by omega, rfl, HX, ho7, by exact bel3 hb7 g4 hg⟩
            case measure => simp [intOf]; omega
        · have HX : RowKit.Hid (dgs C l' (min (I + 1) C) = L) := Lib.hid (by rw [show min (I + 1) C = min I C by omega]; exact HL.out)
          have CD' := Lib.hid fun W => diagX_c R C (.slice A5 l'.length c5) I W hlt hltC
          go_wp2_with fail
          refine (CD'.out _).mono ?_; rintro e w4 ⟨rfl, g4⟩
          go_wp2_with fail
          go_round
          case rel => exact ⟨I + 1, _, L, _, by go_num, by omega, rfl, HX, ho.grows g4, by exact bel2 g4 hg⟩
          case measure => simp [intOf]; omega
      · obtain rfl : RES = some L := by rw [HRB.out, ← HL.out, show I = R by omega]
        have hlt' : ¬ (I : Int) < (R : Int) := by omega
        go_wp2_with fail
        go_ret2
        exact ⟨_, rfl, by exact ho.less (by omega), by exact bel4 hg g23 g2 HG⟩
theorem gtOne_c (A : Option Addr) (f : List Int) (n cap : Nat) (w : World) (hn : f.length = n) (ha : Rd w A f) (hl : n ≤ 1099511627776) :
    Calls Try.prog 72 #[.slice A n cap] w fun e w' => ∃ v, e = .returned v ∧ Own w' w.heap.size v (gtF f f.length) ∧ Grows w w' := by
  have HN := Lib.hid hn
  clear hn
  go_enter Try.func72, Try.ntmps72
  go_wp2_with fail
  go_loopw [3, 9] (fun o i wr => ∃ (I : Nat) (A4 : Option Addr) (L : List Int) (c4 : Nat), i = .int .i64 I ∧ I ≤ n ∧ o = .slice A4 L.length c4 ∧ RowKit.Hid (gtF f I = L) ∧ Own wr w.heap.size (.slice A4 L.length c4) L ∧ Grows w wr) (fun _ i _ => n - (intOf i).toNat)
  case atStart => exact ⟨0, _, [], _, rfl, Nat.zero_le _, rfl, Lib.hid rfl, Own.new_ _ rfl (Nat.le_refl _), by exact bel0⟩
  case round =>
    obtain ⟨I, A4, L, c4, rfl, hI, rfl, HL, ho, hg⟩ := hrel
    have hll : L.length ≤ I := by have := gtF_length f I; rw [HL.out] at this; exact this
    have hsr := Below.size hg
    by_cases hlt : I < n
    · have hlt' : (I : Int) < (n : Int) := by omega
      obtain ⟨b, off, rfl, hb, hc⟩ := ha.at_ I (by rw [HN.out]; exact hlt)
      have hcell := (hg.cell hb).trans hc
      by_cases hz : 1 < nth f I
      · have HX : RowKit.Hid (gtF f (I + 1) = L ++ [nth f I]) := Lib.hid (by rw [gtF_more hz, HL.out])
        generalize nth f I = d at *
        go_wp2_with (at_builtin; refine wpList_app1 rfl (.tmp 15) (.tmp 17) rfl _ d w.heap.size _ L (by rfl) ho (by rfl) (by omega) (by omega) ?_; intro v7 w7 ho7 hg7 _)
        obtain ⟨A7, c7, rfl, _, _⟩ := ho7.val
        have hb7 : Below w.heap.size wr w7 := below_app ho (by omega) hg7
        go_round
        case rel => exact ⟨I + 1, _, _, _, by go_num, by omega, rfl, HX, ho7, by exact bel2 hb7 hg⟩
        case measure => simp [intOf]; omega
      · have HX : RowKit.Hid (gtF f (I + 1) = L) := Lib.hid (by rw [gtF_less hz, HL.out])
        generalize nth f I = d at *
        go_wp2_with fail
        go_round
        case rel => exact ⟨I + 1, _, L, _, by go_num, by omega, rfl, HX, ho, hg⟩
        case measure => simp [intOf]; omega
    · have hlt' : ¬ (I : Int) < (n : Int) := by omega
      have HF := Lib.hid (show gtF f f.length = L by rw [HN.out, ← HL.out, show I = n by omega])
      go_wp2_with fail
      go_ret
      exact ⟨_, rfl, by rw [HF.out]; exact ho, hg⟩
theorem iQuo_c (r c r' c' : Int) (A B : Option Addr) (a b : List Int) (n m ca cb : Nat) (w : World) (hn : a.length = n) (hm : b.length = m) (hca : n ≤ ca) (hca2 : ca ≤ 9223372036854775807) (hcb : m ≤ cb) (hcb2 : cb ≤ 9223372036854775807) (ha : Rd w A a) (hb : Rd w B b) (hl : n ≤ 1099511627776) (hl2 : m ≤ 1099511627776) :
    Calls Try.prog 32 #[.agg #[.int .i64 r, .int .i64 c, .slice A n ca], .agg #[.int .i64 r', .int .i64 c', .slice B m cb]] w (QuoRet (quoO ⟨r, c, a⟩ ⟨r', c', b⟩) w) := by
  have CC := fun W h h' => (iCrm_c r c r' c' A B a b n m ca cb W hn hm hca hca2 hcb hcb2 h h' hl hl2).mono fun _ _ h => matRet_out h
  have XS := Lib.hid fun (x : MX) (h : crmO ⟨r, c, a⟩ ⟨r', c', b⟩ = some x) => crmO_shape h
  obtain ⟨w1, hw1, ma, mb, HG⟩ := two_box w r c r' c' (.slice A n ca) (.slice B m cb)
  have HW1 := Lib.hid hw1
  have ha1 := ha.grows HG
  have hb1 := hb.grows HG
  have hs1 := Below.size HG
  obtain ⟨RES, hRES⟩ : ∃ x, x = quoO ⟨r, c, a⟩ ⟨r', c', b⟩ := ⟨_, rfl⟩
  rw [← hRES]
  obtain ⟨CO, hCO⟩ : ∃ x, x = crmO ⟨r, c, a⟩ ⟨r', c', b⟩ := ⟨_, rfl⟩
  rw [← hCO] at CC
  have HR := Lib.hid hRES
  have HCO := Lib.hid hCO
  have CC' := Lib.hid CC
  clear hw1 hRES hn hm CC hCO
  go_enter Try.func32, Try.ntmps32
  go_wp2_with fail
  rw [← HW1.out]
  have ma_0 := ma.c0; have ma_1 := ma.c1; have ma_2 := ma.c2; have ma_l := ma.lt; have ma_f := ma.fz
  have mb_0 := mb.c0; have mb_1 := mb.c1; have mb_2 := mb.c2; have mb_l := mb.lt; have mb_f := mb.fz
  refine (CC'.out _ (by exact Rd.grows ha1 (by exact bel0)) (by exact Rd.grows hb1 (by exact bel0))).mono ?_; rintro e w2 ⟨v2, rfl, o2, g_w2⟩
  have s_w2 := Below.size g_w2; (try simp at s_w2)
  clear ma_0 ma_1 ma_2 ma_l ma_f
  replace ma := ma.grows (w' := w2) (by exact bel1 g_w2)
  have ma_0 := ma.c0; have ma_1 := ma.c1; have ma_2 := ma.c2; have ma_l := ma.lt; have ma_f := ma.fz
  clear mb_0 mb_1 mb_2 mb_l mb_f
  replace mb := mb.grows (w' := w2) (by exact bel1 g_w2)
  have mb_0 := mb.c0; have mb_1 := mb.c1; have mb_2 := mb.c2; have mb_l := mb.lt; have mb_f := mb.fz
  replace ha1 := ha1.grows (w' := w2) (by exact bel1 g_w2)
  replace hb1 := hb1.grows (w' := w2) (by exact bel1 g_w2)
  replace HG : Grows w w2 := by exact bel2 g_w2 HG
  have h_w2 := Below.size HG
  obtain ⟨A2, c2, rfl, hr2, _⟩ := o2.val
  cases CO with
  | none =>
    obtain rfl : RES = none := by rw [HR.out, quoO_none HCO.out.symm]
    go_wp2_with fail
    refine bodyPost_ret (v := .tuple #[.slice (some ⟨w2.heap.size + 1, 0, none⟩) 0 0, .int .i64 0, .bool false]) ?_ rfl ?_
    · simp [results, Try.results32, go_sem]
    · exact ⟨_, rfl, Own.new_ _ (by simp) (by omega), by exact bel1 HG⟩
  | some x =>
    obtain ⟨R, R', l, rfl, rfl, rfl, hR, hR', hmat, hll⟩ := XS.out x HCO.out.symm
    simp only [oM_some, Option.isSome_some] at hr2 ⊢
    have HRB := Lib.hid (HR.out.trans (quoO_some HCO.out.symm))
    have hll2 : l.length ≤ 1099511627776 := by have h2 : R' * R ≤ 24 * 24 := Nat.mul_le_mul hR' hR; omega
    have CF := fun W h => (iFac_c R' R A2 l l.length c2 W rfl h hll2).mono fun _ _ h => lRet_out h
    have XF := Lib.hid fun f (h : facO ⟨R', R, l⟩ = some f) => facO_len h
    clear HR HCO XS hmat hll
    generalize facO ⟨R', R, l⟩ = FO at *
    have CF' := Lib.hid CF
    clear CF
    go_wp2_with fail
    refine (CF'.out _ (by exact Rd.grows hr2 (by exact bel0))).mono ?_; rintro e w3 ⟨v3, rfl, o3, g_w3⟩
    have s_w3 := Below.size g_w3; (try simp at s_w3)
    clear ma_0 ma_1 ma_2 ma_l ma_f
    replace ma := ma.grows (w' := w3) (by exact bel1 g_w3)
    have ma_0 := ma.c0; have ma_1 := ma.c1; have ma_2 := ma.c2; have ma_l := ma.lt; have ma_f := ma.fz
    clear mb_0 mb_1 mb_2 mb_l mb_f
    replace mb := mb.grows (w' := w3) (by exact bel1 g_w3)
    have mb_0 := mb.c0; have mb_1 := mb.c1; have mb_2 := mb.c2; have mb_l := mb.lt; have mb_f := mb.fz
    replace ha1 := ha1.grows (w' := w3) (by exact bel1 g_w3)
    replace hb1 := hb1.grows (w' := w3) (by exact bel1 g_w3)
    replace hr2 := hr2.grows (w' := w3) (by exact bel1 g_w3)
    have mc : MBox w3 (w2.heap.size) R' R (.slice A2 l.length c2) := MBox.grows (MBox.new_ w2 R' R (.slice A2 l.length c2) 26 (by simp)) (w' := w3) (by exact bel1 g_w3)
    have mc_0 := mc.c0; have mc_1 := mc.c1; have mc_2 := mc.c2; have mc_l := mc.lt; have mc_f := mc.fz
    replace HG : Grows w w3 := by exact bel2 g_w3 HG
    have h_w3 := Below.size HG
    obtain ⟨A3, c3, rfl, hr3, _⟩ := o3.val
    cases FO with
    | none =>
      obtain rfl : RES = none := HRB.out
      go_wp2_with fail
      refine bodyPost_ret (v := .tuple #[.slice (some ⟨w3.heap.size, 0, none⟩) 0 0, .int .i64 0, .bool false]) ?_ rfl ?_
      · simp [results, Try.results32, go_sem]
      · exact ⟨_, rfl, Own.new_ _ (by simp) (by omega), by exact bel1 HG⟩
    | some f =>
      obtain ⟨hf, hfn⟩ := XF.out f rfl
      obtain rfl : RES = some (gtF f f.length, (R : Int) - (f.length : Int)) := HRB.out
      have e : oL (some f) = f := rfl
      simp only [e, Option.isSome_some] at hr3 ⊢
      have CG := Lib.hid fun W h => gtOne_c A3 f f.length c3 W rfl h (by omega)
      clear HRB XF hfn e
      go_wp2_with fail
      (refine wp_region_heldL (fun W => W.cell? ⟨w.heap.size, 0, none⟩ = some (.int .i64 R)) (by kernel_rfl) (by ((try dsimp only); (first | exact (ma.grows (by exact bel1 g5)).c0 | exact (ma.grows (by exact bel0)).c0))) (fun hHeld => ?_); refine heldL_take (i := 0) (v := _) (by rfl) (by kernel_rfl) (by kernel_rfl) (by kernel_rfl) (fun _ _ _ h => h) (Or.inl ⟨by rfl, fun wS hSw => by ((try dsimp only at hSw); go_simp; (try with_reducible rfl))⟩) (by assumption) ?_; simp only [Act.put, List.setIfInBounds_toArray, List.set_cons_zero, List.set_cons_succ]; refine heldL_take (i := 2) (v := _) (by rfl) (by kernel_rfl) (by kernel_rfl) (by kernel_rfl) (fun _ _ _ h => h) (Or.inl ⟨by rfl, fun wS hSw => by ((try dsimp only at hSw); go_simp; (try with_reducible rfl))⟩) (by assumption) ?_; simp only [Act.put, List.setIfInBounds_toArray, List.set_cons_zero, List.set_cons_succ]; refine heldL_take (i := 3) (v := _) (by rfl) (by kernel_rfl) (by kernel_rfl) (by kernel_rfl) (fun _ _ _ h => h) (Or.inl ⟨by rfl, fun wS hSw => by ((try dsimp only at hSw); go_simp; (try with_reducible rfl))⟩) (by assumption) ?_; simp only [Act.put, List.setIfInBounds_toArray, List.set_cons_zero, List.set_cons_succ]; refine heldL_take (i := 4) (v := _) (by rfl) (by kernel_rfl) (by kernel_rfl) (by kernel_rfl) (fun _ _ _ h => h) (Or.inl ⟨by rfl, fun wS hSw => by ((try dsimp only at hSw); go_simp; (try with_reducible rfl))⟩) (by assumption) ?_; simp only [Act.put, List.setIfInBounds_toArray, List.set_cons_zero, List.set_cons_succ]; refine heldL_take (i := 5) (v := _) (by rfl) (by kernel_rfl) (by kernel_rfl) (by kernel_rfl) (fun _ _ _ h => h) (Or.inl ⟨by rfl, fun wS hSw => by ((try dsimp only at hSw); go_simp; (try with_reducible rfl))⟩) (by assumption) ?_; simp only [Act.put, List.setIfInBounds_toArray, List.set_cons_zero, List.set_cons_succ]; refine heldL_take (i := 6) (v := _) (by rfl) (by kernel_rfl) (by kernel_rfl) (by kernel_rfl) (fun _ _ _ h => h) (Or.inl ⟨by rfl, fun wS hSw => by ((try dsimp only at hSw); go_simp; (try with_reducible rfl))⟩) (by assumption) ?_; simp only [Act.put, List.setIfInBounds_toArray, List.set_cons_zero, List.set_cons_succ]; refine heldL_step (i := 1) (by kernel_rfl) (by rfl) (fun K hK => ?_); go_simp; (refine (CG.out _ (by exact (Rd.grows hr3 (by exact bel0)))).mono ?_; rintro e w5 ⟨v5, rfl, o5, g5⟩; obtain ⟨A5, c5, rfl, _, _⟩ := o5.val) ; (try (go_wp2_with fail)); refine hK.out _ _ (by ((try dsimp only); (first | exact (ma.grows (by exact bel1 g5)).c0 | exact (ma.grows (by exact bel0)).c0))) (fun hHeld => ?_); clear hK K; (try simp only [Act.put, List.setIfInBounds_toArray, List.set_cons_zero, List.set_cons_succ]); refine heldL_take (i := 7) (v := _) (by rfl) (by kernel_rfl) (by kernel_rfl) (by kernel_rfl) (fun _ _ _ h => h) (Or.inl ⟨by rfl, fun wS hSw => by ((try dsimp only at hSw); go_simp; (try with_reducible rfl))⟩) (by assumption) ?_; simp only [Act.put, List.setIfInBounds_toArray, List.set_cons_zero, List.set_cons_succ]; refine heldL_take (i := 8) (v := _) (by rfl) (by kernel_rfl) (by kernel_rfl) (by kernel_rfl) (fun _ _ _ h => h) (Or.inl ⟨by rfl, fun wS hSw => by ((try dsimp only at hSw); go_simp; (try with_reducible rfl))⟩) (by assumption) ?_; simp only [Act.put, List.setIfInBounds_toArray, List.set_cons_zero, List.set_cons_succ]; refine heldL_take (i := 9) (v := _) (by rfl) (by kernel_rfl) (by kernel_rfl) (by kernel_rfl) (fun _ _ _ h => h) (Or.inl ⟨by rfl, fun wS hSw => by ((try dsimp only at hSw); go_simp; (try with_reducible rfl))⟩) (by assumption) ?_; simp only [Act.put, List.setIfInBounds_toArray, List.set_cons_zero, List.set_cons_succ]; refine wpAnyH_done (by kernel_rfl) ?_ _; refine NoPanic.normal ?_)
      go_wp2_with fail
      refine bodyPost_ret (v := .tuple #[.slice A5 (gtF f f.length).length c5, .int .i64 ((R : Int) - (f.length : Int)), .bool true]) ?_ rfl ?_
      · have hwr : IntKind.i64.wrap ((R : Int) - (f.length : Int)) = (R : Int) - (f.length : Int) := IntWalk.i64_in _ (by omega)
        simp [results, Try.results32, go_sem, hwr]
      · have e3 : w3.drew.heap.size = w3.heap.size := rfl
        exact ⟨_, rfl, o5.less (by omega), by exact bel2 g5 HG⟩
end
end Go.Proofs.Ytbfkpfdkndnhkaa

/- Contracts: the factors of a matrix, the orders of a quotient, the reference's. -/
namespace Go.Proofs.Ytbfkpfdkndnhkaa
set_option linter.unusedSimpArgs false
set_option linter.unusedVariables false
open Go.RowKit

section
set_option maxHeartbeats 4000000
set_option maxRecDepth 10000
theorem sFac_c (r c : Int) (A : Option Addr) (l : List Int) (n cap : Nat) (w : World) (hn : l.length = n) (ha : Rd w A l) (hl : n ≤ 1099511627776) :
    Calls Try.prog 74 #[.agg #[.int .i64 r, .int .i64 c, .slice A n cap]] w (LRet (facO ⟨r, c, l⟩) w) := by
  have CS := fun W h => (sSmith_c r c A l n cap W hn h hl).mono fun _ _ h => smRet_out h
  have XS := Lib.hid fun (x : MX) (h : smD ⟨r, c, l⟩ = some x) => smD_some h
  have XF := Lib.hid fun (R C : Nat) (l' : List Int) (h : smD ⟨r, c, l⟩ = some ⟨R, C, l'⟩) => facO_some h
  obtain ⟨w1, hw1⟩ : ∃ w1, w1 = w.alloc (.cells #[.int .i64 r, .int .i64 c, .slice A n cap] 26) := ⟨_, rfl⟩
  have HG : Grows w w1 := by rw [hw1]; exact bel0
  have ha1 := ha.grows HG
  have hs1 := Below.size HG
  have HW1 := Lib.hid hw1
  obtain ⟨RES, hRES⟩ : ∃ x, x = facO ⟨r, c, l⟩ := ⟨_, rfl⟩
  rw [← hRES]
  obtain ⟨CO, hCO⟩ : ∃ x, x = smD ⟨r, c, l⟩ := ⟨_, rfl⟩
  rw [← hCO] at CS
  have HR := Lib.hid hRES
  have HCO := Lib.hid hCO
  have CS' := Lib.hid CS
  clear hw1 hRES hn CS hCO
  go_enter Try.func74, Try.ntmps74
  go_wp2_with fail
  rw [← HW1.out]
  refine (CS'.out _ (by exact (Rd.grows ha1 (by exact bel0)))).mono ?_; rintro e w2 ⟨v2, r2, c2, A2, n2, k2, r3, c3, A3, n3, k3, rfl, o2, g2⟩
  obtain ⟨A5, c5, rfl, hr2, _⟩ := o2.val
  have hs2 := Below.size g2
  cases CO with
  | none =>
    obtain rfl : RES = none := by rw [HR.out, facO_none HCO.out.symm]
    have e1 : (oM none).r = 0 := rfl
    have e2 : (oM none).c = 0 := rfl
    rw [e1, e2]
    go_wp2_with fail
    go_loopw [8, 9] (fun o i wr => i = .int .i64 0 ∧ o = .slice (some ⟨w2.heap.size + 1 + 1 + 1, 0, none⟩) 0 0 ∧ wr = ((((w2.alloc (.cells #[.int .i64 0, .int .i64 0, .slice A5 (oM none).l.length c5] 26)).alloc (.cells #[.int .i64 r2, .int .i64 c2, .slice A2 n2 k2] 26)).alloc (.cells #[.int .i64 r3, .int .i64 c3, .slice A3 n3 k3] 26)).alloc (.cells #[] 3))) (fun _ _ _ => 0)
    case atStart => exact ⟨rfl, rfl, rfl⟩
    case round =>
      obtain ⟨rfl, rfl, rfl⟩ := hrel
      go_wp2_with fail
      go_ret2
      exact ⟨_, rfl, Own.new_ _ (by simp) (by omega), by exact bel2 g2 HG⟩
  | some x =>
    obtain ⟨R, C, l', rfl, hR, hC, hlen, hnum⟩ := XS.out x HCO.out.symm
    simp only [oM_some, Option.isSome_some] at hr2 ⊢
    have HRB := Lib.hid (HR.out.trans (XF.out R C l' HCO.out.symm))
    have hRC : R * C ≤ 576 := Nat.mul_le_mul hR hC
    have hIC : ∀ i, i < R → i * C ≤ 576 := fun i hi => by have := Nat.mul_le_mul_right C (Nat.le_of_lt hi); omega
    have CC := Lib.hid fun (i : Nat) (hi : i < R) (hJ : i < C) W h => l12Cell_c R C A5 l' l'.length c5 i i W rfl h (castMul i C) (by have := castMulLe (hIC i hi); omega) (castPos i C i) (castLt (by rw [hlen]; exact idx_lt hi hJ)) (by rw [hlen]; omega)
    obtain ⟨w3, hw3⟩ : ∃ w3, w3 = ((w2.alloc (.cells #[.int .i64 R, .int .i64 C, .slice A5 l'.length c5] 26)).alloc (.cells #[.int .i64 r2, .int .i64 c2, .slice A2 n2 k2] 26)).alloc (.cells #[.int .i64 r3, .int .i64 c3, .slice A3 n3 k3] 26) := ⟨_, rfl⟩
    have m4 : MBox w3 w2.heap.size R C (.slice A5 l'.length c5) := by rw [hw3]; exact (MBox.mk_ _ _ _ _ _).grows (by exact bel0)
    have g23 : Grows w2 w3 := by rw [hw3]; exact bel0
    have HW3 := Lib.hid hw3
    have hr3 := hr2.grows g23
    have hs3 := Below.size g23
    have HS3 := Lib.hid (show w3.heap.size = w2.heap.size + 1 + 1 + 1 by rw [hw3]; simp)
    clear hw3 HR HCO XS XF hlen hnum o2 hIC
    by_cases hCR : C < R
    all_goals (
      go_wp2_with fail
      rw [← HW3.out]
      go_loopw [8, 9] (fun o i wr => ∃ (I : Nat) (A4 : Option Addr) (L : List Int) (c4 : Nat), i = .int .i64 I ∧ I ≤ min R C ∧ o = .slice A4 L.length c4 ∧ RowKit.Hid (dgs C l' I = L) ∧ Own wr w3.heap.size (.slice A4 L.length c4) L ∧ Grows w3 wr) (fun _ i _ => min R C - (intOf i).toNat)
      case atStart => exact ⟨0, _, [], _, rfl, Nat.zero_le _, rfl, Lib.hid rfl, Own.new_ _ HS3.out (Nat.le_of_eq HS3.out), by exact bel0⟩
      case round =>
        obtain ⟨I, A4, L, c4, rfl, hI, rfl, HL, ho, hg⟩ := hrel
        have hll : L.length ≤ 24 := by have := dgs_length C l' I; rw [HL.out] at this; omega
        have mb := m4.grows hg
        obtain ⟨b0, b1, b2⟩ := mb.cells
        have hrd := hr3.grows hg
        have hsr := Below.size hg
        by_cases hlt : I < min R C
        · have hltR : I < R := by omega
          have hltC : I < C := by omega
          have hlt1 : (I : Int) < (R : Int) := by omega
          have hlt2 : (I : Int) < (C : Int) := by omega
          have CD := fun W h => CC.out I hltR hltC W h
          rw [castIdx] at CD
          by_cases hz : nth l' (I * C + I) = 0
          · have HX : RowKit.Hid (dgs C l' (I + 1) = L) := Lib.hid (by rw [dgs_zero hz, ← HL.out])
            rw [hz] at CD
            have CD' := Lib.hid CD
            clear CD hz
            go_wp2_with fail
            refine (CD'.out _ hrd).mono ?_; rintro e w4 ⟨rfl, g4⟩
            go_wp2_with fail
            go_round
            case rel => exact ⟨I + 1, _, L, _, by go_num, by omega, rfl, HX, ho.grows g4, by exact bel2 g4 hg⟩
            case measure => simp [intOf]; omega
          · have HX : RowKit.Hid (dgs C l' (I + 1) = L ++ [nth l' (I * C + I)]) := Lib.hid (by rw [dgs_more hz, ← HL.out])
            have hz' : (nth l' (I * C + I) != 0) = true := by simpa using hz
            generalize nth l' (I * C + I) = d at *
            have CD' := Lib.hid CD
            clear CD hz
            go_wp2_with fail
            refine (CD'.out _ hrd).mono ?_; rintro e w4 ⟨rfl, g4⟩
            have ho4 := ho.grows g4
            have hs4 := Below.size g4
            clear b0 b1 b2
            obtain ⟨b0, b1, b2⟩ := (mb.grows g4).cells
            go_wp2_with fail
            refine (CD'.out _ (hrd.grows g4)).mono ?_; rintro e w5 ⟨rfl, g5⟩
            have ho5 := ho4.grows g5
            have hs5 := Below.size g5
            go_wp2_with (at_builtin; refine wpList_app1 rfl (.tmp 32) (.tmp 37) rfl _ d w3.heap.size _ L (by rfl) ho5 (by rfl) (by omega) (by omega) ?_; intro v7 w7 ho7 hg7 _)
            obtain ⟨A7, c7, rfl, _, _⟩ := ho7.val
            have hb7 : Below w3.heap.size w5 w7 := below_app ho5 (by omega) hg7
            go_round
            case rel => exact ⟨I + 1, _, _, _, by go_num, by omega, rfl, HX, ho7, by exact bel4 hb7 g5 g4 hg⟩
            case measure => simp [intOf]; omega
        · obtain rfl : RES = some L := by rw [HRB.out, ← HL.out, show I = min R C by omega]
          have hE : (C < R → ¬ (I : Int) < (C : Int)) ∧ (¬ C < R → ¬ (I : Int) < (R : Int)) := ⟨fun h => by omega, fun h => by omega⟩
          first | have hx := hE.1 hCR | have hx := hE.2 hCR
          clear hE
          go_wp2_with fail
          go_ret2
          exact ⟨_, rfl, by exact ho.less (by omega), by exact bel4 hg g23 g2 HG⟩)
theorem sQuo_c (r c r' c' : Int) (A B : Option Addr) (a b : List Int) (n m ca cb : Nat) (w : World) (hn : a.length = n) (hm : b.length = m) (hcb : m ≤ cb) (hcb2 : cb ≤ 9223372036854775807) (ha : Rd w A a) (hb : Rd w B b) (hl : n ≤ 1099511627776) (hl2 : m ≤ 1099511627776) :
    Calls Try.prog 33 #[.agg #[.int .i64 r, .int .i64 c, .slice A n ca], .agg #[.int .i64 r', .int .i64 c', .slice B m cb]] w (QuoRet (quoO ⟨r, c, a⟩ ⟨r', c', b⟩) w) := by
  have CC := fun W h h' => (sCrm_c r c r' c' A B a b n m ca cb W hn hm hcb h h' hl hl2).mono fun _ _ h => matRet_out h
  have XS := Lib.hid fun (x : MX) (h : crmO ⟨r, c, a⟩ ⟨r', c', b⟩ = some x) => crmO_shape h
  obtain ⟨w1, hw1, ma, mb, HG⟩ := two_box w r c r' c' (.slice A n ca) (.slice B m cb)
  have HW1 := Lib.hid hw1
  have ha1 := ha.grows HG
  have hb1 := hb.grows HG
  have hs1 := Below.size HG
  obtain ⟨RES, hRES⟩ : ∃ x, x = quoO ⟨r, c, a⟩ ⟨r', c', b⟩ := ⟨_, rfl⟩
  rw [← hRES]
  obtain ⟨CO, hCO⟩ : ∃ x, x = crmO ⟨r, c, a⟩ ⟨r', c', b⟩ := ⟨_, rfl⟩
  rw [← hCO] at CC
  have HR := Lib.hid hRES
  have HCO := Lib.hid hCO
  have CC' := Lib.hid CC
  clear hw1 hRES hn hm CC hCO
  go_enter Try.func33, Try.ntmps33
  go_wp2_with fail
  rw [← HW1.out]
  have ma_0 := ma.c0; have ma_1 := ma.c1; have ma_2 := ma.c2; have ma_l := ma.lt; have ma_f := ma.fz
  have mb_0 := mb.c0; have mb_1 := mb.c1; have mb_2 := mb.c2; have mb_l := mb.lt; have mb_f := mb.fz
  refine (CC'.out _ (by exact Rd.grows ha1 (by exact bel0)) (by exact Rd.grows hb1 (by exact bel0))).mono ?_; rintro e w2 ⟨v2, rfl, o2, g_w2⟩
  have s_w2 := Below.size g_w2; (try simp at s_w2)
  clear ma_0 ma_1 ma_2 ma_l ma_f
  replace ma := ma.grows (w' := w2) (by exact bel1 g_w2)
  have ma_0 := ma.c0; have ma_1 := ma.c1; have ma_2 := ma.c2; have ma_l := ma.lt; have ma_f := ma.fz
  clear mb_0 mb_1 mb_2 mb_l mb_f
  replace mb := mb.grows (w' := w2) (by exact bel1 g_w2)
  have mb_0 := mb.c0; have mb_1 := mb.c1; have mb_2 := mb.c2; have mb_l := mb.lt; have mb_f := mb.fz
  replace ha1 := ha1.grows (w' := w2) (by exact bel1 g_w2)
  replace hb1 := hb1.grows (w' := w2) (by exact bel1 g_w2)
  replace HG : Grows w w2 := by exact bel2 g_w2 HG
  have h_w2 := Below.size HG
  obtain ⟨A2, c2, rfl, hr2, _⟩ := o2.val
  cases CO with
  | none =>
    obtain rfl : RES = none := by rw [HR.out, quoO_none HCO.out.symm]
    go_wp2_with fail
    refine bodyPost_ret (v := .tuple #[.slice (some ⟨w2.heap.size + 1, 0, none⟩) 0 0, .int .i64 0, .bool false]) ?_ rfl ?_
    · simp [results, Try.results33, go_sem]
    · exact ⟨_, rfl, Own.new_ _ (by simp) (by omega), by exact bel1 HG⟩
  | some x =>
    obtain ⟨R, R', l, rfl, rfl, rfl, hR, hR', hmat, hll⟩ := XS.out x HCO.out.symm
    simp only [oM_some, Option.isSome_some] at hr2 ⊢
    have HRB := Lib.hid (HR.out.trans (quoO_some HCO.out.symm))
    have hll2 : l.length ≤ 1099511627776 := by have h2 : R' * R ≤ 24 * 24 := Nat.mul_le_mul hR' hR; omega
    have CF := fun W h => (sFac_c R' R A2 l l.length c2 W rfl h hll2).mono fun _ _ h => lRet_out h
    have XF := Lib.hid fun f (h : facO ⟨R', R, l⟩ = some f) => (facO_len h).1
    clear HR HCO XS hmat hll
    generalize facO ⟨R', R, l⟩ = FO at *
    obtain ⟨F, hF⟩ : ∃ F, F = oL FO := ⟨_, rfl⟩
    obtain ⟨fb, hfb⟩ : ∃ fb, fb = FO.isSome := ⟨_, rfl⟩
    rw [← hF, ← hfb] at CF
    have hFl : F.length ≤ 24 := by
      rw [hF]
      cases FO with
      | none => exact Nat.zero_le _
      | some f => exact XF.out f rfl
    have HF := Lib.hid hF
    have HFB := Lib.hid hfb
    have CF' := Lib.hid CF
    clear CF hF hfb XF
    go_wp2_with fail
    refine (CF'.out _ (by exact Rd.grows hr2 (by exact bel0))).mono ?_; rintro e w3 ⟨v3, rfl, o3, g_w3⟩
    have s_w3 := Below.size g_w3; (try simp at s_w3)
    clear ma_0 ma_1 ma_2 ma_l ma_f
    replace ma := ma.grows (w' := w3) (by exact bel1 g_w3)
    have ma_0 := ma.c0; have ma_1 := ma.c1; have ma_2 := ma.c2; have ma_l := ma.lt; have ma_f := ma.fz
    clear mb_0 mb_1 mb_2 mb_l mb_f
    replace mb := mb.grows (w' := w3) (by exact bel1 g_w3)
    have mb_0 := mb.c0; have mb_1 := mb.c1; have mb_2 := mb.c2; have mb_l := mb.lt; have mb_f := mb.fz
    replace ha1 := ha1.grows (w' := w3) (by exact bel1 g_w3)
    replace hb1 := hb1.grows (w' := w3) (by exact bel1 g_w3)
    replace hr2 := hr2.grows (w' := w3) (by exact bel1 g_w3)
    have mc : MBox w3 (w2.heap.size) R' R (.slice A2 l.length c2) := MBox.grows (MBox.new_ w2 R' R (.slice A2 l.length c2) 26 (by simp)) (w' := w3) (by exact bel1 g_w3)
    have mc_0 := mc.c0; have mc_1 := mc.c1; have mc_2 := mc.c2; have mc_l := mc.lt; have mc_f := mc.fz
    replace HG : Grows w w3 := by exact bel2 g_w3 HG
    have h_w3 := Below.size HG
    obtain ⟨A3, c3, rfl, hr3, _⟩ := o3.val
    go_wp2_with fail
    go_loopw [11, 12] (fun o i wr => ∃ (I : Nat) (A4 : Option Addr) (L : List Int) (c4 : Nat), i = .int .i64 I ∧ I ≤ F.length ∧ o = .slice A4 L.length c4 ∧ RowKit.Hid (gtF F I = L) ∧ Own wr w3.heap.size (.slice A4 L.length c4) L ∧ Grows w3 wr) (fun _ i _ => F.length - (intOf i).toNat)
    case atStart => exact ⟨0, _, [], _, rfl, Nat.zero_le _, rfl, Lib.hid rfl, Own.new_ _ rfl (Nat.le_refl _), by exact bel0⟩
    case round =>
      obtain ⟨I, A4, L, c4, rfl, hI, rfl, HL, ho, hg⟩ := hrel
      have hll : L.length ≤ I := by have := gtF_length F I; rw [HL.out] at this; exact this
      have hsr := Below.size hg
      by_cases hlt : I < F.length
      · have hlt' : (I : Int) < (F.length : Int) := by omega
        obtain ⟨bk, off, rfl, hbk, hc⟩ := hr3.at_ I hlt
        have hcell := (hg.cell hbk).trans hc
        by_cases hz : 1 < nth F I
        · have HX : RowKit.Hid (gtF F (I + 1) = L ++ [nth F I]) := Lib.hid (by rw [gtF_more hz, HL.out])
          generalize nth F I = d at *
          go_wp2_with (at_builtin; refine wpList_app1 rfl (.tmp 39) (.tmp 44) rfl _ d w3.heap.size _ L (by rfl) ho (by rfl) (by omega) (by omega) ?_; intro v7 w7 ho7 hg7 _)
          obtain ⟨A7, c7, rfl, _, _⟩ := ho7.val
          have hb7 : Below w3.heap.size wr w7 := below_app ho (by omega) hg7
          go_round
          case rel => exact ⟨I + 1, _, _, _, by go_num, by omega, rfl, HX, ho7, by exact bel2 hb7 hg⟩
          case measure => simp [intOf]; omega
        · have HX : RowKit.Hid (gtF F (I + 1) = L) := Lib.hid (by rw [gtF_less hz, HL.out])
          generalize nth F I = d at *
          go_wp2_with fail
          go_round
          case rel => exact ⟨I + 1, _, L, _, by go_num, by omega, rfl, HX, ho, hg⟩
          case measure => simp [intOf]; omega
      · have hlt' : ¬ (I : Int) < (F.length : Int) := by omega
        have HE := Lib.hid (show gtF F F.length = L by rw [← HL.out, show I = F.length by omega])
        cases fb with
        | false =>
          obtain rfl : RES = none := by
            rw [HRB.out]
            cases FO with
            | none => rfl
            | some f => have := HFB.out; simp at this
          go_wp2_with fail
          refine bodyPost_ret (v := .tuple #[.slice (some ⟨wr.heap.size, 0, none⟩) 0 0, .int .i64 0, .bool false]) ?_ rfl ?_
          · simp [results, Try.results33, go_sem]
          · exact ⟨_, rfl, Own.new_ _ rfl (by omega), by exact bel2 hg HG⟩
        | true =>
          obtain rfl : RES = some (L, (R : Int) - (F.length : Int)) := by
            rw [HRB.out]
            cases FO with
            | none => have := HFB.out; simp at this
            | some f =>
              obtain rfl : F = f := HF.out
              rw [quoA_some, HE.out]
          have mg := ma.grows hg
          go_wp2_with fail
          (refine wp_region_heldL (fun W => W.cell? ⟨w.heap.size, 0, none⟩ = some (.int .i64 R)) (by kernel_rfl) (by ((try dsimp only); (exact (mg.grows (by exact bel0)).c0))) (fun hHeld => ?_); refine heldL_take (i := 0) (v := _) (by rfl) (by kernel_rfl) (by kernel_rfl) (by kernel_rfl) (fun _ _ _ h => h) (Or.inl ⟨by rfl, fun wS hSw => by ((try dsimp only at hSw); go_simp; (try with_reducible rfl))⟩) (by assumption) ?_; simp only [Act.put, List.setIfInBounds_toArray, List.set_cons_zero, List.set_cons_succ]; refine heldL_take (i := 1) (v := _) (by rfl) (by kernel_rfl) (by kernel_rfl) (by kernel_rfl) (fun _ _ _ h => h) (Or.inl ⟨by rfl, fun wS hSw => by ((try dsimp only at hSw); go_simp; (try with_reducible rfl))⟩) (by assumption) ?_; simp only [Act.put, List.setIfInBounds_toArray, List.set_cons_zero, List.set_cons_succ]; refine heldL_take (i := 2) (v := _) (by rfl) (by kernel_rfl) (by kernel_rfl) (by kernel_rfl) (fun _ _ _ h => h) (Or.inl ⟨by rfl, fun wS hSw => by ((try dsimp only at hSw); go_simp; (try with_reducible rfl))⟩) (by assumption) ?_; simp only [Act.put, List.setIfInBounds_toArray, List.set_cons_zero, List.set_cons_succ]; refine heldL_take (i := 3) (v := _) (by rfl) (by kernel_rfl) (by kernel_rfl) (by kernel_rfl) (fun _ _ _ h => h) (Or.inl ⟨by rfl, fun wS hSw => by ((try dsimp only at hSw); go_simp; (try with_reducible rfl))⟩) (by assumption) ?_; simp only [Act.put, List.setIfInBounds_toArray, List.set_cons_zero, List.set_cons_succ]; refine heldL_take (i := 4) (v := _) (by rfl) (by kernel_rfl) (by kernel_rfl) (by kernel_rfl) (fun _ _ _ h => h) (Or.inl ⟨by rfl, fun wS hSw => by ((try dsimp only at hSw); go_simp; (try with_reducible rfl))⟩) (by assumption) ?_; simp only [Act.put, List.setIfInBounds_toArray, List.set_cons_zero, List.set_cons_succ]; refine heldL_take (i := 5) (v := _) (by rfl) (by kernel_rfl) (by kernel_rfl) (by kernel_rfl) (fun _ _ _ h => h) (Or.inl ⟨by rfl, fun wS hSw => by ((try dsimp only at hSw); go_simp; (try with_reducible rfl))⟩) (by assumption) ?_; simp only [Act.put, List.setIfInBounds_toArray, List.set_cons_zero, List.set_cons_succ]; refine heldL_take (i := 6) (v := _) (by rfl) (by kernel_rfl) (by kernel_rfl) (by kernel_rfl) (fun _ _ _ h => h) (Or.inl ⟨by rfl, fun wS hSw => by ((try dsimp only at hSw); go_simp; (try with_reducible rfl))⟩) (by assumption) ?_; simp only [Act.put, List.setIfInBounds_toArray, List.set_cons_zero, List.set_cons_succ]; refine heldL_take (i := 7) (v := _) (by rfl) (by kernel_rfl) (by kernel_rfl) (by kernel_rfl) (fun _ _ _ h => h) (Or.inl ⟨by rfl, fun wS hSw => by ((try dsimp only at hSw); go_simp; (try with_reducible rfl))⟩) (by assumption) ?_; simp only [Act.put, List.setIfInBounds_toArray, List.set_cons_zero, List.set_cons_succ]; refine heldL_take (i := 8) (v := _) (by rfl) (by kernel_rfl) (by kernel_rfl) (by kernel_rfl) (fun _ _ _ h => h) (Or.inl ⟨by rfl, fun wS hSw => by ((try dsimp only at hSw); go_simp; (try with_reducible rfl))⟩) (by assumption) ?_; simp only [Act.put, List.setIfInBounds_toArray, List.set_cons_zero, List.set_cons_succ]; refine wpAnyH_done (by kernel_rfl) ?_ _; refine NoPanic.normal ?_)
          go_wp2_with fail
          refine bodyPost_ret (v := .tuple #[.slice A4 L.length c4, .int .i64 ((R : Int) - (F.length : Int)), .bool true]) ?_ rfl ?_
          · have hwr : IntKind.i64.wrap ((R : Int) - (F.length : Int)) = (R : Int) - (F.length : Int) := IntWalk.i64_in _ (by omega)
            simp [results, Try.results33, go_sem, hwr]
          · exact ⟨_, rfl, by first | exact ho.less (by omega) | exact ownl ho, by exact bel2 hg HG⟩
end
end Go.Proofs.Ytbfkpfdkndnhkaa
