/- Contracts and lemmas, put together. -/
import Derived.Test.YtbfkpfdkndnhkaaPkD
import Derived.Test.YtbfkpfdkndnhkaaPkE
import Derived.Test.YtbfkpfdkndnhkaaPkF
import Derived.Test.YtbfkpfdkndnhkaaPkT
/- Contract: a row of a matrix divided by the greatest common divisor of its cells. -/
namespace Go.Proofs.Ytbfkpfdkndnhkaa
set_option linter.unusedSimpArgs false
set_option linter.unusedVariables false
open Go.RowKit
set_option linter.unusedVariables false

/-! ### plain -/
/-- the greatest common divisor of the first cells of row i -/
def rgF (C : Nat) (l : List Int) (i : Nat) : Nat → Int
  | 0 => 0
  | k + 1 => gcdI (rgF C l i k) (nth l (i * C + k))
theorem rgF_dvd (C : Nat) (l : List Int) (i k : Nat) : (∀ b, b < k → rgF C l i k ∣ nth l (i * C + b)) ∧ (∀ d : Int, (∀ b, b < k → d ∣ nth l (i * C + b)) → d ∣ rgF C l i k) ∧ 0 ≤ rgF C l i k := by
  induction k with
  | zero => exact ⟨fun b hb => absurd hb (Nat.not_lt_zero _), fun d _ => ⟨0, by simp [rgF]⟩, Int.le_refl 0⟩
  | succ k ih =>
    obtain ⟨h1, h2, h3⟩ := ih
    have g1 : rgF C l i (k + 1) ∣ rgF C l i k := Int.gcd_dvd_left _ _
    have g2 : rgF C l i (k + 1) ∣ nth l (i * C + k) := Int.gcd_dvd_right _ _
    refine ⟨fun b hb => ?_, fun d hd => ?_, gcdI_nonneg _ _⟩
    · by_cases e : b = k
      · rw [e]; exact g2
      · exact Int.dvd_trans g1 (h1 b (by omega))
    · exact Int.dvd_coe_gcd (h2 d fun b hb => hd b (by omega)) (hd k (by omega))
theorem rgF_bd {C : Nat} {l : List Int} {i : Nat} (h : ∀ b, -400000000 ≤ nth l (i * C + b) ∧ nth l (i * C + b) ≤ 400000000) (k : Nat) : 0 ≤ rgF C l i k ∧ rgF C l i k ≤ 400000000 := by
  obtain ⟨h1, h2, h3⟩ := rgF_dvd C l i k
  refine ⟨h3, ?_⟩
  by_cases e : ∃ b, b < k ∧ nth l (i * C + b) ≠ 0
  · obtain ⟨b, hb, hne⟩ := e
    have := Int.natAbs_dvd_natAbs.2 (h1 b hb)
    have := Nat.le_of_dvd (by omega) this
    have := h b
    omega
  · have : (0 : Int) ∣ rgF C l i k := h2 0 fun b hb => by
      rw [Classical.byContradiction fun hn => e ⟨b, hb, hn⟩]; exact ⟨0, rfl⟩
    have := Int.zero_dvd.1 this
    omega
/-- row i divided by what all its cells are multiples of; it is primitive then -/
structure Prm (R C i : Nat) (l m : List Int) : Prop where
  len : m.length = R * C
  num : allNum m = true
  oth : ∀ a b, a < R → b < C → a ≠ i → nth m (a * C + b) = nth l (a * C + b)
  row : ∃ g : Int, g ≠ 0 ∧ ∀ b, b < C → nth l (i * C + b) = g * nth m (i * C + b)
  prim : PrimV C (mt C m i)
def prFn (C i : Nat) (g : Int) (l : List Int) : Nat → Nat → Int := fun a b => if a = i then (nth l (i * C + b)).tdiv g else nth l (a * C + b)
theorem prFn_other {C i a b : Nat} {g : Int} {l : List Int} (h : a ≠ i) : prFn C i g l a b = nth l (a * C + b) := by unfold prFn; rw [if_neg h]
theorem prFn_same {C i b : Nat} {g : Int} {l : List Int} : prFn C i g l i b = (nth l (i * C + b)).tdiv g := by unfold prFn; rw [if_pos rfl]
theorem prm_zero {R C i : Nat} {l : List Int} (hl : l.length = R * C) (hn : allNum l = true) (h : rgF C l i C = 0) : Prm R C i l l :=
  ⟨hl, hn, fun _ _ _ _ _ => rfl, ⟨1, by decide, fun b _ => (Int.one_mul _).symm⟩, .inl fun b hb => by
    have := (rgF_dvd C l i C).1 b hb
    rw [h] at this
    exact Int.zero_dvd.1 this⟩
theorem prm_yes {R C i p : Nat} {l : List Int} {g : Int} (hl : l.length = R * C) (hn : allNum l = true) (hi : i < R) (hg : g = rgF C l i C ∨ g = - rgF C l i C) (h0 : rgF C l i C ≠ 0) (hp : p < C) (hz : ∀ b, b < p → nth l (i * C + b) = 0)
    (hne : nth l (i * C + p) ≠ 0) (hs : nth l (i * C + p) < 0 ↔ g < 0) : Prm R C i l (tab R C (prFn C i g l)) := by
  obtain ⟨d1, d2, d3⟩ := rgF_dvd C l i C
  have hg0 : g ≠ 0 := by omega
  have gd : ∀ b, b < C → g ∣ nth l (i * C + b) := fun b hb => by
    rcases hg with e | e
    · rw [e]; exact d1 b hb
    · rw [e]; exact Int.neg_dvd.2 (d1 b hb)
  have cell : ∀ b, b < C → nth (tab R C (prFn C i g l)) (i * C + b) = (nth l (i * C + b)).tdiv g := fun b hb => by rw [tab_nth _ hi hb, prFn_same]
  have mul : ∀ b, b < C → nth l (i * C + b) = g * nth (tab R C (prFn C i g l)) (i * C + b) := fun b hb => by rw [cell b hb, Int.mul_tdiv_cancel' (gd b hb)]
  refine ⟨tab_length _ _ _, ?_, fun a b ha hb hne => by rw [tab_nth _ ha hb, prFn_other hne], ⟨g, hg0, mul⟩, .inr ⟨fun d hd => ?_, p, hp, ?_, fun b hb => ?_⟩⟩
  · rw [allNum_iff]
    intro k hk
    rw [tab_length] at hk
    obtain ⟨h1, h2, h3⟩ := idx_split hk
    rw [h3, tab_nth _ h1 h2]
    by_cases e : k / C = i
    · rw [e, prFn_same]
      have := (isNum_iff _).1 ((allNum_iff _).1 hn (i * C + k % C) (by rw [hl]; exact idx_lt hi h2))
      rw [isNum_iff]
      have h5 : ((nth l (i * C + k % C)).tdiv g).natAbs ≤ (nth l (i * C + k % C)).natAbs := by rw [Int.natAbs_tdiv]; exact Nat.div_le_self _ _
      omega
    · rw [prFn_other e]; exact (allNum_iff _).1 hn _ (by rw [hl]; exact idx_lt h1 h2)
  · have h1 : rgF C l i C * d ∣ rgF C l i C := d2 _ fun b hb => by
      have h2 := mul b hb
      obtain ⟨q, hq⟩ := hd b hb
      have hq' : nth (tab R C (prFn C i g l)) (i * C + b) = d * q := hq
      rw [hq'] at h2
      rw [h2]
      rcases hg with e | e
      · rw [e]; exact ⟨q, by ac_rfl⟩
      · rw [e]; exact ⟨-q, by rw [Int.neg_mul, Int.mul_neg]; congr 1; ac_rfl⟩
    obtain ⟨q, hq⟩ := h1
    refine ⟨q, ?_⟩
    have : rgF C l i C * (d * q) = rgF C l i C * 1 := by rw [← Int.mul_assoc, ← hq, Int.mul_one]
    exact (Int.eq_of_mul_eq_mul_left h0 this).symm
  · show 0 < nth (tab R C (prFn C i g l)) (i * C + p)
    have := mul p hp
    generalize nth (tab R C (prFn C i g l)) (i * C + p) = y at *
    rw [this] at hne hs
    rcases Int.lt_trichotomy y 0 with hy | hy | hy
    · rcases Int.lt_or_gt_of_ne hg0 with k | k
      · have := Int.mul_pos_of_neg_of_neg k hy; omega
      · have := Int.mul_neg_of_pos_of_neg k hy; omega
    · rw [hy, Int.mul_zero] at hne; exact absurd rfl hne
    · exact hy
  · show nth (tab R C (prFn C i g l)) (i * C + b) = 0
    rw [cell b (by omega), hz b hb, Int.zero_tdiv]
/-- what the function leaves -/
def PrmRes (R C i B : Nat) (v : Value) (l : List Int) (w : World) (e : Ending) (w' : World) : Prop := ∃ m, e = .returned (.tuple #[]) ∧ Own w' B v m ∧ Prm R C i l m ∧ w.grownBy w' v.ownBlock

section
set_option maxHeartbeats 2000000
set_option maxRecDepth 100000
theorem prim_c (R C : Nat) (A : Option Addr) (l : List Int) (n cap i B : Nat) (w : World) (hl : n = R * C) (hR : R ≤ 24) (hC : C ≤ 24) (ho : Own w B (.slice A n cap) l) (hnum : allNum l = true) (hi : i < R) :
    Calls Try.prog 112 #[.slice (rowA cap C A i) C (cap - i * C)] w (PrmRes R C i B (.slice A n cap) l w) := by
  obtain ⟨hn, hcap, hcap2⟩ := ho.caps
  have hiC : (i + 1) * C ≤ n := by rw [hl]; exact Nat.mul_le_mul_right C hi
  have hiC2 : i * C + C ≤ cap := by rw [Nat.add_mul, Nat.one_mul] at hiC; omega
  rcases Nat.eq_zero_or_pos C with hC0 | hC0
  · have P := Lib.hid (prm_zero (i := i) (hn.trans hl) hnum (by rw [hC0]; rfl))
    have HC0 := Lib.hid hC0
    generalize rowA cap C A i = S1 at *
    generalize cap - i * C = c1 at *
    have q1 : (C : Int) = 0 := by omega
    obtain ⟨D, hD⟩ : ∃ D : Int, D = (C : Int) := ⟨_, rfl⟩
    have q2 : ¬ ((0 : Int) < (C : Int)) := by omega
    clear hC0 q1 hl hn
    go_enter Try.func112, Try.ntmps112
    go_wp2_with fail
    go_loopw [2, 8] (fun g k wr => g = .int .i64 0 ∧ k = .int .i64 0 ∧ wr = w) (fun _ _ _ => 0)
    case atStart => exact ⟨rfl, rfl, rfl⟩
    case round =>
      obtain ⟨rfl, rfl, rfl⟩ := hrel
      go_wp2_with fail
      ((try simp only [Exit.inBlock, Exit.then]); refine bodyPost_ret (results_none rfl _ _ _) rfl ?_)
      exact ⟨l, rfl, ho, P.out, World.grownBy.refl _ _⟩
  · have hpos : 0 < n := by rw [hl]; exact Nat.mul_pos (by omega) hC0
    obtain ⟨g, cap', e, hgB, hgw⟩ := ho.form (by rw [hn]; exact hpos)
    simp only [Value.slice.injEq] at e
    obtain ⟨rfl, -, rfl⟩ := e
    rw [rowA_at hiC2 hC0, Nat.zero_add]
    have hnb : ∀ b, -400000000 ≤ nth l (i * C + b) ∧ nth l (i * C + b) ≤ 400000000 := fun b => by
      by_cases hb : i * C + b < l.length
      · exact (isNum_iff _).1 ((allNum_iff _).1 hnum _ hb)
      · rw [nth_out _ _ (by omega)]; omega
    have HNB := Lib.hid hnb
    have HGB := Lib.hid fun k => rgF_bd hnb k
    have CG := Lib.hid fun x y W h1 h2 h3 h4 => gcd_c x y W h1 h2 h3 h4
    have hrl : (rowL C l i).length = C := rowL_length (by rw [hn]; exact hiC)
    have CF := Lib.hid fun W (h : Rd W (some ⟨g, i * C, none⟩) (rowL C l i)) => firstCell_c (some ⟨g, i * C, none⟩) (rowL C l i) C (cap - i * C) W hrl h (by omega)
    have HL := Lib.hid (hn.trans hl)
    have HN := Lib.hid hn
    have HNUM := Lib.hid hnum
    have HIX := Lib.hid fun b (hb : b < C) => (show i * C + b < n by rw [hl]; exact idx_lt hi hb)
    generalize cap - i * C = c1 at *
    have hC' : (C : Int) ≤ 24 := by omega
    clear hn hl hnum hnb hiC hpos
    go_enter Try.func112, Try.ntmps112
    go_wp2_with fail
    go_loopw [2, 8] (fun s k wr => ∃ K : Nat, s = .int .i64 (rgF C l i K) ∧ k = .int .i64 (K : Nat) ∧ K ≤ C ∧ Grows w wr) (fun _ k _ => C - (intOf k).toNat)
    case atStart => exact ⟨0, rfl, rfl, Nat.zero_le _, Below.refl _ _⟩
    case round =>
      obtain ⟨K, rfl, rfl, hK, hg⟩ := hrel
      obtain ⟨wk, rfl⟩ : ∃ x : World, x = wr := ⟨_, rfl⟩
      have ok := ho.grows hg
      have sk := Below.size hg
      by_cases hlt : K < C
      · have k1 : (K : Int) < (C : Int) := by omega
        have hc := ok.cell (i * C + K) (by rw [HN.out]; exact HIX.out K hlt)
        have HX := Lib.hid (show gcdI (rgF C l i K) (nth l (i * C + K)) = rgF C l i (K + 1) from rfl)
        obtain ⟨g1, g2⟩ := HGB.out K
        obtain ⟨g3, g4⟩ := HNB.out K
        generalize nth l (i * C + K) = x at *
        generalize rgF C l i K = y at *
        go_wp2_with fail
        refine (CG.out y x _ (by omega) (by omega) (by omega) (by omega)).mono ?_; rintro e w2 ⟨rfl, h2⟩
        rw [HX.out]
        go_wp2_with fail
        go_round
        case rel => exact ⟨K + 1, rfl, by go_num, by omega, by exact bel2 h2 hg⟩
        case measure => simp [intOf]; omega
      · obtain rfl : K = C := by omega
        have k1 : ¬ (K : Int) < (K : Int) := by omega
        have HP0 := Lib.hid fun h => prm_zero (R := R) (i := i) HL.out HNUM.out h
        obtain ⟨g1, g2⟩ := HGB.out K
        obtain ⟨y, hy⟩ : ∃ y, y = rgF K l i K := ⟨_, rfl⟩
        rw [← hy] at g1 g2 HP0 ⊢
        by_cases h0 : y = 0
        · have P := Lib.hid (HP0.out h0)
          subst h0
          go_wp2_with fail
          ((try simp only [Exit.inBlock, Exit.then]); refine bodyPost_ret (results_none rfl _ _ _) rfl ?_)
          exact ⟨l, rfl, ok, P.out, ⟨hg.os, hg.tape, hg.output, hg.size, fun k hk _ => hg.block k hk⟩⟩
        · have hfz : fnz (rowL K l i) < K := by
            have h1 := fnz_le (rowL K l i)
            refine Classical.byContradiction fun hc => h0 ?_
            rw [hy]
            have : (0 : Int) ∣ rgF K l i K := (rgF_dvd K l i K).2.1 0 fun b hb => by
              rw [← rowL_nth hb, fnz_zero (by omega)]; exact ⟨0, rfl⟩
            exact Int.zero_dvd.1 this
          have hfI : fcI (rowL K l i) = (fnz (rowL K l i) : Int) := by unfold fcI; rw [if_neg (by omega)]
          have hfn : nth l (i * K + fnz (rowL K l i)) ≠ 0 := by rw [← rowL_nth hfz]; exact fnz_ne (by omega)
          have hfl : ∀ b, b < fnz (rowL K l i) → nth l (i * K + b) = 0 := fun b hb => by rw [← rowL_nth (by omega)]; exact fnz_zero hb
          have rdk : Rd wk (some ⟨g, i * K, none⟩) (rowL K l i) := fun b hb => by
            rw [hrl] at hb
            refine ⟨g, i * K, rfl, (ok.lt).2, ?_⟩
            rw [ok.cell (i * K + b) (by rw [HN.out]; exact HIX.out b hb), rowL_nth hb]
          have CF1 := CF.out wk rdk
          rw [hfI] at CF1
          have CF' := Lib.hid CF1
          obtain ⟨p, hp⟩ : ∃ p, p = fnz (rowL K l i) := ⟨_, rfl⟩
          rw [← hp] at CF' hfz hfn hfl
          have HP := Lib.hid fun gg h1 h2 => prm_yes (R := R) (g := gg) HL.out HNUM.out hi h1 (by rw [← hy]; exact h0) hfz hfl hfn h2
          have hcp := ok.cell (i * K + p) (by rw [HN.out]; exact HIX.out p hfz)
          have HX := Lib.hid (show nth l (i * K + p) = nth l (i * K + p) from rfl)
          obtain ⟨x, hx⟩ : ∃ x, x = nth l (i * K + p) := ⟨_, rfl⟩
          rw [← hx] at hcp HP hfn
          rw [← hy] at HP
          have j1 : (p : Int) < (K : Int) := by omega
          have hgr : w.grownBy wk (some g) := ⟨hg.os, hg.tape, hg.output, hg.size, fun k hk _ => hg.block k hk⟩
          clear hfI CF1 CF hrl rdk hp hx hy HP0 HX hfl
          by_cases hx0 : x < 0
          all_goals (
            first
            | (
              have hx1 : x < 0 := hx0
              have kn : IntKind.i64.wrap (-y) = -y := IntWalk.i64_in _ (by omega)
              have P := HP.out (-y) (.inr rfl) (by omega)
              obtain ⟨gg, hgg⟩ : ∃ gg, -y = gg := ⟨_, rfl⟩
              rw [hgg] at P kn
              have hg0 : gg ≠ 0 := by omega
              have hg1 : -400000000 ≤ gg := by omega
              have hg2 : gg ≤ 400000000 := by omega
              have HPR := Lib.hid P
              have e1 := Lib.hid (ColD.zero (f := prFn K i gg l) HL.out)
              clear P HP hx1
              go_wp2_with fail
              refine CF'.out.mono ?_; rintro e w3 ⟨rfl, rfl⟩
              go_wp2_with fail
              clear hgg kn)
            | (
              have P := HP.out y (.inl rfl) (by omega)
              obtain ⟨gg, rfl⟩ : ∃ gg, gg = y := ⟨_, rfl⟩
              have hg0 : gg ≠ 0 := by omega
              have hg1 : -400000000 ≤ gg := by omega
              have hg2 : gg ≤ 400000000 := by omega
              have HPR := Lib.hid P
              have e1 := Lib.hid (ColD.zero (f := prFn K i gg l) HL.out)
              clear P HP
              go_wp2_with fail
              refine CF'.out.mono ?_; rintro e w3 ⟨rfl, rfl⟩
              go_wp2_with fail)
            obtain ⟨wk, rfl⟩ : ∃ x : World, x = wk := ⟨_, rfl⟩
            clear hcp hfn CF'
            go_loopw [28] (fun k wr => ∃ (J : Nat) (m : List Int), k = .int .i64 (J : Nat) ∧ J ≤ K ∧ ColD R K (prFn K i gg l) l J m ∧ Own wr B (.slice (some ⟨g, 0, none⟩) n cap) m ∧ wk.grownBy wr (some g)) (fun k _ => K - (intOf k).toNat)
            case atStart => exact ⟨0, l, rfl, Nat.zero_le _, e1.out, ok, World.grownBy.refl _ _⟩
            case round =>
              clear ok
              obtain ⟨J, m, rfl, hJ, hd, om, hgj⟩ := hrel
              obtain ⟨wj, rfl⟩ : ∃ x : World, x = wr := ⟨_, rfl⟩
              have HD := Lib.hid hd
              clear hd
              by_cases hlt : J < K
              · have l1 := idx_lt hi hlt
                have hml := HD.out.1
                have HML := Lib.hid (hml.trans HL.out.symm |>.trans HN.out)
                have c1' := om.cell (i * K + J) (by rw [hml]; exact l1)
                have cf := om.free (i * K + J)
                rw [HD.out.cell hi hlt] at c1'
                obtain ⟨g3, g4⟩ := HNB.out J
                have hset := HD.out.set1 hi hlt (fun a ha hne => prFn_other hne)
                rw [prFn_same] at hset
                have HSET := Lib.hid hset
                have q1 : (J : Int) < (K : Int) := by omega
                obtain ⟨q, hq⟩ : ∃ q, q = (nth l (i * K + J)).tdiv gg := ⟨_, rfl⟩
                have hqb : q.natAbs ≤ (nth l (i * K + J)).natAbs := by rw [hq, Int.natAbs_tdiv]; exact Nat.div_le_self _ _
                have hq1 : -400000000 ≤ q := by omega
                have hq2 : q ≤ 400000000 := by omega
                clear hset hml l1 hqb
                rw [← hq] at HSET
                have hq' := hq.symm
                generalize nth l (i * K + J) = z0 at *
                clear hq
                go_wp2_with fail
                go_round
                case rel => exact ⟨J + 1, _, by go_num, by omega, HSET.out, om.put HML.out _ _, only_setCell (p := ⟨g, i * K + J, none⟩) hgj rfl _⟩
                case measure => simp [intOf]; omega
              · obtain rfl : J = K := by omega
                have q1 : ¬ (J : Int) < (J : Int) := by omega
                have HM := Lib.hid HD.out.all
                go_wp2_with fail
                go_end0
                exact ⟨m, rfl, om, by rw [HM.out]; exact HPR.out, ⟨hgj.os.trans hgr.os, hgj.tape.trans hgr.tape, hgj.output.trans hgr.output, Nat.le_trans hgr.size hgj.size, fun k hk hne => (hgj.block k (Nat.lt_of_lt_of_le hk hgr.size) hne).trans (hgr.block k hk hne)⟩⟩)
end
end Go.Proofs.Ytbfkpfdkndnhkaa

/- Plain: the states of the elimination to a reduced echelon form, as lists of cells. -/
namespace Go.Proofs.Ytbfkpfdkndnhkaa
set_option linter.unusedSimpArgs false
set_option linter.unusedVariables false

/-- the rows made primitive, up to row I -/
structure E1 (R C : Nat) (L : List Int) (I : Nat) (m : List Int) : Prop where
  len : m.length = R * C
  num : allNum m = true
  fw : ∀ i, i < R → InQ R C (mt C L) (mt C m i)
  bw : ∀ i, i < R → InQ R C (mt C m) (mt C L i)
  pr : ∀ i, i < I → i < R → PrimV C (mt C m i)
theorem E1.zero {R C : Nat} {L : List Int} (hl : L.length = R * C) (hn : allNum L = true) : E1 R C L 0 L :=
  ⟨hl, hn, fun i hi => (InL.row hi).q, fun i hi => (InL.row hi).q, fun i hi => absurd hi (Nat.not_lt_zero _)⟩
theorem E1.step {R C I : Nat} {L m m' : List Int} (h : E1 R C L I m) (p : Prm R C I m m') (hI : I < R) : E1 R C L (I + 1) m' := by
  obtain ⟨g, hg, hr⟩ := p.row
  have s1 : ∀ a, a < R → InQ R C (mt C m) (mt C m' a) := fun a ha => by
    by_cases k : a = I
    · subst k
      exact InQ.two (c := g) (d := 1) (e := 0) hg (InL.row ha) (InL.row ha) fun b hb => by
        have := hr b hb
        show g * nth m' (a * C + b) = 1 * nth m (a * C + b) + 0 * nth m (a * C + b)
        omega
    · exact (InL.row ha).q.congr fun b hb => p.oth a b ha hb k
  have s2 : ∀ a, a < R → InQ R C (mt C m') (mt C m a) := fun a ha => by
    by_cases k : a = I
    · subst k
      exact InQ.two (c := 1) (d := g) (e := 0) (by decide) (InL.row (a := mt C m') ha) (InL.row (a := mt C m') ha) fun b hb => by
        have := hr b hb
        show 1 * nth m (a * C + b) = g * nth m' (a * C + b) + 0 * nth m' (a * C + b)
        omega
    · exact (InL.row (a := mt C m') ha).q.congr fun b hb => (p.oth a b ha hb k).symm
  refine ⟨p.len, p.num, fun i hi => (s1 i hi).trans h.fw, fun i hi => (h.bw i hi).trans s2, fun i hi hiR => ?_⟩
  by_cases k : i = I
  · rw [k]; exact p.prim
  · rcases h.pr i (by omega) hiR with hz | ⟨hd, q, hq, hpos, hz⟩
    · exact .inl fun b hb => (p.oth i b hiR hb k).trans (hz b hb)
    · refine .inr ⟨fun d hdv => hd d fun b hb => ?_, q, hq, ?_, fun b hb => ?_⟩
      · have e : mt C m' i b = mt C m i b := p.oth i b hiR hb k
        rw [← e]; exact hdv b hb
      · have e : mt C m' i q = mt C m i q := p.oth i q hiR hq k
        rw [e]; exact hpos
      · have e : mt C m' i b = mt C m i b := p.oth i b hiR (by omega) k
        rw [e]; exact hz b hb
/-- t pivots in the first J columns -/
structure E2 (R C : Nat) (L : List Int) (t J : Nat) (m : List Int) : Prop where
  len : m.length = R * C
  num : allNum m = true
  ech : ∃ p, EchI R C (mt C L) (mt C m) p t J
theorem E1.all {R C : Nat} {L m : List Int} (h : E1 R C L R m) : E2 R C L 0 0 m :=
  ⟨h.len, h.num, fun _ => 0, EchI.start h.fw h.bw fun i hi => h.pr i hi hi⟩
theorem E2.tR {R C t J : Nat} {L m : List Int} (h : E2 R C L t J m) : t ≤ R := by obtain ⟨p, hp⟩ := h.ech; exact hp.tR
theorem E2.skip {R C t J : Nat} {L m : List Int} (h : E2 R C L t J m) (hz : ∀ i, t ≤ i → i < R → nth m (i * C + J) = 0) : E2 R C L t (J + 1) m := by
  obtain ⟨p, hp⟩ := h.ech
  exact ⟨h.len, h.num, p, hp.skip hz⟩
theorem E2.swp {R C t J q : Nat} {L m : List Int} (h : E2 R C L t J m) (hJ : J ≤ C) (hq : q < R) (htq : t ≤ q) : E2 R C L t J (swpT R C q t m) := by
  obtain ⟨p, hp⟩ := h.ech
  refine ⟨swpT_length _ _ _ _ _, swpT_num h.len hq (by omega) h.num, p, hp.swp hJ hq (show t < R by omega) htq (Nat.le_refl _) fun a b ha hb => ?_⟩
  exact swpT_cells a b ha hb
/-- the rows up to I have nothing in column J -/
structure E3 (R C : Nat) (L : List Int) (t J I : Nat) (m : List Int) : Prop where
  e : E2 R C L t J m
  ne : nth m (t * C + J) ≠ 0
  z : ∀ i, i < I → i < R → i ≠ t → nth m (i * C + J) = 0
theorem E2.start {R C t J q : Nat} {L m : List Int} (h : E2 R C L t J m) (hJ : J < C) (hq : q < R) (htq : t ≤ q) (hx : nth m (q * C + J) ≠ 0) : (q = t → E3 R C L t J 0 m) ∧ E3 R C L t J 0 (swpT R C q t m) := by
  refine ⟨fun e => ⟨h, by rw [← e]; exact hx, fun i hi => absurd hi (Nat.not_lt_zero _)⟩, ⟨h.swp (Nat.le_of_lt hJ) hq htq, ?_, fun i hi => absurd hi (Nat.not_lt_zero _)⟩⟩
  rw [swpT_cell (by omega) hJ]
  split
  · rename_i e; rw [e]; exact hx
  · rw [if_pos rfl]; exact hx
theorem E3.skip {R C t J I : Nat} {L m : List Int} (h : E3 R C L t J I m) (hz : I = t ∨ nth m (I * C + J) = 0) : E3 R C L t J (I + 1) m :=
  ⟨h.e, h.ne, fun i hi hiR hne => by
    by_cases k : i = I
    · subst k
      rcases hz with q | q
      · exact absurd q hne
      · exact q
    · exact h.z i (by omega) hiR hne⟩
def elFn (C I t : Nat) (u v : Int) (m : List Int) : Nat → Nat → Int := fun a b => if a = I then u * nth m (I * C + b) - v * nth m (t * C + b) else nth m (a * C + b)
theorem elFn_other {C I t a b : Nat} {u v : Int} {m : List Int} (h : a ≠ I) : elFn C I t u v m a b = nth m (a * C + b) := by unfold elFn; rw [if_neg h]
theorem elFn_same {C I t b : Nat} {u v : Int} {m : List Int} : elFn C I t u v m I b = u * nth m (I * C + b) - v * nth m (t * C + b) := by unfold elFn; rw [if_pos rfl]
theorem elFn_num {R C I t : Nat} {u v : Int} {m : List Int} (hl : m.length = R * C) (hn : allNum m = true) (h : ∀ b, b < C → isNum (u * nth m (I * C + b) - v * nth m (t * C + b)) = true) : allNum (tab R C (elFn C I t u v m)) = true := by
  rw [allNum_iff]
  intro k hk
  rw [tab_length] at hk
  obtain ⟨h1, h2, h3⟩ := idx_split hk
  rw [h3, tab_nth _ h1 h2]
  by_cases e : k / C = I
  · rw [e, elFn_same]; exact h _ h2
  · rw [elFn_other e]; exact (allNum_iff _).1 hn _ (by rw [hl]; exact idx_lt h1 h2)
theorem E3.row {R C t J I : Nat} {L m m' : List Int} (h : E3 R C L t J I m) (hI : I < R) (hIt : I ≠ t) (htR : t < R) (hJ : J < C) (hx : nth m (I * C + J) ≠ 0)
    (p : Prm R C I (tab R C (elFn C I t ((nth m (t * C + J)).tdiv (gcdI (nth m (I * C + J)) (nth m (t * C + J)))) ((nth m (I * C + J)).tdiv (gcdI (nth m (I * C + J)) (nth m (t * C + J)))) m)) m') : E3 R C L t J (I + 1) m' := by
  obtain ⟨q, hq⟩ := h.e.ech
  obtain ⟨g, hg, hr⟩ := p.row
  have hG := gcdI_pos (a := nth m (I * C + J)) h.ne
  have d1 : gcdI (nth m (I * C + J)) (nth m (t * C + J)) ∣ nth m (I * C + J) := Int.gcd_dvd_left _ _
  have d2 : gcdI (nth m (I * C + J)) (nth m (t * C + J)) ∣ nth m (t * C + J) := Int.gcd_dvd_right _ _
  have hne := h.ne
  generalize gcdI (nth m (I * C + J)) (nth m (t * C + J)) = G at *
  obtain ⟨u, hu⟩ : ∃ u, u = (nth m (t * C + J)).tdiv G := ⟨_, rfl⟩
  obtain ⟨v, hv⟩ : ∃ v, v = (nth m (I * C + J)).tdiv G := ⟨_, rfl⟩
  rw [← hu, ← hv] at p hr
  have e1 : nth m (t * C + J) = G * u := by rw [hu, Int.mul_tdiv_cancel' d2]
  have e2 : nth m (I * C + J) = G * v := by rw [hv, Int.mul_tdiv_cancel' d1]
  have hu0 : u ≠ 0 := fun k => by rw [k, Int.mul_zero] at e1; exact hne e1
  have oth : ∀ a b, a < R → a ≠ I → b < C → mt C m' a b = mt C m a b := fun a b ha hne2 hb => by
    show nth m' (a * C + b) = nth m (a * C + b)
    rw [p.oth a b ha hb hne2, tab_nth _ ha hb, elFn_other hne2]
  have row : ∀ b, b < C → g * mt C m' I b = u * mt C m I b + (-v) * mt C m t b := fun b hb => by
    have := hr b hb
    rw [tab_nth _ hI hb, elFn_same] at this
    show g * nth m' (I * C + b) = u * nth m (I * C + b) + (-v) * nth m (t * C + b)
    rw [← this, Int.neg_mul]; omega
  refine ⟨⟨p.len, p.num, q, hq.row (Nat.le_of_lt hJ) htR hI hIt hg hu0 row oth p.prim⟩, ?_, fun i hi hiR hne2 => ?_⟩
  · have : nth m' (t * C + J) = nth m (t * C + J) := oth t J htR (fun k => hIt k.symm) hJ
    rw [this]; exact hne
  · by_cases k : i = I
    · subst k
      have := row J hJ
      have e3 : u * mt C m i J + (-v) * mt C m t J = 0 := by
        show u * nth m (i * C + J) + (-v) * nth m (t * C + J) = 0
        rw [e1, e2, show u * (G * v) = G * u * v by ac_rfl, Int.neg_mul, show v * (G * u) = G * u * v by ac_rfl]; omega
      rw [e3] at this
      rcases Int.mul_eq_zero.1 this with k | k
      · exact absurd k hg
      · exact k
    · have : nth m' (i * C + J) = nth m (i * C + J) := oth i J hiR k hJ
      rw [this]; exact h.z i (by omega) hiR hne2
theorem E3.next {R C t J : Nat} {L m : List Int} (h : E3 R C L t J R m) (ht : t < R) : E2 R C L (t + 1) (J + 1) m := by
  obtain ⟨p, hp⟩ := h.e.ech
  exact ⟨h.e.len, h.e.num, _, hp.next ht h.ne fun i hi hne => h.z i hi hi hne⟩
end Go.Proofs.Ytbfkpfdkndnhkaa
