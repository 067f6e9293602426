/- Contracts: JoinTheta, of the reference and of the program. -/
import Derived.Test.YtfloeilpghjpoaaNumL
import Derived.Test.YtfloeilpghjpoaaApp
import Derived.Test.YtfloeilpghjpoaaReg
import Derived.Deep.LoopGhost
namespace Go.Proofs.Ytfloeilpghjpoaa
open Go.RowKit

/-! ### plain -/
def prodAt (a b : List Int) (k i : Nat) : Int := nth a i * nth b (k - i)
def psum (a b : List Int) (k : Nat) : Nat → Int
  | 0 => 0
  | i + 1 => psum a b k i + prodAt a b k i
def cellOK (a b : List Int) (k i : Nat) : Prop := isNum (nth a i) = true ∧ isNum (nth b (k - i)) = true ∧ isNum (prodAt a b k i) = true ∧ isNum (psum a b k (i + 1)) = true
def rowOK (a b : List Int) (k : Nat) : Prop := ∀ i, i < k + 1 → cellOK a b k i
def jtOK (a b : List Int) : Prop := ∀ k, k < min a.length b.length → rowOK a b k
def jtList (a b : List Int) (n : Nat) : List Int := (List.range n).map fun k => psum a b k (k + 1)
open Classical in
noncomputable def jok (a b : List Int) : Bool := decide (jtOK a b)
noncomputable def jres (a b : List Int) : List Int := if jok a b then jtList a b (min a.length b.length) else []
theorem jtList_succ (a b : List Int) (n : Nat) : jtList a b (n + 1) = jtList a b n ++ [psum a b n (n + 1)] := by simp [jtList, List.range_succ]
theorem jtList_length (a b : List Int) (n : Nat) : (jtList a b n).length = n := by simp [jtList]
theorem jok_yes {a b : List Int} (h : jtOK a b) : jok a b = true := by simp [jok, h]
theorem jok_no {a b : List Int} {k i : Nat} (hk : k < min a.length b.length) (hi : i < k + 1) (h : ¬ cellOK a b k i) : jok a b = false := by
  simp only [jok, decide_eq_false_iff_not]
  exact fun q => h (q k hk i hi)
theorem jres_yes {a b : List Int} (h : jok a b = true) : jres a b = jtList a b (min a.length b.length) := by simp [jres, h]
theorem jres_no {a b : List Int} (h : jok a b = false) : jres a b = [] := by simp [jres, h]

def sacc (a b : List Int) (k : Nat) : Nat → Int
  | 0 => 0
  | i + 1 => addB (sacc a b k i) (mulB (nth a i) (nth b (k - i)))
/-- before round i: as long as all was in order, the reference's sum is the sum; else it is bad -/
theorem sacc_good (a b : List Int) (k : Nat) : ∀ i, (∀ t, t < i → cellOK a b k t) → sacc a b k i = psum a b k i ∧ isNum (psum a b k i) = true
  | 0, _ => ⟨rfl, by simp [psum]; decide⟩
  | i + 1, h => by
    obtain ⟨e, hn⟩ := sacc_good a b k i (fun t ht => h t (by omega))
    obtain ⟨h1, h2, h3, h4⟩ := h i (by omega)
    refine ⟨?_, h4⟩
    simp only [sacc, e]
    have h3' : isNum (nth a i * nth b (k - i)) = true := h3
    have h4' : isNum (psum a b k i + nth a i * nth b (k - i)) = true := h4
    rw [mulB_num h1 h2, fit_yes h3', addB_num hn h3', fit_yes h4']
    rfl
theorem sacc_fits (a b : List Int) (k : Nat) : ∀ i, sacc a b k i = bad ∨ isNum (sacc a b k i) = true
  | 0 => .inr (by simp only [sacc]; decide)
  | i + 1 => by
    have hf : ∀ n, fit n = bad ∨ isNum (fit n) = true := fun n => by
      cases h : isNum n
      · exact .inl (fit_no h)
      · rw [fit_yes h]; exact .inr h
    simp only [sacc, addB]
    split
    · exact .inl rfl
    · exact hf _
theorem mulB_fits (a b : Int) : mulB a b = bad ∨ isNum (mulB a b) = true := by
  have hf : ∀ n, fit n = bad ∨ isNum (fit n) = true := fun n => by
    cases h : isNum n
    · exact .inl (fit_no h)
    · rw [fit_yes h]; exact .inr h
  unfold mulB
  split
  · exact .inl rfl
  · exact hf _
theorem sacc_bad (a b : List Int) (k : Nat) : ∀ i, (∀ t, t < i → isNum (nth a t) = true ∧ isNum (nth b (k - t)) = true) → sacc a b k i ≠ bad → ∀ t, t < i → cellOK a b k t
  | 0, _, _ => fun t ht => by omega
  | i + 1, h, hb => by
    have h0 : sacc a b k i ≠ bad := fun e => hb (by simp [sacc, e, addB_bad_left])
    have ih := sacc_bad a b k i (fun t ht => h t (by omega)) h0
    obtain ⟨e, hn⟩ := sacc_good a b k i ih
    obtain ⟨h1, h2⟩ := h i (by omega)
    have hm : mulB (nth a i) (nth b (k - i)) ≠ bad := fun e => hb (by simp [sacc, e, addB_bad_right])
    rw [mulB_num h1 h2] at hm
    have h3 : isNum (prodAt a b k i) = true := by
      cases h : isNum (prodAt a b k i)
      · exact absurd (fit_no h) hm
      · rfl
    have h4 : isNum (psum a b k (i + 1)) = true := by
      simp only [sacc, e] at hb
      have h3' : isNum (nth a i * nth b (k - i)) = true := h3
      rw [mulB_num h1 h2, fit_yes h3', addB_num hn h3'] at hb
      cases h : isNum (psum a b k (i + 1))
      · exact absurd (fit_no h) hb
      · rfl
    intro t ht
    by_cases e : t = i
    · subst e; exact ⟨h1, h2, h3, h4⟩
    · exact ih t (by omega)

theorem jok_bad {a b : List Int} {k : Nat} (hk : k < min a.length b.length) (h : sacc a b k (k + 1) = bad) : jok a b = false := by
  simp only [jok, decide_eq_false_iff_not]
  intro q
  have hr := q k hk
  obtain ⟨e, hn⟩ := sacc_good a b k (k + 1) hr
  rw [h] at e
  exact num_ne_bad hn e.symm

theorem jres_length (a b : List Int) (h : a.length ≤ 1048576) : (jres a b).length ≤ 1048576 := by
  unfold jres
  split
  · rw [jtList_length]; omega
  · simp

/-! ### the reference's walk -/
set_option maxHeartbeats 2000000 in
theorem sJT_c (A B : Option Addr) (a b : List Int) (c d : Nat) (w : World) (ha : Rd w A a) (hb : Rd w B b) (la : a.length ≤ 1048576) (lb : b.length ≤ 1048576) :
    Calls Try.prog 24 #[.slice A a.length c, .slice B b.length d] w fun e w' => ∃ v, e = .returned (.tuple #[v, .bool (jok a b)]) ∧ Own w' w.heap.size v (jres a b) ∧ Grows w w' := by
  have HN := Lib.hid fun w x => sIsNumber_c x w
  go_enter Try.func24, Try.ntmps24
  go_wp2_with fail
  go_loopw [6, 7] (fun v k wr => ∃ (n : Nat), k = .int .i64 n ∧ n ≤ a.length ∧ n ≤ b.length ∧ Own wr w.heap.size v (jtList a b n) ∧ Grows w wr ∧ ∀ k', k' < n → rowOK a b k') (fun _ k _ => a.length - (intOf k).toNat)
  case atStart => exact ⟨0, rfl, Nat.zero_le _, Nat.zero_le _, Own.mk_empty _ _ (Nat.le_refl _), by ((repeat' (first | with_reducible exact Below.refl _ _ | with_reducible assumption | (with_reducible refine Below.setCell ?_ ?_ _) | (with_reducible refine Below.alloc ?_ ?_ _) | (with_reducible refine Below.drew ?_) | (with_reducible refine below_drewN ?_ _))); all_goals (first | omega | (simp; done) | (simp; omega) | (simp [*]; done) | (simp at *; omega))), fun k' h => by omega⟩
  case round =>
    obtain ⟨n, rfl, hn1, hn2, hown, hgr, hrow⟩ := hrel
    have HR := Lib.hid hrow
    clear hrow
    by_cases hlt : n < min a.length b.length
    · have hlt1 : n < a.length := by omega
      have hlt2 : n < b.length := by omega
      rcases Nat.lt_or_ge b.length a.length with hba | hba
      all_goals
        go_wp2_with fail
        obtain ⟨wo, rfl⟩ : ∃ wo : World, wo = wr := ⟨_, rfl⟩
        go_loopw [8, 9] (fun s i w2 => ∃ (t : Nat), i = .int .i64 t ∧ t ≤ n + 1 ∧ s = .int .i64 (sacc a b n t) ∧ (∀ u, u < t → isNum (nth a u) = true ∧ isNum (nth b (n - u)) = true) ∧ ∃ q, w2 = wo.drewN q) (fun _ i _ => n + 1 - (intOf i).toNat)
        case atStart => exact ⟨0, rfl, Nat.zero_le _, rfl, fun u h => by omega, 0, rfl⟩
        case round =>
          obtain ⟨t, rfl, ht, rfl, hnum, q, rfl⟩ := hrel
          have HU := Lib.hid hnum
          clear hnum
          by_cases hlt3 : t ≤ n
          · obtain ⟨b1, o1, rfl, hbs1, hc1⟩ := (ha.grows hgr).at_ t (by omega)
            obtain ⟨b2, o2, rfl, hbs2, hc2⟩ := (hb.grows hgr).at_ (n - t) (by omega)
            cases h1 : isNum (nth a t)
            · have H1 := Lib.hid fun w => HN.out w (nth a t)
              have hno := Lib.hid (jok_no (a := a) (b := b) (k := n) (i := t) hlt (by omega) (fun q => by rw [q.1] at h1; cases h1))
              rw [h1] at H1
              clear h1
              go_wp2_with (go_at_call 55; refine (H1.out _).mono ?_; rintro e w' ⟨rfl, rfl⟩)
              go_ret2
              refine ⟨_, by rw [hno.out]; rfl, ?_, ?_⟩
              · rw [jres_no hno.out]; exact Own.mk_empty _ _ (by simpa using hgr.size)
              · (have bz0 := Below.size (hgr); (try simp at bz0); (repeat' (first | with_reducible exact Below.refl _ _ | with_reducible assumption | (with_reducible refine Below.setCell ?_ ?_ _) | (with_reducible refine Below.alloc ?_ ?_ _) | (with_reducible refine Below.drew ?_) | (with_reducible refine below_drewN ?_ _) | (with_reducible refine Below.trans ?_ (Below.mono (hgr) ?_)))); all_goals (first | omega | (simp; done) | (simp; omega) | (simp [*]; done) | (simp at *; omega)))
            · cases h2 : isNum (nth b (n - t))
              · have H1 := Lib.hid fun w => HN.out w (nth a t)
                have H2 := Lib.hid fun w => HN.out w (nth b (n - t))
                have hno := Lib.hid (jok_no (a := a) (b := b) (k := n) (i := t) hlt (by omega) (fun q => by rw [q.2.1] at h2; cases h2))
                rw [h1] at H1
                rw [h2] at H2
                clear h1 h2
                go_wp2_with fail
                refine (H1.out _).mono ?_; rintro e w' ⟨rfl, rfl⟩
                go_wp2_with fail
                refine (H2.out _).mono ?_; rintro e w' ⟨rfl, rfl⟩
                go_wp2_with fail
                go_ret2
                refine ⟨_, by rw [hno.out]; rfl, ?_, ?_⟩
                · rw [jres_no hno.out]; exact Own.mk_empty _ _ (by simpa using hgr.size)
                · (have bz0 := Below.size (hgr); (try simp at bz0); (repeat' (first | with_reducible exact Below.refl _ _ | with_reducible assumption | (with_reducible refine Below.setCell ?_ ?_ _) | (with_reducible refine Below.alloc ?_ ?_ _) | (with_reducible refine Below.drew ?_) | (with_reducible refine below_drewN ?_ _) | (with_reducible refine Below.trans ?_ (Below.mono (hgr) ?_)))); all_goals (first | omega | (simp; done) | (simp; omega) | (simp [*]; done) | (simp at *; omega)))
              · have H1 := Lib.hid fun w => HN.out w (nth a t)
                have H2 := Lib.hid fun w => HN.out w (nth b (n - t))
                have K1 := Lib.hid h1
                have K2 := Lib.hid h2
                have KF := Lib.hid (sacc_fits a b n t)
                rw [h1] at H1
                rw [h2] at H2
                clear h1 h2
                go_wp2_with fail
                refine (H1.out _).mono ?_; rintro e w' ⟨rfl, rfl⟩
                go_wp2_with fail
                refine (H2.out _).mono ?_; rintro e w' ⟨rfl, rfl⟩
                go_wp2_with fail
                have i1 : (t : Int) < (a.length : Int) := by omega
                have i2 : (n : Int) - (t : Int) < (b.length : Int) := by omega
                have i3 : (0 : Int) ≤ (n : Int) - (t : Int) := by omega
                have i4 : (t : Int) ≤ (n : Int) := by omega
                have i5 : ((n : Int) - (t : Int)).toNat = n - t := by omega
                go_quiet (first | (go_at_call 57; exact quietA (l1Mul_c _ _ _ (.inr K1.out) (.inr K2.out))) | (go_at_call 56; exact quietA (l1Add_c _ _ _ KF.out (mulB_fits _ _))))
                go_wp2_with fail
                go_round
                case rel => exact ⟨t + 1, by go_num, by omega, rfl, fun u hu => by (by_cases e : u = t); (· subst e; exact ⟨K1.out, K2.out⟩); (· exact HU.out u (by omega)), _, rfl⟩
                case measure => simp [intOf]; omega
          · obtain rfl : t = n + 1 := by omega
            rcases sacc_fits a b n (n + 1) with hs | hs
            · have hno := Lib.hid (jok_bad hlt hs)
              have hs2 : (sacc a b n (n + 1) == -4611686018427387904) = true := by rw [hs]; rfl
              clear hs
              go_wp2_with fail
              go_ret2
              refine ⟨_, by rw [hno.out]; rfl, ?_, ?_⟩
              · rw [jres_no hno.out]; exact Own.mk_empty _ _ (by simpa using hgr.size)
              · (have bz0 := Below.size (hgr); (try simp at bz0); (repeat' (first | with_reducible exact Below.refl _ _ | with_reducible assumption | (with_reducible refine Below.setCell ?_ ?_ _) | (with_reducible refine Below.alloc ?_ ?_ _) | (with_reducible refine Below.drew ?_) | (with_reducible refine below_drewN ?_ _) | (with_reducible refine Below.trans ?_ (Below.mono (hgr) ?_)))); all_goals (first | omega | (simp; done) | (simp; omega) | (simp [*]; done) | (simp at *; omega)))
            · have hs2 : (sacc a b n (n + 1) == -4611686018427387904) = false := by rw [beq_eq_false_iff_ne]; exact num_ne_bad hs
              have hok := sacc_bad a b n (n + 1) HU.out (num_ne_bad hs)
              have hval := (sacc_good a b n (n + 1) hok).1
              have HV := Lib.hid hval
              have HO := Lib.hid hok
              clear hs hok hval
              go_wp2_with (at_builtin; refine wpList_app1 rfl (.tmp 58) (.tmp 60) rfl _ (sacc a b n (n + 1)) w.heap.size _ _ rfl hown.drewN_ rfl (by rw [jtList_length]; omega) (by simpa using hgr.size) ?_; intro v2 w2 hown2 hgb _)
              go_round
              case rel =>
                refine ⟨n + 1, by go_num, by omega, by omega, by rw [jtList_succ, ← HV.out]; exact hown2, Below.trans (below_drewN hgr _) (below_app hown.drewN_ (by simpa using hgr.size) hgb), fun k' hk' => ?_⟩
                by_cases e : k' = n
                · subst e; exact HO.out
                · exact HR.out k' (by omega)
              case measure => simp [intOf]; omega
    · have hmin : min a.length b.length = n := by omega
      have hok := jok_yes (a := a) (b := b) (fun k hk => HR.out k (by omega))
      have HK := Lib.hid hok
      have HM := Lib.hid hmin
      clear hok hmin
      have hx : (n = b.length ∧ b.length < a.length) ∨ (n = a.length ∧ a.length ≤ b.length) := by omega
      rcases hx with ⟨rfl, hba⟩ | ⟨rfl, hba⟩
      all_goals
        go_wp2_with fail
        go_ret2
        refine ⟨_, by rw [HK.out]; rfl, ?_, hgr⟩
        rw [jres_yes HK.out, HM.out]
        exact hown


theorem allNum_take {l : List Int} {n : Nat} (h : allNum (l.take n) = true) (hn : n ≤ l.length) : ∀ i, i < n → isNum (nth l i) = true := by
  intro i hi
  have := (allNum_iff _).1 h i (by simp; omega)
  unfold nth at this ⊢
  simp only [List.getD_eq_getElem?_getD, List.getElem?_take, if_pos hi] at this ⊢
  exact this
theorem allNum_take_no {l : List Int} {n : Nat} (h : allNum (l.take n) = false) (hn : n ≤ l.length) : ∃ i, i < n ∧ isNum (nth l i) = false := by
  refine Classical.byContradiction fun q => ?_
  have : allNum (l.take n) = true := (allNum_iff _).2 fun i hi => by
    have hi' : i < n := by simp at hi; omega
    have e : nth (l.take n) i = nth l i := by
      unfold nth
      simp only [List.getD_eq_getElem?_getD, List.getElem?_take, if_pos hi']
    rw [e]
    cases h2 : isNum (nth l i)
    · exact absurd ⟨i, hi', h2⟩ q
    · rfl
  rw [h] at this; cases this
theorem Rd.take {w : World} {A : Option Addr} {l : List Int} (h : Rd w A l) (n : Nat) : Rd w A (l.take n) := by
  intro i hi
  have hi' : i < n ∧ i < l.length := by simp at hi; omega
  obtain ⟨b, off, e, hb, hc⟩ := h i hi'.2
  refine ⟨b, off, e, hb, ?_⟩
  rw [hc]
  unfold nth
  simp only [List.getD_eq_getElem?_getD, List.getElem?_take, if_pos hi'.1]

set_option maxHeartbeats 2000000 in
theorem iJT_c (A B : Option Addr) (a b : List Int) (c d : Nat) (w : World) (ha : Rd w A a) (hb : Rd w B b) (la : a.length ≤ 1048576) (lb : b.length ≤ 1048576) (lc : a.length ≤ c) (ld : b.length ≤ d) :
    Calls Try.prog 26 #[.slice A a.length c, .slice B b.length d] w fun e w' => ∃ v, e = .returned (.tuple #[v, .bool (jok a b)]) ∧ Own w' w.heap.size v (jres a b) ∧ Grows w w' := by
  have HN := Lib.hid fun w x => iIsNumber_c x w
  obtain ⟨n, hn, hba⟩ : ∃ n, n = min a.length b.length ∧ ((n = b.length ∧ b.length < a.length) ∨ (n = a.length ∧ a.length ≤ b.length)) := ⟨_, rfl, by omega⟩
  have na : n ≤ a.length := by omega
  have nb : n ≤ b.length := by omega
  have Hn := Lib.hid hn
  clear hn
  have Ca := fun w h => areNumbers_c A (a.take n) n c w (by simp; omega) h (by omega)
  have Cb := fun w h => areNumbers_c B (b.take n) n d w (by simp; omega) h (by omega)
  cases h1 : allNum (a.take n)
  · have hno : jok a b = false := by
      obtain ⟨i, hi, hf⟩ := allNum_take_no h1 na
      exact jok_no (k := i) (i := i) (by have := Hn.out; omega) (by omega) (fun q => by rw [q.1] at hf; cases hf)
    have HF := Lib.hid hno
    rw [h1] at Ca
    have H1 := Lib.hid Ca
    clear Ca Cb hno h1
    rcases hba with ⟨rfl, hba⟩ | ⟨rfl, hba⟩
    all_goals
      go_enter Try.func26, Try.ntmps26
      go_wp2_with fail
      refine (H1.out _ (ha.take _)).mono ?_; rintro e w' ⟨rfl, rfl⟩
      go_wp2_with fail
      go_ret2
      refine ⟨_, by rw [HF.out]; rfl, ?_, by ((repeat' (first | with_reducible exact Below.refl _ _ | with_reducible assumption | (with_reducible refine Below.setCell ?_ ?_ _) | (with_reducible refine Below.alloc ?_ ?_ _) | (with_reducible refine Below.drew ?_) | (with_reducible refine below_drewN ?_ _))); all_goals (first | omega | (simp; done) | (simp; omega) | (simp [*]; done) | (simp at *; omega)))⟩
      rw [jres_no HF.out]
      exact Own.mk_empty _ _ (Nat.le_refl _)
  · cases h2 : allNum (b.take n)
    · have hno : jok a b = false := by
        obtain ⟨i, hi, hf⟩ := allNum_take_no h2 nb
        exact jok_no (k := i) (i := 0) (by have := Hn.out; omega) (by omega) (fun q => by have := q.2.1; rw [Nat.sub_zero, hf] at this; cases this)
      have HF := Lib.hid hno
      rw [h1] at Ca
      rw [h2] at Cb
      have H1 := Lib.hid Ca
      have H2 := Lib.hid Cb
      clear Ca Cb hno h1 h2
      rcases hba with ⟨rfl, hba⟩ | ⟨rfl, hba⟩
      all_goals
        go_enter Try.func26, Try.ntmps26
        go_wp2_with fail
        refine (H1.out _ (ha.take _)).mono ?_; rintro e w' ⟨rfl, rfl⟩
        go_wp2_with fail
        refine (H2.out _ (hb.take _)).mono ?_; rintro e w' ⟨rfl, rfl⟩
        go_wp2_with fail
        go_ret2
        refine ⟨_, by rw [HF.out]; rfl, ?_, by ((repeat' (first | with_reducible exact Below.refl _ _ | with_reducible assumption | (with_reducible refine Below.setCell ?_ ?_ _) | (with_reducible refine Below.alloc ?_ ?_ _) | (with_reducible refine Below.drew ?_) | (with_reducible refine below_drewN ?_ _))); all_goals (first | omega | (simp; done) | (simp; omega) | (simp [*]; done) | (simp at *; omega)))⟩
        rw [jres_no HF.out]
        exact Own.mk_empty _ _ (Nat.le_refl _)
    · have NA := Lib.hid (allNum_take h1 na)
      have NB := Lib.hid (allNum_take h2 nb)
      rw [h1] at Ca
      rw [h2] at Cb
      have H1 := Lib.hid Ca
      have H2 := Lib.hid Cb
      clear Ca Cb h1 h2
      rcases hba with ⟨rfl, hba⟩ | ⟨rfl, hba⟩
      · go_enter Try.func26, Try.ntmps26
        go_wp2_with fail
        refine (H1.out _ (ha.take _)).mono ?_; rintro e w' ⟨rfl, rfl⟩
        go_wp2_with fail
        refine (H2.out _ (hb.take _)).mono ?_; rintro e w' ⟨rfl, rfl⟩
        go_wp2_with fail
        go_loopw [7, 8] (fun v k wr => ∃ (n : Nat), k = .int .i64 n ∧ n ≤ b.length ∧ Own wr w.heap.size v (jtList a b n) ∧ Grows w wr ∧ ∀ k', k' < n → rowOK a b k') (fun _ k _ => b.length - (intOf k).toNat)
        case atStart => exact ⟨0, rfl, Nat.zero_le _, Own.mk_empty _ _ (Nat.le_refl _), by ((repeat' (first | with_reducible exact Below.refl _ _ | with_reducible assumption | (with_reducible refine Below.setCell ?_ ?_ _) | (with_reducible refine Below.alloc ?_ ?_ _) | (with_reducible refine Below.drew ?_) | (with_reducible refine below_drewN ?_ _))); all_goals (first | omega | (simp; done) | (simp; omega) | (simp [*]; done) | (simp at *; omega))), fun k' h => by omega⟩
        case round =>
          obtain ⟨n, rfl, hn1, hown, hgr, hrow⟩ := hrel
          have HR := Lib.hid hrow
          clear hrow
          by_cases hlt : n < b.length
          · go_wp2_with fail
            obtain ⟨wo, rfl⟩ : ∃ wo : World, wo = wr := ⟨_, rfl⟩
            go_loopw [9, 10] (fun s i w2 => ∃ (t : Nat), i = .int .i64 t ∧ t ≤ n + 1 ∧ s = .int .i64 (psum a b n t) ∧ isNum (psum a b n t) = true ∧ (∀ u, u < t → cellOK a b n u) ∧ ∃ q, w2 = wo.drewN q) (fun _ i _ => n + 1 - (intOf i).toNat)
            case atStart => exact ⟨0, rfl, Nat.zero_le _, rfl, by simp only [psum]; decide, fun u h => by omega, 0, rfl⟩
            case round =>
              obtain ⟨t, rfl, ht, rfl, hps, hcells, q, rfl⟩ := hrel
              have HU := Lib.hid hcells
              have HP := Lib.hid hps
              have hpb := (isNum_iff _).1 hps
              clear hcells hps
              by_cases hlt3 : t ≤ n
              · obtain ⟨b1, o1, rfl, hbs1, hc1⟩ := (ha.grows hgr).at_ t (by omega)
                obtain ⟨b2, o2, rfl, hbs2, hc2⟩ := (hb.grows hgr).at_ (n - t) (by omega)
                have x1 := NA.out t (by omega)
                have x2 := NB.out (n - t) (by omega)
                have hpr := mul_bd x1 x2
                have X1 := Lib.hid x1
                have X2 := Lib.hid x2
                clear x1 x2
                have i1 : (t : Int) < (a.length : Int) := by omega
                have i2 : (n : Int) - (t : Int) < (b.length : Int) := by omega
                have i3 : (0 : Int) ≤ (n : Int) - (t : Int) := by omega
                have i4 : (t : Int) ≤ (n : Int) := by omega
                have i5 : ((n : Int) - (t : Int)).toNat = n - t := by omega
                have i6 : IntKind.i64.wrap (nth a t * nth b (n - t)) = nth a t * nth b (n - t) := IntWalk.i64_in _ (by omega)
                have H3 := Lib.hid fun w => HN.out w (nth a t * nth b (n - t))
                have H4 := Lib.hid fun w => HN.out w (psum a b n t + nth a t * nth b (n - t))
                cases h3 : isNum (nth a t * nth b (n - t))
                · have hno := Lib.hid (jok_no (a := a) (b := b) (k := n) (i := t) (by have := Hn.out; omega) (by omega) (fun q => by have := q.2.2.1; rw [show isNum (prodAt a b n t) = false from h3] at this; cases this))
                  rw [h3] at H3
                  have H3' := Lib.hid H3.out
                  clear h3 H3
                  go_wp2_with fail
                  go_quiet (fail)
                  clear i6
                  go_wp2_with fail
                  refine (H3'.out _).mono ?_; rintro e w' ⟨rfl, rfl⟩
                  go_wp2_with fail
                  go_ret2
                  refine ⟨_, by rw [hno.out]; rfl, ?_, ?_⟩
                  · rw [jres_no hno.out]; exact Own.mk_empty _ _ (by simpa using hgr.size)
                  · (have bz0 := Below.size (hgr); (try simp at bz0); (repeat' (first | with_reducible exact Below.refl _ _ | with_reducible assumption | (with_reducible refine Below.setCell ?_ ?_ _) | (with_reducible refine Below.alloc ?_ ?_ _) | (with_reducible refine Below.drew ?_) | (with_reducible refine below_drewN ?_ _) | (with_reducible refine Below.trans ?_ (Below.mono (hgr) ?_)))); all_goals (first | omega | (simp; done) | (simp; omega) | (simp [*]; done) | (simp at *; omega)))
                · cases h4 : isNum (psum a b n t + nth a t * nth b (n - t))
                  · have hno := Lib.hid (jok_no (a := a) (b := b) (k := n) (i := t) (by have := Hn.out; omega) (by omega) (fun q => by have := q.2.2.2; rw [show isNum (psum a b n (t + 1)) = false from h4] at this; cases this))
                    rw [h3] at H3
                    rw [h4] at H4
                    have H3' := Lib.hid H3.out
                    have H4' := Lib.hid H4.out
                    clear h3 H3 h4 H4
                    go_wp2_with fail
                    go_quiet (fail)
                    clear i6
                    go_wp2_with fail
                    refine (H3'.out _).mono ?_; rintro e w' ⟨rfl, rfl⟩
                    go_wp2_with fail
                    refine (H4'.out _).mono ?_; rintro e w' ⟨rfl, rfl⟩
                    go_wp2_with fail
                    go_ret2
                    refine ⟨_, by rw [hno.out]; rfl, ?_, ?_⟩
                    · rw [jres_no hno.out]; exact Own.mk_empty _ _ (by simpa using hgr.size)
                    · (have bz0 := Below.size (hgr); (try simp at bz0); (repeat' (first | with_reducible exact Below.refl _ _ | with_reducible assumption | (with_reducible refine Below.setCell ?_ ?_ _) | (with_reducible refine Below.alloc ?_ ?_ _) | (with_reducible refine Below.drew ?_) | (with_reducible refine below_drewN ?_ _) | (with_reducible refine Below.trans ?_ (Below.mono (hgr) ?_)))); all_goals (first | omega | (simp; done) | (simp; omega) | (simp [*]; done) | (simp at *; omega)))
                  · have hco := Lib.hid (show cellOK a b n t from ⟨X1.out, X2.out, h3, h4⟩)
                    rw [h3] at H3
                    rw [h4] at H4
                    have H3' := Lib.hid H3.out
                    have H4' := Lib.hid H4.out
                    clear h3 H3 h4 H4
                    go_wp2_with fail
                    go_quiet (fail)
                    clear i6
                    go_wp2_with fail
                    refine (H3'.out _).mono ?_; rintro e w' ⟨rfl, rfl⟩
                    go_wp2_with fail
                    refine (H4'.out _).mono ?_; rintro e w' ⟨rfl, rfl⟩
                    go_wp2_with fail
                    go_round
                    case rel => exact ⟨t + 1, by go_num, by omega, rfl, hco.out.2.2.2, fun u hu => by (by_cases e : u = t); (· subst e; exact hco.out); (· exact HU.out u (by omega)), _, rfl⟩
                    case measure => simp [intOf]; omega
              · obtain rfl : t = n + 1 := by omega
                go_wp2_with (at_builtin; refine wpList_app1 rfl (.tmp 64) (.tmp 66) rfl _ (psum a b n (n + 1)) w.heap.size _ _ rfl hown.drewN_ rfl (by rw [jtList_length]; omega) (by simpa using hgr.size) ?_; intro v2 w2 hown2 hgb _)
                go_round
                case rel =>
                  refine ⟨n + 1, by go_num, by omega, by rw [jtList_succ]; exact hown2, Below.trans (below_drewN hgr _) (below_app hown.drewN_ (by simpa using hgr.size) hgb), fun k' hk' => ?_⟩
                  by_cases e : k' = n
                  · subst e; exact HU.out
                  · exact HR.out k' (by omega)
                case measure => simp [intOf]; omega
          · obtain rfl : n = b.length := by omega
            have hmin : min a.length b.length = b.length := by omega
            have HK := Lib.hid (jok_yes (a := a) (b := b) (fun k hk => HR.out k (by omega)))
            have HM := Lib.hid hmin
            clear hmin
            go_wp2_with fail
            go_ret2
            refine ⟨_, by rw [HK.out]; rfl, ?_, hgr⟩
            rw [jres_yes HK.out, HM.out]
            exact hown
      · go_enter Try.func26, Try.ntmps26
        go_wp2_with fail
        refine (H1.out _ (ha.take _)).mono ?_; rintro e w' ⟨rfl, rfl⟩
        go_wp2_with fail
        refine (H2.out _ (hb.take _)).mono ?_; rintro e w' ⟨rfl, rfl⟩
        go_wp2_with fail
        go_loopw [7, 8] (fun v k wr => ∃ (n : Nat), k = .int .i64 n ∧ n ≤ a.length ∧ Own wr w.heap.size v (jtList a b n) ∧ Grows w wr ∧ ∀ k', k' < n → rowOK a b k') (fun _ k _ => a.length - (intOf k).toNat)
        case atStart => exact ⟨0, rfl, Nat.zero_le _, Own.mk_empty _ _ (Nat.le_refl _), by ((repeat' (first | with_reducible exact Below.refl _ _ | with_reducible assumption | (with_reducible refine Below.setCell ?_ ?_ _) | (with_reducible refine Below.alloc ?_ ?_ _) | (with_reducible refine Below.drew ?_) | (with_reducible refine below_drewN ?_ _))); all_goals (first | omega | (simp; done) | (simp; omega) | (simp [*]; done) | (simp at *; omega))), fun k' h => by omega⟩
        case round =>
          obtain ⟨n, rfl, hn1, hown, hgr, hrow⟩ := hrel
          have HR := Lib.hid hrow
          clear hrow
          by_cases hlt : n < a.length
          · go_wp2_with fail
            obtain ⟨wo, rfl⟩ : ∃ wo : World, wo = wr := ⟨_, rfl⟩
            go_loopw [9, 10] (fun s i w2 => ∃ (t : Nat), i = .int .i64 t ∧ t ≤ n + 1 ∧ s = .int .i64 (psum a b n t) ∧ isNum (psum a b n t) = true ∧ (∀ u, u < t → cellOK a b n u) ∧ ∃ q, w2 = wo.drewN q) (fun _ i _ => n + 1 - (intOf i).toNat)
            case atStart => exact ⟨0, rfl, Nat.zero_le _, rfl, by simp only [psum]; decide, fun u h => by omega, 0, rfl⟩
            case round =>
              obtain ⟨t, rfl, ht, rfl, hps, hcells, q, rfl⟩ := hrel
              have HU := Lib.hid hcells
              have HP := Lib.hid hps
              have hpb := (isNum_iff _).1 hps
              clear hcells hps
              by_cases hlt3 : t ≤ n
              · obtain ⟨b1, o1, rfl, hbs1, hc1⟩ := (ha.grows hgr).at_ t (by omega)
                obtain ⟨b2, o2, rfl, hbs2, hc2⟩ := (hb.grows hgr).at_ (n - t) (by omega)
                have x1 := NA.out t (by omega)
                have x2 := NB.out (n - t) (by omega)
                have hpr := mul_bd x1 x2
                have X1 := Lib.hid x1
                have X2 := Lib.hid x2
                clear x1 x2
                have i1 : (t : Int) < (a.length : Int) := by omega
                have i2 : (n : Int) - (t : Int) < (b.length : Int) := by omega
                have i3 : (0 : Int) ≤ (n : Int) - (t : Int) := by omega
                have i4 : (t : Int) ≤ (n : Int) := by omega
                have i5 : ((n : Int) - (t : Int)).toNat = n - t := by omega
                have i6 : IntKind.i64.wrap (nth a t * nth b (n - t)) = nth a t * nth b (n - t) := IntWalk.i64_in _ (by omega)
                have H3 := Lib.hid fun w => HN.out w (nth a t * nth b (n - t))
                have H4 := Lib.hid fun w => HN.out w (psum a b n t + nth a t * nth b (n - t))
                cases h3 : isNum (nth a t * nth b (n - t))
                · have hno := Lib.hid (jok_no (a := a) (b := b) (k := n) (i := t) (by have := Hn.out; omega) (by omega) (fun q => by have := q.2.2.1; rw [show isNum (prodAt a b n t) = false from h3] at this; cases this))
                  rw [h3] at H3
                  have H3' := Lib.hid H3.out
                  clear h3 H3
                  go_wp2_with fail
                  go_quiet (fail)
                  clear i6
                  go_wp2_with fail
                  refine (H3'.out _).mono ?_; rintro e w' ⟨rfl, rfl⟩
                  go_wp2_with fail
                  go_ret2
                  refine ⟨_, by rw [hno.out]; rfl, ?_, ?_⟩
                  · rw [jres_no hno.out]; exact Own.mk_empty _ _ (by simpa using hgr.size)
                  · (have bz0 := Below.size (hgr); (try simp at bz0); (repeat' (first | with_reducible exact Below.refl _ _ | with_reducible assumption | (with_reducible refine Below.setCell ?_ ?_ _) | (with_reducible refine Below.alloc ?_ ?_ _) | (with_reducible refine Below.drew ?_) | (with_reducible refine below_drewN ?_ _) | (with_reducible refine Below.trans ?_ (Below.mono (hgr) ?_)))); all_goals (first | omega | (simp; done) | (simp; omega) | (simp [*]; done) | (simp at *; omega)))
                · cases h4 : isNum (psum a b n t + nth a t * nth b (n - t))
                  · have hno := Lib.hid (jok_no (a := a) (b := b) (k := n) (i := t) (by have := Hn.out; omega) (by omega) (fun q => by have := q.2.2.2; rw [show isNum (psum a b n (t + 1)) = false from h4] at this; cases this))
                    rw [h3] at H3
                    rw [h4] at H4
                    have H3' := Lib.hid H3.out
                    have H4' := Lib.hid H4.out
                    clear h3 H3 h4 H4
                    go_wp2_with fail
                    go_quiet (fail)
                    clear i6
                    go_wp2_with fail
                    refine (H3'.out _).mono ?_; rintro e w' ⟨rfl, rfl⟩
                    go_wp2_with fail
                    refine (H4'.out _).mono ?_; rintro e w' ⟨rfl, rfl⟩
                    go_wp2_with fail
                    go_ret2
                    refine ⟨_, by rw [hno.out]; rfl, ?_, ?_⟩
                    · rw [jres_no hno.out]; exact Own.mk_empty _ _ (by simpa using hgr.size)
                    · (have bz0 := Below.size (hgr); (try simp at bz0); (repeat' (first | with_reducible exact Below.refl _ _ | with_reducible assumption | (with_reducible refine Below.setCell ?_ ?_ _) | (with_reducible refine Below.alloc ?_ ?_ _) | (with_reducible refine Below.drew ?_) | (with_reducible refine below_drewN ?_ _) | (with_reducible refine Below.trans ?_ (Below.mono (hgr) ?_)))); all_goals (first | omega | (simp; done) | (simp; omega) | (simp [*]; done) | (simp at *; omega)))
                  · have hco := Lib.hid (show cellOK a b n t from ⟨X1.out, X2.out, h3, h4⟩)
                    rw [h3] at H3
                    rw [h4] at H4
                    have H3' := Lib.hid H3.out
                    have H4' := Lib.hid H4.out
                    clear h3 H3 h4 H4
                    go_wp2_with fail
                    go_quiet (fail)
                    clear i6
                    go_wp2_with fail
                    refine (H3'.out _).mono ?_; rintro e w' ⟨rfl, rfl⟩
                    go_wp2_with fail
                    refine (H4'.out _).mono ?_; rintro e w' ⟨rfl, rfl⟩
                    go_wp2_with fail
                    go_round
                    case rel => exact ⟨t + 1, by go_num, by omega, rfl, hco.out.2.2.2, fun u hu => by (by_cases e : u = t); (· subst e; exact hco.out); (· exact HU.out u (by omega)), _, rfl⟩
                    case measure => simp [intOf]; omega
              · obtain rfl : t = n + 1 := by omega
                go_wp2_with (at_builtin; refine wpList_app1 rfl (.tmp 64) (.tmp 66) rfl _ (psum a b n (n + 1)) w.heap.size _ _ rfl hown.drewN_ rfl (by rw [jtList_length]; omega) (by simpa using hgr.size) ?_; intro v2 w2 hown2 hgb _)
                go_round
                case rel =>
                  refine ⟨n + 1, by go_num, by omega, by rw [jtList_succ]; exact hown2, Below.trans (below_drewN hgr _) (below_app hown.drewN_ (by simpa using hgr.size) hgb), fun k' hk' => ?_⟩
                  by_cases e : k' = n
                  · subst e; exact HU.out
                  · exact HR.out k' (by omega)
                case measure => simp [intOf]; omega
          · obtain rfl : n = a.length := by omega
            have hmin : min a.length b.length = a.length := by omega
            have HK := Lib.hid (jok_yes (a := a) (b := b) (fun k hk => HR.out k (by omega)))
            have HM := Lib.hid hmin
            clear hmin
            go_wp2_with fail
            go_ret2
            refine ⟨_, by rw [HK.out]; rfl, ?_, hgr⟩
            rw [jres_yes HK.out, HM.out]
            exact hown
end Go.Proofs.Ytfloeilpghjpoaa
