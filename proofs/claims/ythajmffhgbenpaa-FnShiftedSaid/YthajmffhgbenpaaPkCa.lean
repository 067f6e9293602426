/- Contracts and lemmas, put together. -/
import Derived.BigQuiet
import Derived.Deep.QuietTactic
import Derived.Test.YthajmffhgbenpaaPkA
import Derived.Test.YthajmffhgbenpaaPkB
import Derived.Test.YthajmffhgbenpaaPkC
import Derived.Test.YthajmffhgbenpaaPkD
/- Contracts: DistanceOf. -/
namespace Go.Proofs.Ythajmffhgbenpaa
set_option linter.unusedSimpArgs false
set_option linter.unusedVariables false
open Go.RowKit

section
set_option maxHeartbeats 1000000
/-- the squared distance, summed up with the marker -/
def dB (p t : List Int) : Nat → Int
  | 0 => 0
  | k + 1 => addB (dB p t k) (mulB (fit (nth p k - nth t k)) (fit (nth p k - nth t k)))
theorem dB_stuck {p t : List Int} {k : Nat} (h : dB p t k = bad) (m : Nat) : dB p t (k + m) = bad := by
  induction m with
  | zero => exact h
  | succ m ih => rw [← Nat.add_assoc, dB, ih, addB_bad_left]
theorem dB_stuck' {p t : List Int} {k n : Nat} (h : dB p t k = bad) (hn : k ≤ n) : dB p t n = bad := by
  have := dB_stuck h (n - k)
  rwa [Nat.add_sub_cancel' hn] at this
theorem fit_or (n : Int) : fit n = bad ∨ isNum (fit n) = true := by
  cases h : isNum n
  · exact .inl (fit_no h)
  · right; rw [fit_yes h]; exact h
theorem addB_or (a b : Int) : addB a b = bad ∨ isNum (addB a b) = true := by
  unfold addB
  split
  · exact .inl rfl
  · exact fit_or _
theorem mulB_or (a b : Int) : mulB a b = bad ∨ isNum (mulB a b) = true := by
  unfold mulB
  split
  · exact .inl rfl
  · exact fit_or _
theorem dB_or (p t : List Int) (k : Nat) : dB p t k = bad ∨ isNum (dB p t k) = true := by
  cases k with
  | zero => right; rfl
  | succ k => exact addB_or _ _
/-- a step -/
theorem dB_no1 {p t : List Int} {k : Nat} (h : isNum (nth p k - nth t k) = false) : dB p t (k + 1) = bad := by
  rw [dB, fit_no h, mulB_bad_left, addB_bad_right]
theorem dB_no2 {p t : List Int} {k : Nat} (h : isNum (nth p k - nth t k) = true) (h2 : isNum ((nth p k - nth t k) * (nth p k - nth t k)) = false) : dB p t (k + 1) = bad := by
  rw [dB, fit_yes h, mulB_num h h, fit_no h2, addB_bad_right]
theorem dB_step {p t : List Int} {k : Nat} (h0 : isNum (dB p t k) = true) (h : isNum (nth p k - nth t k) = true) (h2 : isNum ((nth p k - nth t k) * (nth p k - nth t k)) = true) :
    dB p t (k + 1) = fit (dB p t k + (nth p k - nth t k) * (nth p k - nth t k)) := by
  rw [dB, fit_yes h, mulB_num h h, fit_yes h2, addB_num h0 h2]
theorem dB_no3 {p t : List Int} {k : Nat} (h0 : isNum (dB p t k) = true) (h : isNum (nth p k - nth t k) = true) (h2 : isNum ((nth p k - nth t k) * (nth p k - nth t k)) = true)
    (h3 : isNum (dB p t k + (nth p k - nth t k) * (nth p k - nth t k)) = false) : dB p t (k + 1) = bad := by rw [dB_step h0 h h2, fit_no h3]
theorem dB_yes {p t : List Int} {k : Nat} (h0 : isNum (dB p t k) = true) (h : isNum (nth p k - nth t k) = true) (h2 : isNum ((nth p k - nth t k) * (nth p k - nth t k)) = true)
    (h3 : isNum (dB p t k + (nth p k - nth t k) * (nth p k - nth t k)) = true) : dB p t (k + 1) = dB p t k + (nth p k - nth t k) * (nth p k - nth t k) := by rw [dB_step h0 h h2, fit_yes h3]

def dOk (r c : Int) (b x t : List Int) : Bool := mulOk 1 x.length x r c b && ((t.length : Int) == c) && allNum t && !(dB (mulV 1 x.length x r c b) t t.length == bad)
def dVal (r c : Int) (b x t : List Int) : Int := if dOk r c b x t then dB (mulV 1 x.length x r c b) t t.length else 0

def dfb (ok e1 an : Bool) (x : Int) : Bool := ok && e1 && an && !(x == bad)
def dfv (ok e1 an : Bool) (x : Int) : Int := if ok && e1 && an && !(x == bad) then x else 0
theorem dfin_no {x : Int} (h : x = bad) : dfv true true true x = 0 ∧ dfb true true true x = false := by simp [h, dfv, dfb]
theorem dfin_yes {x : Int} (h : isNum x = true) : dfv true true true x = x ∧ dfb true true true x = true := by
  have := num_ne_bad h
  simp [this, dfv, dfb]
set_option linter.unusedVariables false in
theorem iDist_all (ok e1 an : Bool) (p : List Int) (R C r c : Int) (A X T : Option Addr) (b x t : List Int) (n m k ca cx ct : Nat) (w : World) (hn : b.length = n) (hm : x.length = m) (hk : t.length = k)
    (ha : Rd w A b) (hx : Rd w X x) (ht : Rd w T t) (hl : n ≤ 1099511627776) (hl2 : m ≤ 1099511627776) (hl3 : k ≤ 1099511627776)
    (HM : ∀ W B cb, Rd W B x → Rd W A b → Calls Try.prog 25 #[.agg #[.int .i64 1, .int .i64 m, .slice B m cb], .agg #[.int .i64 r, .int .i64 c, .slice A n ca]] W fun e w' =>
      ∃ v, e = .returned (.tuple #[.agg #[.int .i64 R, .int .i64 C, v], .bool ok]) ∧ Own w' W.heap.size v p ∧ Grows W w')
    (he : ((k : Int) == c) = e1) (hnum : allNum t = an) (hp : ok = true → p.length = c.toNat ∧ ∀ i, i < p.length → isNum (nth p i) = true) :
    Calls Try.prog 37 #[.agg #[.int .i64 r, .int .i64 c, .slice A n ca], .slice X m cx, .slice T k ct] w fun e w' =>
      e = .returned (.tuple #[.int .i64 (dfv ok e1 an (dB p t k)), .bool (dfb ok e1 an (dB p t k))]) ∧ Grows w w' := by
  have HM' := Lib.hid HM
  have HP := Lib.hid hp
  have HN := Lib.hid hn
  have HX := Lib.hid hm
  have HT := Lib.hid hk
  have HR := Lib.hid fun W h => rowMatrix_c X x m cx W hm h hl2
  have C1 := fun W h => areNumbers_c T t k ct W hk h hl3
  rw [hnum] at C1
  have HA := Lib.hid C1
  have HE := Lib.hid he
  have HE' : ((k : Int) != c) = !e1 := by rw [bne, he]
  have HNU := Lib.hid hnum
  clear HM hp hn hm hk he hnum C1
  go_enter Try.func37, Try.ntmps37
  go_upto_region 1 with fail
  go_cut [8, 9] (fun s8 s9 wx => ∃ g A3 c3, s8 = .pointer (some ⟨g, 0, none⟩) ∧ s9 = .bool ok ∧ Own wx w.heap.size (.slice A3 p.length c3) p ∧ Grows w wx ∧ MBox wx w.heap.size r c (.slice A n ca) ∧ MBox wx g R C (.slice A3 p.length c3))
  case first =>
    have mb := MBox.mk_ w r c (.slice A n ca) 26
    go_region_held3 (fun W => W.cell? ⟨w.heap.size, 0, none⟩ = some (.int .i64 r) ∧ W.cell? ⟨w.heap.size, 1, none⟩ = some (.int .i64 c) ∧ W.cell? ⟨w.heap.size, 2, none⟩ = some (.slice A n ca)) ((refine MBox.cells (mb.grows ?_); first | exact bel2 g3 g2 | exact bel1 g2 | exact bel0))
      (first
       | (go_at_call 83; refine (HR.out _ (by exact (Rd.grows hx (by exact bel0)))).mono ?_; rintro e w2 ⟨v2, rfl, ho2, g2⟩; obtain ⟨A2, c2, rfl, hr2, _⟩ := ho2.val; rw [HX.out]; have z2 := Below.size g2; (try simp at z2); (try (have q := (MBox.mk_ (w.alloc (.cells #[.int .i64 r, .int .i64 c, .slice A n ca] 26)) 0 0 (.slice none 0 0) 26).grows (w' := w2) (Grows.trans (show Grows _ _ from (Below.refl _ _).drew) g2); rw [World.size_alloc] at q)))
       | (go_at_call 25; refine (HM'.out _ _ _ (by exact (Rd.grows hr2 (by exact bel0))) (by exact (Rd.grows ha (by exact bel1 g2)))).mono ?_; rintro e w3 ⟨v3, rfl, ho3, g3⟩; obtain ⟨A3, c3, rfl, hr3, _⟩ := ho3.val; have z3 := Below.size g3; (try simp at z3); (first | (replace q := q.grows g3) | (have q := MBox.grows (MBox.mk_ w2 0 0 (.slice none 0 0) 26) g3) | skip); (try (obtain ⟨q0, q1, q2⟩ := q.cells; have qf := q.fz; have ql := q.lt))))
    all_goals
      go_wp2_with fail
      go_meet
      have mb3 := mb.grows (w' := w3) (by exact bel2 g3 g2)
      exact ⟨_, _, _, rfl, rfl, by (have hb_ := fun k hk => World.ownsRow.lt ho3 k hk; have ho_ := Own.less ho3 (show w.heap.size ≤ _ by first | omega | (simp; done) | (simp; omega)); (repeat' (first | with_reducible exact ho_ | with_reducible refine Own.alloc ?_ _ | with_reducible refine Own.drew ?_ | with_reducible refine Own.far ?_ ?_ _)); all_goals first | (intro k hk; have := hb_ k hk; (try simp at this); (try simp); omega) | omega | (simp; done) | (simp; omega)), by exact bel2 g3 g2, by ((repeat' (first | with_reducible exact mb3 | with_reducible refine MBox.alloc ?_ _ | with_reducible refine MBox.drew_ ?_ | with_reducible refine MBox.far ?_ ?_ _)); all_goals (first | omega | (simp; done) | (simp; omega))), by first | exact MBox.put q _ _ _ | exact MBox.mk_ _ _ _ _ _ | exact MBox.put (MBox.mk_ _ _ _ _ _) _ _ _⟩
  case rest =>
    obtain ⟨g, A3, c3, rfl, rfl, ho, hgr, hmb, hmp⟩ := hcut
    have hrp := ho.rd_
    have hrt : Rd wc T t := ht.grows hgr
    clear ha hx ho ht
    obtain ⟨b0, b1, b2⟩ := hmb.cells
    cases ok
    · go_wp2_with fail
      go_ret2
      exact ⟨by simp [dfv, dfb], hgr⟩
    · cases e1
      · go_wp2_with fail
        go_ret2
        exact ⟨by simp [dfv, dfb], hgr⟩
      · obtain ⟨hpl, hpn⟩ := HP.out rfl
        have hkp : p.length = k := by rw [hpl]; have := beq_iff_eq.1 HE.out; omega
        have HPN := Lib.hid hpn
        have HPL := Lib.hid hpl
        clear hpl hpn
        cases an
        · go_wp2_with fail
          refine (HA.out _ (by exact (Rd.grows hrt (by exact bel0)))).mono ?_; rintro e w4 ⟨rfl, rfl⟩
          go_wp2_with fail
          go_ret2
          exact ⟨by simp [dfv, dfb], by exact bel1 hgr⟩
        · go_wp2_with fail
          refine (HA.out _ (by exact (Rd.grows hrt (by exact bel0)))).mono ?_; rintro e w4 ⟨rfl, rfl⟩
          clear b0 b1 b2
          go_wp2_with fail
          go_loopw [36, 10] (fun i s wr => ∃ I : Nat, i = .int .i64 I ∧ I ≤ k ∧ s = .int .i64 (dB p t I) ∧ isNum (dB p t I) = true ∧ Grows w wr ∧ Rd wr A3 p ∧ Rd wr T t ∧ MBox wr g R C (.slice A3 p.length c3)) (fun i _ _ => k - (intOf i).toNat)
          case atStart => exact ⟨0, rfl, Nat.zero_le _, rfl, rfl, by exact bel1 hgr, hrp, hrt, hmp⟩
          case round =>
            clear hrp hrt hmp hgr hmb
            obtain ⟨I, rfl, hI, rfl, hsn, hgr, hrp, hrt, hmp⟩ := hrel
            have HSN := Lib.hid hsn
            clear hsn
            by_cases hlt : I < k
            · obtain ⟨p0, p1, p2⟩ := hmp.cells
              obtain ⟨bp, op, rfl, hbp, hcp⟩ := hrp.at_ I (by omega)
              obtain ⟨bt, ot, rfl, hbt, hct⟩ := hrt.at_ I (by rw [HT.out]; exact hlt)
              have i1 : (I : Int) < (p.length : Int) := by omega
              have i2 : (I : Int) < (k : Int) := by omega
              have hx1 := (isNum_iff _).1 (HPN.out I (by omega))
              have hx2 := (isNum_iff _).1 ((allNum_iff t).1 HNU.out I (by rw [HT.out]; exact hlt))
              have hx3 := (isNum_iff _).1 HSN.out
              have HX3 := HSN
              generalize hd : nth p I - nth t I = d at *
              have e1 : IntKind.i64.wrap (nth p I - nth t I) = d := by rw [hd]; exact IntWalk.i64_in _ (by omega)
              have HD := Lib.hid hd
              clear hx1 hx2 hd
              have C1 := fun W => iIsNumber_c d W
              cases h1 : isNum d
              · rw [h1] at C1
                have N1 := Lib.hid C1
                have hb := dB_stuck' (n := k) (dB_no1 (by rw [HD.out]; exact h1)) (by omega)
                have HB := Lib.hid (dfin_no hb)
                clear h1 C1 hb
                go_wp2_with fail
                go_quiet (fail)
                go_wp2_with (go_at_call 33; first | (with_reducible refine (N1.out _).mono ?_; rintro e w' ⟨rfl, rfl⟩))
                go_ret2
                exact ⟨by simp [HB.out.1, HB.out.2], by exact bel1 hgr⟩
              · rw [h1] at C1
                have N1 := Lib.hid C1
                have hx4 := mul_bd h1 h1
                have e2 : IntKind.i64.wrap (d * d) = d * d := IntWalk.i64_in _ (by omega)
                have C2 := fun W => iIsNumber_c (d * d) W
                generalize hdd : d * d = dd at *
                have e2' : IntKind.i64.wrap (d * d) = dd := by rw [hdd]; exact e2
                clear e2
                have HDD := Lib.hid hdd
                have K1 := Lib.hid h1
                clear C1 h1 hdd
                cases h2 : isNum dd
                · rw [h2] at C2
                  have N2 := Lib.hid C2
                  have hb := dB_stuck' (n := k) (dB_no2 (by rw [HD.out]; exact K1.out) (by rw [HD.out, HDD.out]; exact h2)) (by omega)
                  have HB := Lib.hid (dfin_no hb)
                  clear h2 C2 hb
                  go_wp2_with fail
                  go_quiet (fail)
                  go_wp2_with (go_at_call 33; first | (with_reducible refine (N1.out _).mono ?_; rintro e w' ⟨rfl, rfl⟩) | (with_reducible refine (N2.out _).mono ?_; rintro e w' ⟨rfl, rfl⟩))
                  go_ret2
                  exact ⟨by simp [HB.out.1, HB.out.2], by exact bel1 hgr⟩
                · rw [h2] at C2
                  have N2 := Lib.hid C2
                  have hx5 := (isNum_iff _).1 h2
                  have e3 : IntKind.i64.wrap (dB p t I + dd) = dB p t I + dd := IntWalk.i64_in _ (by omega)
                  have C3 := fun W => iIsNumber_c (dB p t I + dd) W
                  have K2 := Lib.hid h2
                  clear h2 C2
                  cases h3 : isNum (dB p t I + dd)
                  · rw [h3] at C3
                    have N3 := Lib.hid C3
                    have hb := dB_stuck' (n := k) (dB_no3 (p := p) (t := t) (k := I) HX3.out (by rw [HD.out]; exact K1.out) (by rw [HD.out, HDD.out]; exact K2.out) (by rw [HD.out, HDD.out]; exact h3)) (by omega)
                    have HB := Lib.hid (dfin_no hb)
                    clear h3 C3 hb
                    go_wp2_with fail
                    go_quiet (fail)
                    go_wp2_with (go_at_call 33; first | (with_reducible refine (N1.out _).mono ?_; rintro e w' ⟨rfl, rfl⟩) | (with_reducible refine (N2.out _).mono ?_; rintro e w' ⟨rfl, rfl⟩) | (with_reducible refine (N3.out _).mono ?_; rintro e w' ⟨rfl, rfl⟩))
                    go_ret2
                    exact ⟨by simp [HB.out.1, HB.out.2], by exact bel1 hgr⟩
                  · rw [h3] at C3
                    have N3 := Lib.hid C3
                    have hb := dB_yes (p := p) (t := t) (k := I) HX3.out (by rw [HD.out]; exact K1.out) (by rw [HD.out, HDD.out]; exact K2.out) (by rw [HD.out, HDD.out]; exact h3)
                    rw [HD.out, HDD.out] at hb
                    have HB := Lib.hid hb
                    have K3 := Lib.hid h3
                    clear h3 C3 hb
                    go_wp2_with fail
                    go_quiet (fail)
                    go_wp2_with (go_at_call 33; first | (with_reducible refine (N1.out _).mono ?_; rintro e w' ⟨rfl, rfl⟩) | (with_reducible refine (N2.out _).mono ?_; rintro e w' ⟨rfl, rfl⟩) | (with_reducible refine (N3.out _).mono ?_; rintro e w' ⟨rfl, rfl⟩))
                    go_round
                    case rel => exact ⟨I + 1, by go_num, by omega, by rw [HB.out], by rw [HB.out]; exact K3.out, by exact bel1 hgr, by exact hrp.grows (by exact bel0), by exact hrt.grows (by exact bel0), hmp.grows (by exact bel0)⟩
                    case measure => simp [intOf]; omega
            · obtain rfl : I = k := by omega
              have hf := dfin_yes HSN.out
              have HF := Lib.hid hf
              clear hf
              go_wp2_with fail
              go_ret2
              exact ⟨by simp [HF.out.1, HF.out.2], hgr⟩

set_option linter.unusedVariables false in
theorem sDist_all (ok e1 an : Bool) (p : List Int) (R C r c : Int) (A X T : Option Addr) (b x t : List Int) (n m k ca cx ct : Nat) (w : World) (hn : b.length = n) (hm : x.length = m) (hk : t.length = k)
    (ha : Rd w A b) (hx : Rd w X x) (ht : Rd w T t) (hl : n ≤ 1099511627776) (hl2 : m ≤ 1099511627776) (hl3 : k ≤ 1099511627776)
    (HM : ∀ W, Rd W X x → Rd W A b → Calls Try.prog 94 #[.agg #[.int .i64 1, .int .i64 m, .slice X m cx], .agg #[.int .i64 r, .int .i64 c, .slice A n ca]] W fun e w' =>
      ∃ v, e = .returned (.tuple #[.agg #[.int .i64 R, .int .i64 C, v], .bool ok]) ∧ Own w' W.heap.size v p ∧ Grows W w')
    (he : ((k : Int) == c) = e1) (hnum : allNum t = an) (hp : ok = true → p.length = c.toNat ∧ ∀ i, i < p.length → isNum (nth p i) = true) :
    Calls Try.prog 44 #[.agg #[.int .i64 r, .int .i64 c, .slice A n ca], .slice X m cx, .slice T k ct] w fun e w' =>
      e = .returned (.tuple #[.int .i64 (dfv ok e1 an (dB p t k)), .bool (dfb ok e1 an (dB p t k))]) ∧ Grows w w' := by
  have HM' := Lib.hid HM
  have HP := Lib.hid hp
  have HT := Lib.hid hk
  have HE := Lib.hid he
  have HE' : ((k : Int) != c) = !e1 := by rw [bne, he]
  have HNU := Lib.hid hnum
  clear HM hp hn hm hk he hnum
  go_enter Try.func44, Try.ntmps44
  go_wp2_with fail
  refine (HM'.out _ (by exact (Rd.grows hx (by exact bel0))) (by exact (Rd.grows ha (by exact bel0)))).mono ?_; rintro e w3 ⟨v3, rfl, ho3, g3⟩
  obtain ⟨A3, c3, rfl, hrp, _⟩ := ho3.val
  have hgr : Grows w w3 := by exact bel1 g3
  have hmb := (MBox.mk_ w r c (.slice A n ca) 26).grows (w' := w3) (by exact bel1 g3)
  have hrt : Rd w3 T t := ht.grows hgr
  clear ha hx ho3 ht g3
  obtain ⟨b0, b1, b2⟩ := hmb.cells
  have bl := hmb.lt
  cases ok
  · go_wp2_with fail
    go_ret2
    exact ⟨by simp [dfv, dfb], by exact bel1 hgr⟩
  · cases e1
    · go_wp2_with fail
      go_ret2
      exact ⟨by simp [dfv, dfb], by exact bel1 hgr⟩
    · obtain ⟨hpl, hpn⟩ := HP.out rfl
      have hkp : p.length = k := by rw [hpl]; have := beq_iff_eq.1 HE.out; omega
      have HPN := Lib.hid hpn
      have HPL := Lib.hid hpl
      clear hpl hpn
      go_wp2_with fail
      go_loopw [11, 10] (fun i s wr => ∃ I : Nat, i = .int .i64 I ∧ I ≤ k ∧ s = .int .i64 (dB p t I) ∧ (∀ j, j < I → isNum (nth t j) = true) ∧ Grows w wr ∧ Rd wr A3 p ∧ Rd wr T t ∧ MBox wr w3.heap.size R C (.slice A3 p.length c3)) (fun i _ _ => k - (intOf i).toNat)
      case atStart => exact ⟨0, rfl, Nat.zero_le _, rfl, fun j hj => by omega, by exact bel1 hgr, hrp.alloc _, hrt.alloc _, by first | exact MBox.mk_ _ _ _ _ _ | (rw [hkp]; exact MBox.mk_ _ _ _ _ _)⟩
      case round =>
        clear hrp hrt hgr hmb b0 b1 b2 bl
        obtain ⟨I, rfl, hI, rfl, hns, hgr, hrp, hrt, hmp⟩ := hrel
        have HNS := Lib.hid hns
        clear hns
        by_cases hlt : I < k
        · obtain ⟨p0, p1, p2⟩ := hmp.cells
          have pl := hmp.lt
          obtain ⟨bp, op, rfl, hbp, hcp⟩ := hrp.at_ I (by omega)
          obtain ⟨bt, ot, rfl, hbt, hct⟩ := hrt.at_ I (by rw [HT.out]; exact hlt)
          have i1 : (I : Int) < (p.length : Int) := by omega
          have i2 : (I : Int) < (k : Int) := by omega
          have C1 := fun W => sIsNumber_c (nth t I) W
          cases h1 : isNum (nth t I)
          · rw [h1] at C1
            have N1 := Lib.hid C1
            have han : an = false := by rw [← HNU.out]; exact allNum_no (by rw [HT.out]; exact hlt) h1
            clear h1 C1
            subst han
            go_wp2_with (go_at_call 95; refine (N1.out _).mono ?_; rintro e w' ⟨rfl, rfl⟩)
            go_ret2
            exact ⟨by simp [dfv, dfb], by exact bel1 hgr⟩
          · rw [h1] at C1
            have N1 := Lib.hid C1
            have hx1 := (isNum_iff _).1 (HPN.out I (by omega))
            have hx2 := (isNum_iff _).1 h1
            have e1 : IntKind.i64.wrap (nth p I - nth t I) = nth p I - nth t I := IntWalk.i64_in _ (by omega)
            have N2 := Lib.hid fun W => l1Fit_c (nth p I - nth t I) W
            have KF := Lib.hid (fit_or (nth p I - nth t I))
            have K1 := Lib.hid h1
            have KD := Lib.hid (dB_or p t I)
            clear h1 C1 hx1 hx2
            go_wp2_with (go_at_call 95; refine (N1.out _).mono ?_; rintro e w' ⟨rfl, rfl⟩)
            go_quiet ((go_at_call 96; exact quietL (N2.out _)))
            go_wp2_with (first | (go_at_call 98; refine (l1Mul_c _ _ _ KF.out KF.out).mono ?_; rintro e w' ⟨rfl, rfl⟩) | (go_at_call 97; refine (l1Add_c _ _ _ KD.out (mulB_or _ _)).mono ?_; rintro e w' ⟨rfl, rfl⟩))
            go_round
            case rel => exact ⟨I + 1, by go_num, by omega, rfl, fun j hj => by (by_cases e : j = I); (· subst e; exact K1.out); (· exact HNS.out j (by omega)), by exact bel1 hgr, by exact hrp.grows (by exact bel0), by exact hrt.grows (by exact bel0), hmp.grows (by exact bel0)⟩
            case measure => simp [intOf]; omega
        · obtain rfl : I = k := by omega
          have han : an = true := by rw [← HNU.out, allNum_iff]; intro j hj; exact HNS.out j (by rw [HT.out] at hj; exact hj)
          subst han
          rcases dB_or p t I with hs | hs
          · have hs2 : (dB p t I == -4611686018427387904) = true := by rw [hs]; rfl
            have HB := Lib.hid (dfin_no hs)
            clear hs
            go_wp2_with fail
            go_ret2
            exact ⟨by simp [HB.out.1, HB.out.2], by exact bel1 hgr⟩
          · have hs2 : (dB p t I == -4611686018427387904) = false := by rw [beq_eq_false_iff_ne]; exact num_ne_bad hs
            have HB := Lib.hid (dfin_yes hs)
            clear hs
            go_wp2_with fail
            go_ret2
            exact ⟨by simp [HB.out.1, HB.out.2], by exact bel1 hgr⟩

theorem dOk_def (r c : Int) (b x t : List Int) : dOk r c b x t = (mulOk 1 x.length x r c b && ((t.length : Int) == c) && allNum t && !(dB (mulV 1 x.length x r c b) t t.length == bad)) := rfl
theorem mul_row {r c : Int} {b x : List Int} (h : mulOk 1 x.length x r c b = true) : (mulV 1 x.length x r c b).length = c.toNat ∧ ∀ i, i < (mulV 1 x.length x r c b).length → isNum (nth (mulV 1 x.length x r c b) i) = true := by
  have e := h
  unfold mulOk at e
  rw [Bool.and_eq_true] at e
  have hv : mulV 1 x.length x r c b = mulL 1 x.length c.toNat x b := by unfold mulV; rw [h]; rfl
  have hn := e.2
  rw [hv]
  simp only [Int.toNat_natCast] at hn
  refine ⟨by rw [mulL_length]; omega, fun i hi => (allNum_iff _).1 hn i hi⟩

theorem iDistanceOf_c (r c : Int) (A X T : Option Addr) (b x t : List Int) (n m k ca cx ct : Nat) (w : World) (hn : b.length = n) (hm : x.length = m) (hk : t.length = k)
    (ha : Rd w A b) (hx : Rd w X x) (ht : Rd w T t) (hl : n ≤ 1099511627776) (hl2 : m ≤ 1099511627776) (hl3 : k ≤ 1099511627776) :
    Calls Try.prog 37 #[.agg #[.int .i64 r, .int .i64 c, .slice A n ca], .slice X m cx, .slice T k ct] w fun e w' =>
      e = .returned (.tuple #[.int .i64 (dVal r c b x t), .bool (dOk r c b x t)]) ∧ Grows w w' := by
  subst hm
  subst hk
  exact iDist_all _ _ _ _ _ _ r c A X T b x t n _ _ ca cx ct w hn rfl rfl ha hx ht hl hl2 hl3 (fun W B cb h h' => iMul_c 1 x.length r c B A x b x.length n cb ca W rfl hn h h' hl2 hl) rfl rfl mul_row
theorem sDistanceOf_c (r c : Int) (A X T : Option Addr) (b x t : List Int) (n m k ca cx ct : Nat) (w : World) (hn : b.length = n) (hm : x.length = m) (hk : t.length = k)
    (ha : Rd w A b) (hx : Rd w X x) (ht : Rd w T t) (hl : n ≤ 1099511627776) (hl2 : m ≤ 1099511627776) (hl3 : k ≤ 1099511627776) :
    Calls Try.prog 44 #[.agg #[.int .i64 r, .int .i64 c, .slice A n ca], .slice X m cx, .slice T k ct] w fun e w' =>
      e = .returned (.tuple #[.int .i64 (dVal r c b x t), .bool (dOk r c b x t)]) ∧ Grows w w' := by
  subst hm
  subst hk
  exact sDist_all _ _ _ _ _ _ r c A X T b x t n _ _ ca cx ct w hn rfl rfl ha hx ht hl hl2 hl3 (fun W h h' => sMul_c 1 x.length r c X A x b x.length n cx ca W rfl hn h h' hl2 hl) rfl rfl mul_row
end
end Go.Proofs.Ythajmffhgbenpaa

/- Contracts: the squares of the orthogonal vectors. -/
namespace Go.Proofs.Ythajmffhgbenpaa
set_option linter.unusedSimpArgs false
set_option linter.unusedVariables false
open Go.RowKit

def befP (L : List Int) : Nat → Int
  | 0 => 1
  | i + 1 => nth L i
def sqP (L : List Int) : Nat → List Q2
  | 0 => []
  | i + 1 => sqP L i ++ [makeQ (nth L i) (befP L i)]
theorem sqP_length (L : List Int) (i : Nat) : (sqP L i).length = i := by
  induction i with
  | zero => rfl
  | succ i ih => rw [sqP]; simp [ih]
def sqO (r c : Int) (l : List Int) : Option (List Q2) := if isDef r c l then some (sqP (oL (lmO r c l)) (oL (lmO r c l)).length) else none
def oLQ (o : Option (List Q2)) : List Q2 := o.getD []
theorem sqO_length {r c : Int} {l : List Int} : (oLQ (sqO r c l)).length ≤ 1048576 := by
  unfold sqO
  split
  · show (sqP _ _).length ≤ _
    rw [sqP_length]
    cases hx : lmO r c l with
    | none => simp [oL]
    | some s => have := lmO_length hx; simp [oL]; omega
  · simp [oLQ]
theorem oL_lm_length (r c : Int) (l : List Int) : (oL (lmO r c l)).length ≤ 1048576 := by
  cases hx : lmO r c l with
  | none => simp [oL]
  | some s => have := lmO_length hx; simp [oL]; omega

section
set_option maxHeartbeats 1000000
end
end Go.Proofs.Ythajmffhgbenpaa

/- Contracts: the Gram matrix as a matrix. -/
namespace Go.Proofs.Ythajmffhgbenpaa
set_option linter.unusedSimpArgs false
set_option linter.unusedVariables false
open Go.RowKit

def gmO (b : MX) : Option MX := if gmOk b.r b.c b.l then some ⟨b.r, b.r, gmL b.r.toNat b.c.toNat b.l⟩ else none
theorem gmO_eq (b : MX) : (oM (gmO b)).r = gmR b.r b.c b.l ∧ (oM (gmO b)).c = gmR b.r b.c b.l ∧ (oM (gmO b)).l = gmV b.r b.c b.l ∧ (gmO b).isSome = gmOk b.r b.c b.l := by
  unfold gmO gmR gmV
  cases gmOk b.r b.c b.l <;> simp [oM, MX.nil]
theorem gmO_length (b : MX) : (oM (gmO b)).l.length ≤ 576 := by rw [(gmO_eq b).2.2.1]; exact gmV_length _ _ _
theorem iGm_m (r c : Int) (A : Option Addr) (l : List Int) (n cap : Nat) (w : World) (hn : l.length = n) (ha : Rd w A l) (hl : n ≤ 1099511627776) :
    Calls Try.prog 38 #[.agg #[.int .i64 r, .int .i64 c, .slice A n cap]] w (MatRet (gmO ⟨r, c, l⟩) w) := by
  obtain ⟨e1, e2, e3, e4⟩ := gmO_eq ⟨r, c, l⟩
  unfold MatRet MatR
  rw [e1, e2, e3, e4]
  exact iGramOf_c r c A l n cap w hn ha hl
theorem sGm_m (r c : Int) (A : Option Addr) (l : List Int) (n cap : Nat) (w : World) (hn : l.length = n) (ha : Rd w A l) (hl : n ≤ 1099511627776) :
    Calls Try.prog 45 #[.agg #[.int .i64 r, .int .i64 c, .slice A n cap]] w (MatRet (gmO ⟨r, c, l⟩) w) := by
  obtain ⟨e1, e2, e3, e4⟩ := gmO_eq ⟨r, c, l⟩
  unfold MatRet MatR
  rw [e1, e2, e3, e4]
  exact sGramOf_c r c A l n cap w hn ha hl
end Go.Proofs.Ythajmffhgbenpaa

/- Contracts: the coordinates of a projection. -/
namespace Go.Proofs.Ythajmffhgbenpaa
set_option linter.unusedSimpArgs false
set_option linter.unusedVariables false
open Go.RowKit

def qsP (d : Int) (l : List Int) : Nat → List Q2
  | 0 => []
  | i + 1 => qsP d l i ++ [makeQ (nth l i) d]
theorem qsP_length (d : Int) (l : List Int) (i : Nat) : (qsP d l i).length = i := by
  induction i with
  | zero => rfl
  | succ i ih => rw [qsP]; simp [ih]
def colM (t : List Int) : MX := ⟨t.length, 1, t⟩
def prjO (b : MX) (t : List Int) : Option (List Q2) :=
  if (gmO b).isSome && decide ((t.length : Int) = b.c) && (adjO (oM (gmO b))).isSome && isDef (oM (gmO b)).r (oM (gmO b)).c (oM (gmO b)).l then
    (mulO b (colM t)).bind fun p => (mulO (oM (adjO (oM (gmO b)))) p).map fun q => qsP ((dtO (oM (gmO b))).getD 0) q.l q.l.length
  else none
theorem mulO_col {b p : MX} {t : List Int} (h : mulO b (colM t) = some p) : colM p.l = p := by
  have hok := mulO_ok h
  obtain ⟨R, C, e1, e2, _, _, hl, _⟩ := isMat_ok hok
  unfold mulO at h
  split at h
  · cases h
    simp only at e1 e2 hl
    have e3 : C = 1 := by have : (colM t).c = 1 := rfl; omega
    subst e3
    unfold colM
    simp only [MX.mk.injEq, and_true]
    simp only [colM] at hl ⊢
    omega
  · cases h
theorem prjO_length {b : MX} {t : List Int} : (oLQ (prjO b t)).length ≤ 576 := by
  cases h : prjO b t with
  | none => simp [oLQ]
  | some s =>
    unfold prjO at h
    split at h
    · obtain ⟨p, _, h2⟩ := Option.bind_eq_some_iff.1 h
      obtain ⟨q, h3, rfl⟩ := Option.map_eq_some_iff.1 h2
      show (qsP _ _ _).length ≤ _
      rw [qsP_length]
      exact oM_length (o := some q) fun m h => by cases h; exact mulO_ok h3
    · cases h
/-- the answer is a slice of fractions, in memory of its own, and whether there is one -/
def LQRet (o : Option (List Q2)) (w : World) (e : Ending) (w' : World) : Prop := ∃ v, e = .returned (.tuple #[v, .bool o.isSome]) ∧ OwnQ w' w.heap.size v (oLQ o) ∧ Grows w w'
theorem lqRet_out {o : Option (List Q2)} {w w' : World} {e : Ending} (h : LQRet o w e w') : ∃ v, e = .returned (.tuple #[v, .bool o.isSome]) ∧ OwnQ w' w.heap.size v (oLQ o) ∧ Grows w w' := h

section
set_option maxHeartbeats 2000000
theorem l14Times_c (r c : Int) (A T : Option Addr) (l t : List Int) (n cap k ct : Nat) (w : World) (hn : l.length = n) (ha : Rd w A l) (hl : n ≤ 1099511627776) (hk : t.length = k) (ht : Rd w T t) (hl2 : k ≤ 1099511627776) :
    Calls Try.prog 91 #[.agg #[.int .i64 r, .int .i64 c, .slice A n cap], .slice T k ct] w (LRet ((mulO ⟨r, c, l⟩ (colM t)).map fun m => m.l) w) := by
  have HM := fun W h h' => (sMul_m r c k 1 A T l t n k cap ct W hn hk h h' hl hl2).mono fun _ _ h => matRet_out h
  rw [show (⟨(k : Int), 1, t⟩ : MX) = colM t by unfold colM; rw [hk]] at HM
  obtain ⟨w1, hw1⟩ : ∃ w1, w1 = w.alloc (.cells #[.int .i64 r, .int .i64 c, .slice A n cap] 26) := ⟨_, rfl⟩
  have mg : MBox w1 w.heap.size r c (.slice A n cap) := by rw [hw1]; exact MBox.mk_ _ _ _ _ _
  have HG : Grows w w1 := by rw [hw1]; exact bel0
  have ha1 := ha.grows HG
  have ht1 := ht.grows HG
  have h_w1 := Below.size HG
  have HW1 := Lib.hid hw1
  generalize mulO ⟨r, c, l⟩ (colM t) = M at *
  have HM' := Lib.hid HM
  clear hw1 HM hn hk
  go_enter Try.func91, Try.ntmps91
  go_wp2_with fail
  rw [← HW1.out]
  refine (HM'.out _ (by exact Rd.grows ha1 (by exact bel0)) (by exact Rd.grows ht1 (by exact bel0))).mono ?_; rintro e w2 ⟨v2, rfl, o2, g_w2⟩
  have s_w2 := Below.size g_w2; (try simp at s_w2)
  replace ha1 := ha1.grows (w' := w2) (by exact bel1 g_w2)
  replace ht1 := ht1.grows (w' := w2) (by exact bel1 g_w2)
  replace HG : Grows w w2 := by exact bel2 g_w2 HG
  have h_w2 := Below.size HG
  obtain ⟨A2, c2, rfl, hr2, _⟩ := o2.val
  cases M with
  | none =>
    go_wp2_with fail
    go_ret2
    exact ⟨_, rfl, Own.new_ _ (by simp) (by first | omega | (simp; omega)), by exact bel1 HG⟩
  | some m =>
    have o2' : Own w2 w1.heap.size (.slice A2 m.l.length c2) m.l := o2
    go_wp2_with fail
    go_ret2
    exact ⟨_, rfl, (o2'.alloc _).less (by omega), by exact bel1 HG⟩
set_option maxRecDepth 100000 in
theorem sPrj_c (r c : Int) (A T : Option Addr) (b t : List Int) (n cap k ct : Nat) (w : World) (hn : b.length = n) (ha : Rd w A b) (hl : n ≤ 1099511627776) (hk : t.length = k) (ht : Rd w T t) (hl2 : k ≤ 1099511627776) :
    Calls Try.prog 42 #[.agg #[.int .i64 r, .int .i64 c, .slice A n cap], .slice T k ct] w (LQRet (prjO ⟨r, c, b⟩ t) w) := by
  have CG := fun W h => (sGm_m r c A b n cap W hn h hl).mono fun _ _ h => matRet_out h
  have CT := fun W h h' => (l14Times_c r c A T b t n cap k ct W hn h hl hk h' hl2).mono fun _ _ h => lRet_out h
  have hgl := gmO_length ⟨r, c, b⟩
  obtain ⟨w1, hw1⟩ : ∃ w1, w1 = w.alloc (.cells #[.int .i64 r, .int .i64 c, .slice A n cap] 26) := ⟨_, rfl⟩
  have mg : MBox w1 w.heap.size r c (.slice A n cap) := by rw [hw1]; exact MBox.mk_ _ _ _ _ _
  have HG : Grows w w1 := by rw [hw1]; exact bel0
  have ha1 := ha.grows HG
  have ht1 := ht.grows HG
  have h_w1 := Below.size HG
  have HW1 := Lib.hid hw1
  obtain ⟨RES, hRES⟩ : ∃ x, x = prjO ⟨r, c, b⟩ t := ⟨_, rfl⟩
  rw [← hRES]
  unfold prjO at hRES
  rw [hk] at hRES
  simp only at hRES
  have hml := fun p (h : mulO ⟨r, c, b⟩ (colM t) = some p) => (show p.l.length ≤ 576 ∧ colM p.l = p from ⟨oM_length (o := some p) fun m h2 => by cases h2; exact mulO_ok h, mulO_col h⟩)
  generalize gmO ⟨r, c, b⟩ = GO at *
  have CA := fun W A cp h => (sAdj_c (oM GO).r (oM GO).c A (oM GO).l (oM GO).l.length cp W rfl h (by omega)).mono fun _ _ h => matRet_out h
  have CF := fun W A cp h => sIsDef_c (oM GO).r (oM GO).c A (oM GO).l (oM GO).l.length cp W rfl h (by omega)
  have CD := fun W A cp h => sDt_c (oM GO).r (oM GO).c A (oM GO).l (oM GO).l.length cp W rfl h (by omega)
  have hal : (oM (adjO (oM GO))).l.length ≤ 576 := oM_length fun m h => adjO_ok h
  have CT2 := fun W A cp T t k ct h1 h2 h3 h4 => (l14Times_c (oM (adjO (oM GO))).r (oM (adjO (oM GO))).c A T (oM (adjO (oM GO))).l t (oM (adjO (oM GO))).l.length cp k ct W rfl h1 (by omega) h2 h3 h4).mono fun _ _ h => lRet_out h
  change ∀ W A cp, Rd W A (oM GO).l → Calls Try.prog 88 #[.agg #[.int .i64 (oM GO).r, .int .i64 (oM GO).c, .slice A (oM GO).l.length cp]] W (fun e w' => ∃ v, e = .returned (.tuple #[.agg #[.int .i64 (oM (adjO (oM GO))).r, .int .i64 (oM (adjO (oM GO))).c, v], .bool (adjO (oM GO)).isSome]) ∧ Own w' W.heap.size v (oM (adjO (oM GO))).l ∧ Grows W w') at CA
  generalize adjO (oM GO) = AO at *
  generalize isDef (oM GO).r (oM GO).c (oM GO).l = DF at *
  change ∀ W A cp, Rd W A (oM GO).l → Calls Try.prog 90 #[.agg #[.int .i64 (oM GO).r, .int .i64 (oM GO).c, .slice A (oM GO).l.length cp]] W (fun e w' => e = .returned (.tuple #[.int .i64 ((dtO (oM GO)).getD 0), .bool (dtO (oM GO)).isSome]) ∧ Grows W w') at CD
  generalize (dtO (oM GO)).getD 0 = D at *
  generalize (dtO (oM GO)).isSome = DK at *
  generalize mulO ⟨r, c, b⟩ (colM t) = PO at *
  have HR := Lib.hid hRES
  have CG' := Lib.hid CG
  have CT' := Lib.hid CT
  have CA' := Lib.hid CA
  have CF' := Lib.hid CF
  have CD' := Lib.hid CD
  have CT2' := Lib.hid CT2
  have HML := Lib.hid hml
  clear hw1 hRES CG CT CA CF CD CT2 hn hk hml
  go_enter Try.func42, Try.ntmps42
  go_wp2_with fail
  rw [← HW1.out]
  have mg_0 := mg.c0; have mg_1 := mg.c1; have mg_2 := mg.c2; have mg_l := mg.lt; have mg_f := mg.fz
  refine (CG'.out _ (by exact Rd.grows ha1 (by exact bel0))).mono ?_; rintro e w2 ⟨v2, rfl, o2, g_w2⟩
  have s_w2 := Below.size g_w2; (try simp at s_w2)
  clear mg_0 mg_1 mg_2 mg_l mg_f
  replace mg := mg.grows (w' := w2) (by exact bel1 g_w2)
  have mg_0 := mg.c0; have mg_1 := mg.c1; have mg_2 := mg.c2; have mg_l := mg.lt; have mg_f := mg.fz
  replace ha1 := ha1.grows (w' := w2) (by exact bel1 g_w2)
  replace ht1 := ht1.grows (w' := w2) (by exact bel1 g_w2)
  replace HG : Grows w w2 := by exact bel2 g_w2 HG
  have h_w2 := Below.size HG
  obtain ⟨A2, c2, rfl, hr2, _⟩ := o2.val
  go_wp2_with fail
  refine (CA'.out _ _ _ (by exact Rd.grows hr2 (by exact bel0))).mono ?_; rintro e w3 ⟨v3, rfl, o3, g_w3⟩
  have s_w3 := Below.size g_w3; (try simp at s_w3)
  clear mg_0 mg_1 mg_2 mg_l mg_f
  replace mg := mg.grows (w' := w3) (by exact bel1 g_w3)
  have mg_0 := mg.c0; have mg_1 := mg.c1; have mg_2 := mg.c2; have mg_l := mg.lt; have mg_f := mg.fz
  replace ha1 := ha1.grows (w' := w3) (by exact bel1 g_w3)
  replace ht1 := ht1.grows (w' := w3) (by exact bel1 g_w3)
  replace hr2 := hr2.grows (w' := w3) (by exact bel1 g_w3)
  have mG : MBox w3 (w2.heap.size) (oM GO).r (oM GO).c (.slice A2 (oM GO).l.length c2) := MBox.grows (MBox.new_ w2 (oM GO).r (oM GO).c (.slice A2 (oM GO).l.length c2) 26 (by simp)) (w' := w3) (by exact bel1 g_w3)
  have mG_0 := mG.c0; have mG_1 := mG.c1; have mG_2 := mG.c2; have mG_l := mG.lt; have mG_f := mG.fz
  replace HG : Grows w w3 := by exact bel2 g_w3 HG
  have h_w3 := Below.size HG
  obtain ⟨A3, c3, rfl, hr3, _⟩ := o3.val
  have hbi : ∀ x : Bool, (GO.isSome && x && AO.isSome && false) = false := fun x => by simp
  cases hgo : GO.isSome
  · obtain rfl : RES = none := by rw [HR.out, hgo]; simp
    clear hgo hbi
    go_wp2_with fail
    go_ret2
    exact ⟨_, rfl, OwnQ.new_ _ (by simp) (by first | omega | (simp; omega)), by exact bel1 HG⟩
  · cases hao : AO.isSome
    · obtain rfl : RES = none := by rw [HR.out, hao]; simp
      clear hgo hao hbi
      go_wp2_with fail
      go_ret2
      exact ⟨_, rfl, OwnQ.new_ _ (by simp) (by first | omega | (simp; omega)), by exact bel1 HG⟩
    · have HR1 := Lib.hid (HR.out.trans (by rw [hgo, hao]))
      clear hgo hao hbi
      go_wp2_with fail
      refine (CF'.out _ _ _ (by exact Rd.grows hr2 (by exact bel0))).mono ?_; rintro e w4 ⟨rfl, g_w4⟩
      have s_w4 := Below.size g_w4; (try simp at s_w4)
      clear mg_0 mg_1 mg_2 mg_l mg_f
      replace mg := mg.grows (w' := w4) (by exact bel1 g_w4)
      have mg_0 := mg.c0; have mg_1 := mg.c1; have mg_2 := mg.c2; have mg_l := mg.lt; have mg_f := mg.fz
      replace ha1 := ha1.grows (w' := w4) (by exact bel1 g_w4)
      replace ht1 := ht1.grows (w' := w4) (by exact bel1 g_w4)
      replace hr2 := hr2.grows (w' := w4) (by exact bel1 g_w4)
      clear mG_0 mG_1 mG_2 mG_l mG_f
      replace mG := mG.grows (w' := w4) (by exact bel1 g_w4)
      have mG_0 := mG.c0; have mG_1 := mG.c1; have mG_2 := mG.c2; have mG_l := mG.lt; have mG_f := mG.fz
      replace hr3 := hr3.grows (w' := w4) (by exact bel1 g_w4)
      have mA : MBox w4 (w3.heap.size) (oM AO).r (oM AO).c (.slice A3 (oM AO).l.length c3) := MBox.grows (MBox.new_ w3 (oM AO).r (oM AO).c (.slice A3 (oM AO).l.length c3) 26 (by simp)) (w' := w4) (by exact bel1 g_w4)
      have mA_0 := mA.c0; have mA_1 := mA.c1; have mA_2 := mA.c2; have mA_l := mA.lt; have mA_f := mA.fz
      replace HG : Grows w w4 := by exact bel2 g_w4 HG
      have h_w4 := Below.size HG
      cases DF
      · obtain rfl : RES = none := by rw [HR1.out]; simp
        go_wp2_with fail
        go_ret2
        exact ⟨_, rfl, OwnQ.new_ _ (by simp) (by omega), by exact bel1 HG⟩
      · by_cases hkc : (k : Int) = c
        · have hkc' : ((k : Int) != c) = false := by simp [hkc]
          have HR2 := Lib.hid (show RES = _ from HR1.out.trans (by rw [decide_eq_true hkc]))
          have HKC := Lib.hid hkc
          clear hkc
          go_wp2_with fail
          refine (CD'.out _ _ _ (by exact Rd.grows hr2 (by exact bel0))).mono ?_; rintro e w5 ⟨rfl, g_w5⟩
          have s_w5 := Below.size g_w5; (try simp at s_w5)
          clear mg_0 mg_1 mg_2 mg_l mg_f
          replace mg := mg.grows (w' := w5) (by exact bel1 g_w5)
          have mg_0 := mg.c0; have mg_1 := mg.c1; have mg_2 := mg.c2; have mg_l := mg.lt; have mg_f := mg.fz
          replace ha1 := ha1.grows (w' := w5) (by exact bel1 g_w5)
          replace ht1 := ht1.grows (w' := w5) (by exact bel1 g_w5)
          replace hr2 := hr2.grows (w' := w5) (by exact bel1 g_w5)
          clear mG_0 mG_1 mG_2 mG_l mG_f
          replace mG := mG.grows (w' := w5) (by exact bel1 g_w5)
          have mG_0 := mG.c0; have mG_1 := mG.c1; have mG_2 := mG.c2; have mG_l := mG.lt; have mG_f := mG.fz
          replace hr3 := hr3.grows (w' := w5) (by exact bel1 g_w5)
          clear mA_0 mA_1 mA_2 mA_l mA_f
          replace mA := mA.grows (w' := w5) (by exact bel1 g_w5)
          have mA_0 := mA.c0; have mA_1 := mA.c1; have mA_2 := mA.c2; have mA_l := mA.lt; have mA_f := mA.fz
          replace HG : Grows w w5 := by exact bel2 g_w5 HG
          have h_w5 := Below.size HG
          go_wp2_with fail
          refine (CT'.out _ (by exact Rd.grows ha1 (by exact bel0)) (by exact Rd.grows ht1 (by exact bel0))).mono ?_; rintro e w6 ⟨v6, rfl, o6, g_w6⟩
          have s_w6 := Below.size g_w6; (try simp at s_w6)
          clear mg_0 mg_1 mg_2 mg_l mg_f
          replace mg := mg.grows (w' := w6) (by exact bel1 g_w6)
          have mg_0 := mg.c0; have mg_1 := mg.c1; have mg_2 := mg.c2; have mg_l := mg.lt; have mg_f := mg.fz
          replace ha1 := ha1.grows (w' := w6) (by exact bel1 g_w6)
          replace ht1 := ht1.grows (w' := w6) (by exact bel1 g_w6)
          replace hr2 := hr2.grows (w' := w6) (by exact bel1 g_w6)
          clear mG_0 mG_1 mG_2 mG_l mG_f
          replace mG := mG.grows (w' := w6) (by exact bel1 g_w6)
          have mG_0 := mG.c0; have mG_1 := mG.c1; have mG_2 := mG.c2; have mG_l := mG.lt; have mG_f := mG.fz
          replace hr3 := hr3.grows (w' := w6) (by exact bel1 g_w6)
          clear mA_0 mA_1 mA_2 mA_l mA_f
          replace mA := mA.grows (w' := w6) (by exact bel1 g_w6)
          have mA_0 := mA.c0; have mA_1 := mA.c1; have mA_2 := mA.c2; have mA_l := mA.lt; have mA_f := mA.fz
          replace HG : Grows w w6 := by exact bel2 g_w6 HG
          have h_w6 := Below.size HG
          obtain ⟨A6, c6, rfl, hr6, _⟩ := o6.val
          cases PO with
          | none =>
            obtain rfl : RES = none := HR2.out
            go_wp2_with fail
            go_ret2
            exact ⟨_, rfl, OwnQ.new_ _ (by simp) (by omega), by exact bel1 HG⟩
          | some p =>
            obtain ⟨hpl, hpc⟩ := HML.out p rfl
            have HR3 := Lib.hid (show RES = (mulO (oM AO) p).map fun q => qsP D q.l q.l.length from HR2.out)
            have CQ := fun W A cp Tt ct h1 h2 => CT2'.out W A cp Tt p.l p.l.length ct h1 rfl h2 (by omega)
            rw [hpc] at CQ
            change ∀ W A cp Tt ct, Rd W A (oM AO).l → Rd W Tt p.l → Calls Try.prog 91 #[.agg #[.int .i64 (oM AO).r, .int .i64 (oM AO).c, .slice A (oM AO).l.length cp], .slice Tt p.l.length ct] W (fun e w' => ∃ v, e = .returned (.tuple #[v, .bool ((mulO (oM AO) p).map fun m => m.l).isSome]) ∧ Own w' W.heap.size v (oL ((mulO (oM AO) p).map fun m => m.l)) ∧ Grows W w') at CQ
            have hql : (oL ((mulO (oM AO) p).map fun m => m.l)).length ≤ 576 := by
              cases hq : mulO (oM AO) p with
              | none => simp [oL]
              | some q => exact oM_length (o := some q) fun m h2 => by cases h2; exact mulO_ok hq
            have hLR : oLQ RES = qsP D (oL ((mulO (oM AO) p).map fun m => m.l)) (oL ((mulO (oM AO) p).map fun m => m.l)).length ∧ RES.isSome = ((mulO (oM AO) p).map fun m => m.l).isSome := by
              rw [HR3.out]; cases mulO (oM AO) p <;> exact ⟨rfl, rfl⟩
            have hr6' : Rd w6 A6 p.l := hr6
            generalize oL ((mulO (oM AO) p).map fun m => m.l) = L at *
            generalize ((mulO (oM AO) p).map fun m => m.l).isSome = OK at *
            have HLR := Lib.hid hLR
            have CQ' := Lib.hid CQ
            clear CQ hLR hpc HR3 HR2 HR1 HR
            go_wp2_with fail
            refine (CQ'.out _ _ _ _ _ (by exact Rd.grows hr3 (by exact bel0)) (by exact Rd.grows hr6' (by exact bel0))).mono ?_; rintro e w7 ⟨v7, rfl, o7, g_w7⟩
            have s_w7 := Below.size g_w7; (try simp at s_w7)
            clear mg_0 mg_1 mg_2 mg_l mg_f
            replace mg := mg.grows (w' := w7) (by exact bel1 g_w7)
            have mg_0 := mg.c0; have mg_1 := mg.c1; have mg_2 := mg.c2; have mg_l := mg.lt; have mg_f := mg.fz
            replace ha1 := ha1.grows (w' := w7) (by exact bel1 g_w7)
            replace ht1 := ht1.grows (w' := w7) (by exact bel1 g_w7)
            replace hr2 := hr2.grows (w' := w7) (by exact bel1 g_w7)
            clear mG_0 mG_1 mG_2 mG_l mG_f
            replace mG := mG.grows (w' := w7) (by exact bel1 g_w7)
            have mG_0 := mG.c0; have mG_1 := mG.c1; have mG_2 := mG.c2; have mG_l := mG.lt; have mG_f := mG.fz
            replace hr3 := hr3.grows (w' := w7) (by exact bel1 g_w7)
            clear mA_0 mA_1 mA_2 mA_l mA_f
            replace mA := mA.grows (w' := w7) (by exact bel1 g_w7)
            have mA_0 := mA.c0; have mA_1 := mA.c1; have mA_2 := mA.c2; have mA_l := mA.lt; have mA_f := mA.fz
            replace hr6' := hr6'.grows (w' := w7) (by exact bel1 g_w7)
            replace HG : Grows w w7 := by exact bel2 g_w7 HG
            have h_w7 := Below.size HG
            obtain ⟨A7, c7, rfl, hr7, _⟩ := o7.val
            clear o2 o3 o6 o7
            clear mg_0 mg_1 mg_2 mg_l mg_f
            clear mG_0 mG_1 mG_2 mG_l mG_f
            clear mA_0 mA_1 mA_2 mA_l mA_f
            go_wp2_with fail
            go_loopw [16, 17] (fun o i wr => ∃ (I : Nat), i = .int .i64 I ∧ I ≤ L.length ∧ OwnQ wr w7.heap.size o (qsP D L I) ∧ Grows w7 wr) (fun _ i _ => L.length - (intOf i).toNat)
            case atStart => exact ⟨0, rfl, Nat.zero_le _, OwnQ.new_ _ rfl (Nat.le_refl _), by exact bel0⟩
            case round =>
              obtain ⟨I, rfl, hI, ho, hg⟩ := hrel
              obtain ⟨A4, c4, rfl, _, _⟩ := ho.val
              have hsl := qsP_length D L I
              have hsw := Below.size hg
              by_cases hlt : I < L.length
              · have hd := hr7.grows hg
                obtain ⟨ab, off, rfl, hbs, hcell⟩ := hd.at_ I hlt
                have i1 : (I : Int) < (L.length : Int) := by omega
                have CM := Lib.hid fun W => sMake_c (nth L I) D W
                have HNX := Lib.hid (show qsP D L (I + 1) = qsP D L I ++ [makeQ (nth L I) D] from rfl)
                generalize makeQ (nth L I) D = z at *
                generalize nth L I = x at *
                have HSL := Lib.hid hsl
                clear hsl
                go_wp2_with fail
                refine (CM.out _).mono ?_; rintro e w8 ⟨rfl, g8⟩
                have ho8 := ho.grows g8
                have hs8 := Below.size (show Grows w7 w8 by exact bel2 g8 hg)
                go_wp2_with (at_builtin; refine wpList_appQ1 rfl (.tmp 74) (.tmp 81) rfl _ z w7.heap.size _ (qsP D L I) (by rfl) ho8 (by rfl) (by have := HSL.out; omega) (by omega) ?_; intro v9 w9 ho9 hg9 hv9)
                have hb9 := below_appR ho8 (by omega) hg9
                clear hg9
                go_wp2_with fail
                go_round
                case rel => exact ⟨I + 1, by go_num, by omega, by rw [HNX.out]; exact ho9, Below.trans (show Grows w7 w8 by exact bel2 g8 hg) hb9⟩
                case measure => simp [intOf]; omega
              · obtain rfl : I = L.length := by omega
                go_wp2_with fail
                go_ret2
                have ho' := ho.less (B' := w.heap.size) (by omega)
                exact ⟨_, by rw [HLR.out.2]; rfl, by rw [HLR.out.1]; exact ho', by exact bel2 hg HG⟩
        · have hkc' : ((k : Int) != c) = true := by simpa using hkc
          obtain rfl : RES = none := by rw [HR1.out, decide_eq_false hkc]; simp
          clear hkc
          go_wp2_with fail
          go_ret2
          exact ⟨_, rfl, OwnQ.new_ _ (by simp) (by omega), by exact bel1 HG⟩
set_option maxRecDepth 100000 in
theorem iPrj_c (r c : Int) (A T : Option Addr) (b t : List Int) (n cap k ct : Nat) (w : World) (hn : b.length = n) (ha : Rd w A b) (hl : n ≤ 1099511627776) (hk : t.length = k) (ht : Rd w T t) (hl2 : k ≤ 1099511627776) :
    Calls Try.prog 35 #[.agg #[.int .i64 r, .int .i64 c, .slice A n cap], .slice T k ct] w (LQRet (prjO ⟨r, c, b⟩ t) w) := by
  have CG := fun W h => (iGm_m r c A b n cap W hn h hl).mono fun _ _ h => matRet_out h
  have CO := Lib.hid fun W h => columnOf_c T t k ct W hk h hl2
  have CM := fun W B cb h h' => (iMul_m r c k 1 A B b t n k cap cb W hn hk h h' hl hl2).mono fun _ _ h => matRet_out h
  rw [show (⟨(k : Int), 1, t⟩ : MX) = colM t by unfold colM; rw [hk]] at CM
  have hgl := gmO_length ⟨r, c, b⟩
  obtain ⟨w1, hw1⟩ : ∃ w1, w1 = w.alloc (.cells #[.int .i64 r, .int .i64 c, .slice A n cap] 26) := ⟨_, rfl⟩
  have mg : MBox w1 w.heap.size r c (.slice A n cap) := by rw [hw1]; exact MBox.mk_ _ _ _ _ _
  have HG : Grows w w1 := by rw [hw1]; exact bel0
  have ha1 := ha.grows HG
  have ht1 := ht.grows HG
  have h_w1 := Below.size HG
  have HW1 := Lib.hid hw1
  obtain ⟨RES, hRES⟩ : ∃ x, x = prjO ⟨r, c, b⟩ t := ⟨_, rfl⟩
  rw [← hRES]
  unfold prjO at hRES
  rw [hk] at hRES
  simp only at hRES
  have hml := fun p (h : mulO ⟨r, c, b⟩ (colM t) = some p) => (show p.l.length ≤ 576 from oM_length (o := some p) fun m h2 => by cases h2; exact mulO_ok h)
  generalize gmO ⟨r, c, b⟩ = GO at *
  have CA := fun W A cp h => (iAdj_c (oM GO).r (oM GO).c A (oM GO).l (oM GO).l.length cp W rfl h (by omega)).mono fun _ _ h => matRet_out h
  have CF := fun W A cp h1 h2 h => iIsDef_c (oM GO).r (oM GO).c A (oM GO).l (oM GO).l.length cp W rfl h1 h2 h (by omega)
  have CD := fun W A cp h => iDt_c (oM GO).r (oM GO).c A (oM GO).l (oM GO).l.length cp W rfl h (by omega)
  have hal : (oM (adjO (oM GO))).l.length ≤ 576 := oM_length fun m h => adjO_ok h
  have CQ := fun W A cp (p : MX) B cb h h' (hp : p.l.length ≤ 576) => (iMul_m (oM (adjO (oM GO))).r (oM (adjO (oM GO))).c p.r p.c A B (oM (adjO (oM GO))).l p.l (oM (adjO (oM GO))).l.length p.l.length cp cb W rfl rfl h h' (by omega) (by omega)).mono fun _ _ h => matRet_out h
  change ∀ W A cp, Rd W A (oM GO).l → Calls Try.prog 77 #[.agg #[.int .i64 (oM GO).r, .int .i64 (oM GO).c, .slice A (oM GO).l.length cp]] W (fun e w' => ∃ v, e = .returned (.tuple #[.agg #[.int .i64 (oM (adjO (oM GO))).r, .int .i64 (oM (adjO (oM GO))).c, v], .bool (adjO (oM GO)).isSome]) ∧ Own w' W.heap.size v (oM (adjO (oM GO))).l ∧ Grows W w') at CA
  change ∀ W A cp (p : MX) B cb, Rd W A (oM (adjO (oM GO))).l → Rd W B p.l → p.l.length ≤ 576 → Calls Try.prog 25 #[.agg #[.int .i64 (oM (adjO (oM GO))).r, .int .i64 (oM (adjO (oM GO))).c, .slice A (oM (adjO (oM GO))).l.length cp], .agg #[.int .i64 p.r, .int .i64 p.c, .slice B p.l.length cb]] W (fun e w' => ∃ v, e = .returned (.tuple #[.agg #[.int .i64 (oM (mulO (oM (adjO (oM GO))) p)).r, .int .i64 (oM (mulO (oM (adjO (oM GO))) p)).c, v], .bool (mulO (oM (adjO (oM GO))) p).isSome]) ∧ Own w' W.heap.size v (oM (mulO (oM (adjO (oM GO))) p)).l ∧ Grows W w') at CQ
  generalize adjO (oM GO) = AO at *
  generalize isDef (oM GO).r (oM GO).c (oM GO).l = DF at *
  change ∀ W A cp, Rd W A (oM GO).l → Calls Try.prog 80 #[.agg #[.int .i64 (oM GO).r, .int .i64 (oM GO).c, .slice A (oM GO).l.length cp]] W (fun e w' => e = .returned (.tuple #[.int .i64 ((dtO (oM GO)).getD 0), .bool (dtO (oM GO)).isSome]) ∧ Grows W w') at CD
  generalize (dtO (oM GO)).getD 0 = D at *
  generalize (dtO (oM GO)).isSome = DK at *
  generalize mulO ⟨r, c, b⟩ (colM t) = PO at *
  have HR := Lib.hid hRES
  have CG' := Lib.hid CG
  have CM' := Lib.hid CM
  have CA' := Lib.hid CA
  have CF' := Lib.hid CF
  have CD' := Lib.hid CD
  have CQ' := Lib.hid CQ
  have HML := Lib.hid hml
  have HT := Lib.hid hk
  clear hw1 hRES CG CM CA CF CD CQ hn hk hml
  go_enter Try.func35, Try.ntmps35
  go_wp2_with fail
  rw [← HW1.out]
  have mg_0 := mg.c0; have mg_1 := mg.c1; have mg_2 := mg.c2; have mg_l := mg.lt; have mg_f := mg.fz
  refine (CG'.out _ (by exact Rd.grows ha1 (by exact bel0))).mono ?_; rintro e w2 ⟨v2, rfl, o2, g_w2⟩
  have s_w2 := Below.size g_w2; (try simp at s_w2)
  clear mg_0 mg_1 mg_2 mg_l mg_f
  replace mg := mg.grows (w' := w2) (by exact bel1 g_w2)
  have mg_0 := mg.c0; have mg_1 := mg.c1; have mg_2 := mg.c2; have mg_l := mg.lt; have mg_f := mg.fz
  replace ha1 := ha1.grows (w' := w2) (by exact bel1 g_w2)
  replace ht1 := ht1.grows (w' := w2) (by exact bel1 g_w2)
  replace HG : Grows w w2 := by exact bel2 g_w2 HG
  have h_w2 := Below.size HG
  obtain ⟨A2, c2, rfl, hr2, _⟩ := o2.val
  have hcp2 := o2.caps
  cases hgo : GO.isSome
  · obtain rfl : RES = none := by rw [HR.out, hgo]; simp
    clear hgo
    go_wp2_with fail
    go_ret2
    exact ⟨_, rfl, OwnQ.new_ _ (by simp) (by first | omega | (simp; omega)), by exact bel1 HG⟩
  · by_cases hkc : (k : Int) = c
    · have hkc' : ((k : Int) != c) = false := by simp [hkc]
      have HR1 := Lib.hid (HR.out.trans (by rw [hgo, decide_eq_true hkc]))
      clear hgo hkc
      go_wp2_with fail
      refine (CA'.out _ _ _ (by exact Rd.grows hr2 (by exact bel0))).mono ?_; rintro e w3 ⟨v3, rfl, o3, g_w3⟩
      have s_w3 := Below.size g_w3; (try simp at s_w3)
      clear mg_0 mg_1 mg_2 mg_l mg_f
      replace mg := mg.grows (w' := w3) (by exact bel1 g_w3)
      have mg_0 := mg.c0; have mg_1 := mg.c1; have mg_2 := mg.c2; have mg_l := mg.lt; have mg_f := mg.fz
      replace ha1 := ha1.grows (w' := w3) (by exact bel1 g_w3)
      replace ht1 := ht1.grows (w' := w3) (by exact bel1 g_w3)
      replace hr2 := hr2.grows (w' := w3) (by exact bel1 g_w3)
      have mG : MBox w3 (w2.heap.size) (oM GO).r (oM GO).c (.slice A2 (oM GO).l.length c2) := MBox.grows (MBox.new_ w2 (oM GO).r (oM GO).c (.slice A2 (oM GO).l.length c2) 26 (by simp)) (w' := w3) (by exact bel1 g_w3)
      have mG_0 := mG.c0; have mG_1 := mG.c1; have mG_2 := mG.c2; have mG_l := mG.lt; have mG_f := mG.fz
      replace HG : Grows w w3 := by exact bel2 g_w3 HG
      have h_w3 := Below.size HG
      obtain ⟨A3, c3, rfl, hr3, _⟩ := o3.val
      cases hao : AO.isSome
      · obtain rfl : RES = none := by rw [HR1.out, hao]; simp
        clear hao
        go_wp2_with fail
        go_ret2
        exact ⟨_, rfl, OwnQ.new_ _ (by simp) (by first | omega | (simp; omega)), by exact bel1 HG⟩
      · have HR2 := Lib.hid (HR1.out.trans (by rw [hao]))
        clear hao
        go_wp2_with fail
        refine (CF'.out _ _ _ hcp2.2.1 hcp2.2.2 (by exact Rd.grows hr2 (by exact bel0))).mono ?_; rintro e w4 ⟨rfl, g_w4⟩
        have s_w4 := Below.size g_w4; (try simp at s_w4)
        clear mg_0 mg_1 mg_2 mg_l mg_f
        replace mg := mg.grows (w' := w4) (by exact bel1 g_w4)
        have mg_0 := mg.c0; have mg_1 := mg.c1; have mg_2 := mg.c2; have mg_l := mg.lt; have mg_f := mg.fz
        replace ha1 := ha1.grows (w' := w4) (by exact bel1 g_w4)
        replace ht1 := ht1.grows (w' := w4) (by exact bel1 g_w4)
        replace hr2 := hr2.grows (w' := w4) (by exact bel1 g_w4)
        clear mG_0 mG_1 mG_2 mG_l mG_f
        replace mG := mG.grows (w' := w4) (by exact bel1 g_w4)
        have mG_0 := mG.c0; have mG_1 := mG.c1; have mG_2 := mG.c2; have mG_l := mG.lt; have mG_f := mG.fz
        replace hr3 := hr3.grows (w' := w4) (by exact bel1 g_w4)
        have mA : MBox w4 (w3.heap.size) (oM AO).r (oM AO).c (.slice A3 (oM AO).l.length c3) := MBox.grows (MBox.new_ w3 (oM AO).r (oM AO).c (.slice A3 (oM AO).l.length c3) 26 (by simp)) (w' := w4) (by exact bel1 g_w4)
        have mA_0 := mA.c0; have mA_1 := mA.c1; have mA_2 := mA.c2; have mA_l := mA.lt; have mA_f := mA.fz
        replace HG : Grows w w4 := by exact bel2 g_w4 HG
        have h_w4 := Below.size HG
        cases DF
        · obtain rfl : RES = none := by rw [HR2.out]; simp
          go_wp2_with fail
          go_ret2
          exact ⟨_, rfl, OwnQ.new_ _ (by simp) (by first | omega | (simp; omega)), by exact bel1 HG⟩
        · have HR3 := Lib.hid (show RES = PO.bind fun p => (mulO (oM AO) p).map fun q => qsP D q.l q.l.length from HR2.out)
          clear o2 o3
          go_wp2_with fail
          go_upto_region 7 with fail
          go_cut [10, 11] (fun s10 s11 wx => ∃ (g : Nat) (A7 : Option Addr) (c7 : Nat), s10 = .pointer (some ⟨g, 0, none⟩) ∧ s11 = .bool PO.isSome ∧ Own wx w4.heap.size (.slice A7 (oM PO).l.length c7) (oM PO).l ∧ Grows w4 wx ∧ MBox wx g (oM PO).r (oM PO).c (.slice A7 (oM PO).l.length c7))
          case first =>
            go_region_held3 (fun W => W.cell? ⟨w.heap.size, 0, none⟩ = some (.int .i64 r) ∧ W.cell? ⟨w.heap.size, 1, none⟩ = some (.int .i64 c) ∧ W.cell? ⟨w.heap.size, 2, none⟩ = some (.slice A n cap)) ((refine MBox.cells (mg.grows ?_); first | exact bel2 g7 g6 | exact bel1 g6 | exact bel0))
              (first
               | (go_at_call 79; refine (CO.out _ (by exact Rd.grows ht1 (by exact bel0))).mono ?_; rintro e w6 ⟨v6, rfl, o6, g6⟩; obtain ⟨A6, c6, rfl, hr6, _⟩ := o6.val; rw [HT.out]; have z6 := Below.size g6; (try simp at z6); (try (have q := (MBox.mk_ w4 0 0 (.slice none 0 0) 26).grows (w' := w6) (Grows.trans (show Grows _ _ from (Below.refl _ _).drew) g6))))
               | (go_at_call 25; refine (CM'.out _ _ _ (by exact (Rd.grows ha1 (by exact bel1 g6))) (by exact (Rd.grows hr6 (by exact bel0)))).mono ?_; rintro e w7 ⟨v7, rfl, o7, g7⟩; obtain ⟨A7, c7, rfl, _, _⟩ := o7.val; have z7 := Below.size g7; (try simp at z7); (first | (replace q := q.grows g7) | (have q := MBox.grows (MBox.mk_ w6 0 0 (.slice none 0 0) 26) g7) | skip); (try (obtain ⟨q0, q1, q2⟩ := q.cells; have qf := q.fz; have ql := q.lt))))
            all_goals
              go_wp2_with fail
              go_meet
              exact ⟨_, _, _, rfl, rfl, by (have hb_ := fun k hk => World.ownsRow.lt o7 k hk; have ho_ := Own.less o7 (show w4.heap.size ≤ _ by first | omega | (simp; done) | (simp; omega)); (repeat' (first | with_reducible exact ho_ | with_reducible refine Own.alloc ?_ _ | with_reducible refine Own.drew ?_ | with_reducible refine Own.far ?_ ?_ _)); all_goals first | (intro k hk; have := hb_ k hk; (try simp at this); (try simp); omega) | omega | (simp; done) | (simp; omega)), by exact bel2 g7 g6, by first | exact MBox.put q _ _ _ | exact MBox.mk_ _ _ _ _ _ | exact MBox.put (MBox.mk_ _ _ _ _ _) _ _ _⟩
          case rest =>
            obtain ⟨g, A7, c7, rfl, rfl, o7, g_wc, mP⟩ := hcut
            have hr7 := o7.rd'
            have s_wc := Below.size g_wc; (try simp at s_wc)
            clear mg_0 mg_1 mg_2 mg_l mg_f
            replace mg := mg.grows (w' := wc) (by exact bel1 g_wc)
            have mg_0 := mg.c0; have mg_1 := mg.c1; have mg_2 := mg.c2; have mg_l := mg.lt; have mg_f := mg.fz
            replace ha1 := ha1.grows (w' := wc) (by exact bel1 g_wc)
            replace ht1 := ht1.grows (w' := wc) (by exact bel1 g_wc)
            replace hr2 := hr2.grows (w' := wc) (by exact bel1 g_wc)
            clear mG_0 mG_1 mG_2 mG_l mG_f
            replace mG := mG.grows (w' := wc) (by exact bel1 g_wc)
            have mG_0 := mG.c0; have mG_1 := mG.c1; have mG_2 := mG.c2; have mG_l := mG.lt; have mG_f := mG.fz
            replace hr3 := hr3.grows (w' := wc) (by exact bel1 g_wc)
            clear mA_0 mA_1 mA_2 mA_l mA_f
            replace mA := mA.grows (w' := wc) (by exact bel1 g_wc)
            have mA_0 := mA.c0; have mA_1 := mA.c1; have mA_2 := mA.c2; have mA_l := mA.lt; have mA_f := mA.fz
            replace HG : Grows w wc := by exact bel2 g_wc HG
            have h_wc := Below.size HG
            have mP_0 := mP.c0; have mP_1 := mP.c1; have mP_2 := mP.c2; have mP_l := mP.lt; have mP_f := mP.fz
            cases PO with
            | none =>
              obtain rfl : RES = none := HR3.out
              go_wp2_with fail
              go_ret2
              exact ⟨_, rfl, OwnQ.new_ _ (by simp) (by first | omega | (simp; omega)), by exact bel1 HG⟩
            | some p =>
              have hpl := HML.out p rfl
              have HR4 := Lib.hid (show RES = (mulO (oM AO) p).map fun q => qsP D q.l q.l.length from HR3.out)
              have C7 := fun W A cp B cb h h' => CQ'.out W A cp p B cb h h' hpl
              have hql : ∀ q, mulO (oM AO) p = some q → q.l.length ≤ 576 := fun q hq => oM_length (o := some q) fun m h2 => by cases h2; exact mulO_ok hq
              have hr7' : Rd wc A7 p.l := hr7
              clear o7
              generalize mulO (oM AO) p = QO at *
              have C7' := Lib.hid C7
              have HQL := Lib.hid hql
              clear C7 hql
              simp only [oM_some] at mP mP_0 mP_1 mP_2 ⊢
              go_wp2_with fail
              refine (C7'.out _ _ _ _ _ (by exact Rd.grows hr3 (by exact bel0)) (by exact Rd.grows hr7' (by exact bel0))).mono ?_; rintro e w8 ⟨v8, rfl, o8, g_w8⟩
              have s_w8 := Below.size g_w8; (try simp at s_w8)
              clear mg_0 mg_1 mg_2 mg_l mg_f
              replace mg := mg.grows (w' := w8) (by exact bel1 g_w8)
              have mg_0 := mg.c0; have mg_1 := mg.c1; have mg_2 := mg.c2; have mg_l := mg.lt; have mg_f := mg.fz
              replace ha1 := ha1.grows (w' := w8) (by exact bel1 g_w8)
              replace ht1 := ht1.grows (w' := w8) (by exact bel1 g_w8)
              replace hr2 := hr2.grows (w' := w8) (by exact bel1 g_w8)
              clear mG_0 mG_1 mG_2 mG_l mG_f
              replace mG := mG.grows (w' := w8) (by exact bel1 g_w8)
              have mG_0 := mG.c0; have mG_1 := mG.c1; have mG_2 := mG.c2; have mG_l := mG.lt; have mG_f := mG.fz
              replace hr3 := hr3.grows (w' := w8) (by exact bel1 g_w8)
              clear mA_0 mA_1 mA_2 mA_l mA_f
              replace mA := mA.grows (w' := w8) (by exact bel1 g_w8)
              have mA_0 := mA.c0; have mA_1 := mA.c1; have mA_2 := mA.c2; have mA_l := mA.lt; have mA_f := mA.fz
              clear mP_0 mP_1 mP_2 mP_l mP_f
              replace mP := mP.grows (w' := w8) (by exact bel1 g_w8)
              have mP_0 := mP.c0; have mP_1 := mP.c1; have mP_2 := mP.c2; have mP_l := mP.lt; have mP_f := mP.fz
              replace hr7' := hr7'.grows (w' := w8) (by exact bel1 g_w8)
              replace HG : Grows w w8 := by exact bel2 g_w8 HG
              have h_w8 := Below.size HG
              obtain ⟨A8, c8, rfl, hr8, _⟩ := o8.val
              cases QO with
              | none =>
                obtain rfl : RES = none := HR4.out
                go_wp2_with fail
                go_ret2
                exact ⟨_, rfl, OwnQ.new_ _ (by simp) (by first | omega | (simp; omega)), by exact bel1 HG⟩
              | some q =>
                obtain rfl : RES = some (qsP D q.l q.l.length) := HR4.out
                have hqb := HQL.out q rfl
                have hr8' : Rd w8 A8 q.l := hr8
                clear o8
                simp only [oM_some]
                go_wp2_with fail
                refine (CD'.out _ _ _ (by exact Rd.grows hr2 (by exact bel0))).mono ?_; rintro e w9 ⟨rfl, g_w9⟩
                have s_w9 := Below.size g_w9; (try simp at s_w9)
                clear mg_0 mg_1 mg_2 mg_l mg_f
                replace mg := mg.grows (w' := w9) (by exact bel1 g_w9)
                have mg_0 := mg.c0; have mg_1 := mg.c1; have mg_2 := mg.c2; have mg_l := mg.lt; have mg_f := mg.fz
                replace ha1 := ha1.grows (w' := w9) (by exact bel1 g_w9)
                replace ht1 := ht1.grows (w' := w9) (by exact bel1 g_w9)
                replace hr2 := hr2.grows (w' := w9) (by exact bel1 g_w9)
                clear mG_0 mG_1 mG_2 mG_l mG_f
                replace mG := mG.grows (w' := w9) (by exact bel1 g_w9)
                have mG_0 := mG.c0; have mG_1 := mG.c1; have mG_2 := mG.c2; have mG_l := mG.lt; have mG_f := mG.fz
                replace hr3 := hr3.grows (w' := w9) (by exact bel1 g_w9)
                clear mA_0 mA_1 mA_2 mA_l mA_f
                replace mA := mA.grows (w' := w9) (by exact bel1 g_w9)
                have mA_0 := mA.c0; have mA_1 := mA.c1; have mA_2 := mA.c2; have mA_l := mA.lt; have mA_f := mA.fz
                clear mP_0 mP_1 mP_2 mP_l mP_f
                replace mP := mP.grows (w' := w9) (by exact bel1 g_w9)
                have mP_0 := mP.c0; have mP_1 := mP.c1; have mP_2 := mP.c2; have mP_l := mP.lt; have mP_f := mP.fz
                replace hr7' := hr7'.grows (w' := w9) (by exact bel1 g_w9)
                replace hr8' := hr8'.grows (w' := w9) (by exact bel1 g_w9)
                have mQ : MBox w9 (w8.heap.size) q.r q.c (.slice A8 q.l.length c8) := MBox.grows (MBox.new_ w8 q.r q.c (.slice A8 q.l.length c8) 26 (by simp)) (w' := w9) (by exact bel1 g_w9)
                have mQ_0 := mQ.c0; have mQ_1 := mQ.c1; have mQ_2 := mQ.c2; have mQ_l := mQ.lt; have mQ_f := mQ.fz
                replace HG : Grows w w9 := by exact bel2 g_w9 HG
                have h_w9 := Below.size HG
                clear mg_0 mg_1 mg_2 mg_l mg_f
                clear mG_0 mG_1 mG_2 mG_l mG_f
                clear mA_0 mA_1 mA_2 mA_l mA_f
                clear mP_0 mP_1 mP_2 mP_l mP_f
                generalize q.l = L at *
                go_wp2_with fail
                go_loopw [16, 75] (fun o i wr => ∃ (I : Nat), i = .int .i64 I ∧ I ≤ L.length ∧ OwnQ wr w9.heap.size o (qsP D L I) ∧ Grows w9 wr) (fun _ i _ => L.length - (intOf i).toNat)
                case atStart => exact ⟨0, rfl, Nat.zero_le _, OwnQ.new_ _ rfl (Nat.le_refl _), by exact bel0⟩
                case round =>
                  obtain ⟨I, rfl, hI, ho, hg⟩ := hrel
                  obtain ⟨A4, c4, rfl, _, _⟩ := ho.val
                  have hsl := qsP_length D L I
                  have hsw := Below.size hg
                  by_cases hlt : I < L.length
                  · have hd := hr8'.grows hg
                    obtain ⟨ab, off, rfl, hbs, hcell⟩ := hd.at_ I hlt
                    have i1 : (I : Int) < (L.length : Int) := by omega
                    have CK := Lib.hid fun W => iMake_c (nth L I) D W
                    have HNX := Lib.hid (show qsP D L (I + 1) = qsP D L I ++ [makeQ (nth L I) D] from rfl)
                    generalize makeQ (nth L I) D = z at *
                    generalize nth L I = x at *
                    have HSL := Lib.hid hsl
                    clear hsl
                    go_wp2_with fail
                    refine (CK.out _).mono ?_; rintro e wa ⟨rfl, ga⟩
                    have hoa := ho.grows ga
                    have hsa := Below.size (show Grows w9 wa by exact bel2 ga hg)
                    go_wp2_with (at_builtin; refine wpList_appQ1 rfl (.tmp 79) (.tmp 83) rfl _ z w9.heap.size _ (qsP D L I) (by rfl) hoa (by rfl) (by have := HSL.out; omega) (by omega) ?_; intro vb wb hob hgb hvb)
                    have hbb := below_appR hoa (by omega) hgb
                    clear hgb
                    go_wp2_with fail
                    go_round
                    case rel => exact ⟨I + 1, by go_num, by omega, by rw [HNX.out]; exact hob, Below.trans (show Grows w9 wa by exact bel2 ga hg) hbb⟩
                    case measure => simp [intOf]; omega
                  · obtain rfl : I = L.length := by omega
                    go_wp2_with fail
                    go_ret2
                    have ho' := ho.less (B' := w.heap.size) (by omega)
                    exact ⟨_, rfl, ho', by exact bel2 hg HG⟩
    · have hkc' : ((k : Int) != c) = true := by simpa using hkc
      obtain rfl : RES = none := by rw [HR.out, decide_eq_false hkc]; simp
      clear hkc hgo
      go_wp2_with fail
      go_ret2
      exact ⟨_, rfl, OwnQ.new_ _ (by simp) (by first | omega | (simp; omega)), by exact bel1 HG⟩
end
end Go.Proofs.Ythajmffhgbenpaa

/- Contracts: ValueAt. -/
namespace Go.Proofs.Ythajmffhgbenpaa
set_option linter.unusedSimpArgs false
set_option linter.unusedVariables false
open Go.RowKit

section
set_option maxHeartbeats 1000000
def ifN (b : Bool) (x : Int) : Int := if b then x else 0


def vP (r c : Int) (g x : List Int) : List Int := mulV 1 x.length x r c g
def vR (r c : Int) (g x : List Int) : Int := mulR 1 x.length x r c g
def vC (r c : Int) (g x : List Int) : Int := mulC 1 x.length x r c g
def vQ (r c : Int) (g x : List Int) : List Int := mulV (vR r c g x) (vC r c g x) (vP r c g x) x.length 1 x
def vOk (r c : Int) (g x : List Int) : Bool := isGram r c g && ((x.length : Int) == r) && mulOk 1 x.length x r c g && mulOk (vR r c g x) (vC r c g x) (vP r c g x) x.length 1 x
def vVal (r c : Int) (g x : List Int) : Int := ifN (vOk r c g x) (nth (vQ r c g x) 0)
theorem vQ_pos {r c : Int} {g x : List Int} (h : vOk r c g x = true) : 0 < (vQ r c g x).length := by
  unfold vOk at h
  rw [Bool.and_eq_true, Bool.and_eq_true] at h
  have h1 : vR r c g x = 1 := by unfold vR mulR; rw [h.1.2]; rfl
  unfold vQ mulV
  rw [h.2, if_pos rfl, mulL_length, h1]
  simp
end
end Go.Proofs.Ythajmffhgbenpaa

/- Plain: the value of a vector is the form's. -/
namespace Go.Proofs.Ythajmffhgbenpaa
set_option linter.unusedSimpArgs false
set_option linter.unusedVariables false
open Go.RowKit

theorem dotTo_sum (a b : List Int) (K C i j n : Nat) : dotTo a b K C i j n = sumN n fun t => nth a (i * K + t) * nth b (t * C + j) := by
  induction n with
  | zero => rfl
  | succ n ih => rw [dotTo, sumN, ih]
theorem vOk_parts {r c : Int} {g x : List Int} (h : vOk r c g x = true) : isGram r c g = true ∧ (x.length : Int) = r ∧ mulOk 1 x.length x r c g = true ∧ mulOk (vR r c g x) (vC r c g x) (vP r c g x) x.length 1 x = true := by
  unfold vOk at h
  simp only [Bool.and_eq_true, beq_iff_eq] at h
  exact ⟨h.1.1.1, h.1.1.2, h.1.2, h.2⟩
theorem vVal_qf {R : Nat} {g x : List Int} (h : vOk R R g x = true) : vVal R R g x = qf R (fnOf R g) (nth x) := by
  obtain ⟨_, hx, h1, h2⟩ := vOk_parts h
  have hx' : x.length = R := by omega
  have e1 : vR R R g x = 1 := by unfold vR mulR; rw [h1]; rfl
  have e2 : vC R R g x = R := by unfold vC mulC; rw [h1]; rfl
  have e3 : vP R R g x = mulL 1 R R x g := by unfold vP mulV; rw [h1, if_pos rfl, hx']; simp
  have e4 : vQ R R g x = mulL 1 R 1 (mulL 1 R R x g) x := by unfold vQ mulV; rw [h2, if_pos rfl, e1, e2, e3]; simp
  unfold vVal ifN
  rw [h, if_pos rfl, e4]
  have t1 : nth (mulL 1 R 1 (mulL 1 R R x g) x) 0 = dotTo (mulL 1 R R x g) x R 1 0 0 R := by
    have := tab_nth (R := 1) (C := 1) (i := 0) (j := 0) (fun i j => dotTo (mulL 1 R R x g) x R 1 i j R) (by omega) (by omega)
    simpa [mulL] using this
  rw [t1, dotTo_sum]
  unfold qf
  rw [sumN_swap]
  apply sumN_congr
  intro j hj
  have t2 : nth (mulL 1 R R x g) (0 * R + j) = dotTo x g R R 0 j R := tab_nth (fun i j => dotTo x g R R i j R) (by omega) hj
  rw [t2, dotTo_sum, Int.mul_comm, ← sumN_mul]
  apply sumN_congr
  intro i hi
  unfold fnOf
  rw [Nat.zero_mul, Nat.zero_add, Nat.mul_one, Nat.add_zero, Int.mul_comm]
end Go.Proofs.Ythajmffhgbenpaa

/- Contracts: BoxOf. -/
namespace Go.Proofs.Ythajmffhgbenpaa
set_option linter.unusedSimpArgs false
set_option linter.unusedVariables false
open Go.RowKit

/-! ### plain -/
def bxP (a : List Int) (R : Nat) (d b : Int) : Nat → Option (List Int)
  | 0 => some []
  | k + 1 => (bxP a R d b k).bind fun s => if isNum (b * nth a (k * R + k)) then some (s ++ [rootI ((b * nth a (k * R + k)).tdiv d)]) else none
theorem bxP_none {a : List Int} {R : Nat} {d b : Int} {j k : Nat} (h : bxP a R d b j = none) (hk : j ≤ k) : bxP a R d b k = none := by
  induction k with
  | zero => rw [show j = 0 by omega] at h; exact h
  | succ k ih =>
    by_cases e : j = k + 1
    · rw [← e]; exact h
    · rw [bxP, ih (by omega)]; rfl
theorem bxP_fail {a s : List Int} {R : Nat} {d b : Int} {k : Nat} (h : bxP a R d b k = some s) (hx : isNum (b * nth a (k * R + k)) = false) : bxP a R d b (k + 1) = none := by rw [bxP, h]; simp [hx]
theorem bxP_some {a s : List Int} {R : Nat} {d b : Int} {k : Nat} (h : bxP a R d b k = some s) (hx : isNum (b * nth a (k * R + k)) = true) : bxP a R d b (k + 1) = some (s ++ [rootI ((b * nth a (k * R + k)).tdiv d)]) := by rw [bxP, h]; simp [hx]
theorem bxP_length {a s : List Int} {R : Nat} {d b : Int} {k : Nat} (h : bxP a R d b k = some s) : s.length = k := by
  induction k generalizing s with
  | zero => cases h; rfl
  | succ k ih =>
    rw [bxP] at h
    obtain ⟨s', h1, h2⟩ := Option.bind_eq_some_iff.1 h
    split at h2
    · cases h2; simp [ih h1]
    · cases h2
/-- bounds for the cells of short vectors -/
def boxO (m : MX) (b : Int) : Option (List Int) := if (adjO m).isSome && (isDef m.r m.c m.l && inB b 0 10000) then bxP (oM (adjO m)).l m.r.toNat ((dtO m).getD 0) b m.r.toNat else none
theorem boxO_def {g : MX} {b : Int} {s : List Int} (h : boxO g b = some s) : isDef g.r g.c g.l = true := by
  unfold boxO at h
  split at h
  · rename_i hh
    simp only [Bool.and_eq_true] at hh
    exact hh.2.1
  · cases h
theorem boxO_bound {g : MX} {b : Int} {s : List Int} (h : boxO g b = some s) : 0 ≤ b ∧ b ≤ 10000 := by
  unfold boxO at h
  split at h
  · rename_i hh
    simp only [Bool.and_eq_true] at hh
    have := hh.2.2
    simp only [inB_iff] at this
    exact this
  · cases h
theorem boxO_length {m : MX} {b : Int} {s : List Int} (h : boxO m b = some s) : s.length ≤ 6 := by
  unfold boxO at h
  split at h
  · rename_i hh
    simp only [Bool.and_eq_true] at hh
    obtain ⟨_, R, e1, _, hR, _⟩ := isSq_nat (isDef_sq hh.2.1)
    rw [bxP_length h, e1]
    simpa using hR
  · cases h
theorem tdiv_bd {x d : Int} (hx : isNum x = true) (_hd : 0 < d) : -400000000 ≤ x.tdiv d ∧ x.tdiv d ≤ 400000000 := by
  have := (isNum_iff _).1 hx
  have h : (x.tdiv d).natAbs ≤ x.natAbs := by rw [Int.natAbs_tdiv]; exact Nat.div_le_self _ _
  omega

section
set_option maxHeartbeats 1000000
theorem iBox_c (r c b : Int) (A : Option Addr) (l : List Int) (n cap : Nat) (w : World) (hn : l.length = n) (hcap : n ≤ cap) (hcap2 : cap ≤ 9223372036854775807) (ha : Rd w A l) (hl : n ≤ 1099511627776) :
    Calls Try.prog 39 #[.agg #[.int .i64 r, .int .i64 c, .slice A n cap], .int .i64 b] w fun e w' => ∃ v, e = .returned (.tuple #[v, .bool (boxO ⟨r, c, l⟩ b).isSome]) ∧ Own w' w.heap.size v (oL (boxO ⟨r, c, l⟩ b)) ∧ Grows w w' := by
  have HA := Lib.hid fun W h => iAdj_c r c A l n cap W hn h hl
  have HD := Lib.hid fun W h => iDt_c r c A l n cap W hn h hl
  have HI := fun W h => iIsDef_c r c A l n cap W hn hcap hcap2 h hl
  obtain ⟨RES, hRES⟩ : ∃ x, x = boxO ⟨r, c, l⟩ b := ⟨_, rfl⟩
  rw [← hRES]
  unfold boxO at hRES
  simp only at hRES
  have hal : (oM (adjO ⟨r, c, l⟩)).l.length ≤ 576 := oM_length fun _ h => adjO_ok h
  have hsome : isDef r c l = true → ∃ d, dtO ⟨r, c, l⟩ = some d ∧ 0 < d := fun h => isDef_det h
  have hsq : isDef r c l = true → adjO ⟨r, c, l⟩ ≠ none → ∃ R : Nat, r = R ∧ R ≤ 6 ∧ (oM (adjO ⟨r, c, l⟩)).r = R ∧ (oM (adjO ⟨r, c, l⟩)).c = R ∧ (oM (adjO ⟨r, c, l⟩)).l.length = R * R ∧ ∀ i, i < (oM (adjO ⟨r, c, l⟩)).l.length → isNum (nth (oM (adjO ⟨r, c, l⟩)).l i) = true := fun h h2 => by
    obtain ⟨_, R, rfl, rfl, hR, hlen, _⟩ := isSq_nat (isDef_sq h)
    rw [adjO_yes (isDef_sq h)] at h2 ⊢
    cases hx : allNum (adjB R l)
    · rw [hx] at h2; exact absurd rfl h2
    · exact ⟨R, rfl, hR, rfl, rfl, adjB_length _ _, (allNum_iff _).1 hx⟩
  obtain ⟨w1, hw1⟩ : ∃ w1, w1 = w.alloc (.cells #[.int .i64 r, .int .i64 c, .slice A n cap] 26) := ⟨_, rfl⟩
  have mb1 : MBox w1 w.heap.size r c (.slice A n cap) := by rw [hw1]; exact MBox.mk_ _ _ _ _ _
  have g01 : Grows w w1 := by rw [hw1]; exact bel0
  have HW1 := Lib.hid hw1
  have HR := Lib.hid hRES
  clear hw1 hRES hn
  generalize hAD : adjO ⟨r, c, l⟩ = AD at *
  generalize hDT : dtO ⟨r, c, l⟩ = DT at *
  generalize hDF : isDef r c l = DF at *
  have HI' := Lib.hid HI
  clear HI hAD hDT hDF
  go_enter Try.func39, Try.ntmps39
  go_wp2_with fail
  refine (HA.out _ (by exact (Rd.grows ha (by exact bel0)))).mono ?_; rintro e w2 ⟨v2, rfl, ho2, g2⟩
  rw [← HW1.out] at g2
  obtain ⟨A2, c2, rfl, hr2, _⟩ := ho2.val
  obtain ⟨b0, b1, b2⟩ := (mb1.grows g2).cells
  have bl := (mb1.grows g2).lt
  go_wp2_with fail
  refine (HD.out _ (by exact (Rd.grows ha (by exact bel2 g2 g01)))).mono ?_; rintro e w3 ⟨rfl, g3⟩
  clear b0 b1 b2 bl
  have ma3 := MBox.grows (MBox.mk_ w2 (oM AD).r (oM AD).c (.slice A2 (oM AD).l.length c2) 26) g3
  have g13 : Grows w1 w3 := by exact bel2 g3 g2
  have hr3 : Rd w3 A2 (oM AD).l := (Rd.grows hr2 (by exact bel1 g3))
  clear ho2 hr2 g3 g2
  obtain ⟨b0, b1, b2⟩ := (mb1.grows g13).cells
  cases AD with
  | none =>
    obtain rfl : RES = none := HR.out
    go_wp2_with fail
    go_ret2
    exact ⟨_, rfl, Own.new_ _ rfl (by have := Below.size g13; have := Below.size g01; omega), by exact bel2 g13 g01⟩
  | some ad =>
    cases DT with
    | none =>
      have hdf : DF = false := by
        cases DF
        · rfl
        · obtain ⟨d, h, _⟩ := hsome rfl; cases h
      subst hdf
      obtain rfl : RES = none := HR.out
      go_wp2_with fail
      go_ret2
      exact ⟨_, rfl, Own.new_ _ rfl (by have := Below.size g13; have := Below.size g01; omega), by exact bel2 g13 g01⟩
    | some d =>
      cases DF
      · obtain rfl : RES = none := HR.out
        go_wp2_with fail
        refine (HI'.out _ (by exact (Rd.grows ha (by exact bel2 g13 g01)))).mono ?_; rintro e w4 ⟨rfl, g4⟩
        go_wp2_with fail
        go_ret2
        exact ⟨_, rfl, Own.new_ _ rfl (by have := Below.size g13; have := Below.size g01; have := Below.size g4; omega), by exact bel3 g4 g13 g01⟩
      · obtain ⟨R, rfl, hR6, er, ec, elen, enum⟩ := hsq rfl (by simp)
        obtain ⟨d', e', hd0⟩ := hsome rfl
        cases e'
        by_cases hb : 0 ≤ b ∧ b ≤ 10000
        · obtain ⟨hb1, hb2⟩ := hb
          have hin : inB b 0 10000 = true := (inB_iff _ _ _).2 ⟨hb1, hb2⟩
          have hbn : isNum b = true := (isNum_iff _).2 (by omega)
          have hres : RES = bxP ad.l R d b R := by have := HR.out; rw [hin] at this; exact this
          have HRES := Lib.hid hres
          obtain ⟨ar, ac, al⟩ := ad
          simp only [oM_some] at er ec elen enum ma3 hr3 hal ⊢
          subst er
          subst ec
          have HEL := Lib.hid elen
          have HEN := Lib.hid enum
          have hRR : R * R ≤ 36 := Nat.mul_le_mul hR6 hR6
          clear elen enum hres hin HR hsome hsq
          go_wp2_with fail
          refine (HI'.out _ (by exact (Rd.grows ha (by exact bel2 g13 g01)))).mono ?_; rintro e w4 ⟨rfl, g4⟩
          clear b0 b1 b2
          have g14 : Grows w1 w4 := by exact bel2 g4 g13
          have ma4 := ma3.grows (w' := w4) (by exact bel1 g4)
          have hr4 := hr3.grows (w' := w4) (by exact bel1 g4)
          have mb4 := mb1.grows g14
          have hs4 := Below.size g14
          have hs1 := Below.size g01
          go_wp2_with fail
          go_loopw [10, 11] (fun o i wr => ∃ (I : Nat) (A4 : Option Addr) (s : List Int) (c4 : Nat), i = .int .i64 I ∧ I ≤ R ∧ bxP al R d b I = some s ∧ o = .slice A4 s.length c4 ∧ Own wr w4.heap.size (.slice A4 s.length c4) s ∧ Grows w4 wr) (fun _ i _ => R - (intOf i).toNat)
          case atStart => exact ⟨0, _, [], _, rfl, Nat.zero_le _, rfl, rfl, Own.new_ _ rfl (by omega), by exact bel0⟩
          case round =>
            obtain ⟨I, A4, s, c4, rfl, hI, hS, rfl, ho, hg⟩ := hrel
            have HS := Lib.hid hS
            have HSL := Lib.hid (bxP_length hS)
            clear hS
            obtain ⟨b0, b1, b2⟩ := (mb4.grows hg).cells
            obtain ⟨a0, a1, a2⟩ := (ma4.grows hg).cells
            by_cases hlt : I < R
            · have hix := idx_lt (R := R) (C := R) hlt hlt
              have hIR : I * R ≤ 36 := by have := Nat.mul_le_mul (Nat.le_of_lt hlt) (Nat.le_refl R); omega
              have q1 := castMul I R
              have q2 : (I : Int) * (R : Int) ≤ ((36 : Nat) : Int) := castMulLe hIR
              have q3 := castPos I R I
              have q4 : (I : Int) * (R : Int) + (I : Int) < (al.length : Int) := castLt (by rw [HEL.out]; exact hix)
              have C1 := fun W h => at_c R R A2 al al.length c2 I I W rfl h (by omega) (by omega) (by omega) (by omega) (by omega)
              rw [castIdx] at C1
              have C1' := Lib.hid C1
              have hxn := HEN.out (I * R + I) (by rw [HEL.out]; exact hix)
              have hmb := mul_bd hbn hxn
              have F0 := Lib.hid fun h => bxP_fail HS.out h
              have F1 := Lib.hid fun h => bxP_some HS.out h
              have hra := hr4.grows hg
              clear q1 q2 q3 q4 C1 hxn
              generalize nth al (I * R + I) = x at *
              have NX := fun W => iIsNumber_c (b * x) W
              cases hx : isNum (b * x)
              · rw [hx] at NX
                have NX' := Lib.hid NX
                obtain rfl : RES = none := by rw [HRES.out]; exact bxP_none (F0.out hx) (by omega)
                clear NX hx
                go_wp2_with fail
                refine (C1'.out _ (by exact (Rd.grows hra (by exact bel0)))).mono ?_; rintro e w5 ⟨rfl, g5⟩
                go_wp2_with (go_at_call 33; refine (NX'.out _).mono ?_; rintro e w' ⟨rfl, rfl⟩)
                go_ret2
                exact ⟨_, rfl, Own.new_ _ rfl (by have := Below.size hg; have := Below.size g5; omega), by exact bel4 g5 hg g14 g01⟩
              · rw [hx] at NX
                have NX' := Lib.hid NX
                have F := Lib.hid (F1.out hx)
                have hq := tdiv_bd hx hd0
                have HQ := Lib.hid fun W => rootOf_c ((b * x).tdiv d) W (by omega) (by omega)
                have hdne : (d == 0) = false := by rw [beq_eq_false_iff_ne]; omega
                clear NX hx
                go_wp2_with fail
                refine (C1'.out _ (by exact (Rd.grows hra (by exact bel0)))).mono ?_; rintro e w5 ⟨rfl, g5⟩
                go_wp2_with (go_at_call 33; refine (NX'.out _).mono ?_; rintro e w' ⟨rfl, rfl⟩)
                refine (HQ.out _).mono ?_; rintro e w' ⟨rfl, rfl⟩
                have ho5 := ho.grows (w' := w5) (by exact bel1 g5)
                have hs5 : w4.heap.size ≤ w5.heap.size := by have := Below.size hg; have := Below.size g5; (try simp at this); omega
                go_wp2_with (at_builtin; refine wpList_app1 rfl (.tmp 60) (.tmp 65) rfl _ _ w4.heap.size _ s (by rfl) ho5 (by rfl) (by have := HSL.out; omega) (by omega) ?_; intro v7 w7 ho7 hg7 _)
                obtain ⟨A7, c7, rfl, _, _⟩ := ho7.val
                have hb7 : Below w4.heap.size w5 w7 := below_app ho5 (by omega) hg7
                go_round
                case rel => exact ⟨I + 1, _, _, _, by go_num, by omega, F.out, rfl, ho7, by exact bel3 hb7 g5 hg⟩
                case measure => simp [intOf]; omega
            · obtain rfl : I = R := by omega
              obtain rfl : RES = some s := by rw [HRES.out]; exact HS.out
              go_wp2_with fail
              go_ret2
              exact ⟨_, rfl, ho.less (by omega), by exact bel3 hg g14 g01⟩
        · have hin : inB b 0 10000 = false := by
            cases e : inB b 0 10000
            · rfl
            · exact absurd ((inB_iff _ _ _).1 e) hb
          obtain rfl : RES = none := by have := HR.out; rw [hin] at this; exact this
          by_cases hb1 : b < 0
          · go_wp2_with fail
            refine (HI'.out _ (by exact (Rd.grows ha (by exact bel2 g13 g01)))).mono ?_; rintro e w4 ⟨rfl, g4⟩
            go_wp2_with fail
            go_ret2
            exact ⟨_, rfl, Own.new_ _ rfl (by have := Below.size g13; have := Below.size g01; have := Below.size g4; omega), by exact bel3 g4 g13 g01⟩
          · have hb2 : 10000 < b := by omega
            go_wp2_with fail
            refine (HI'.out _ (by exact (Rd.grows ha (by exact bel2 g13 g01)))).mono ?_; rintro e w4 ⟨rfl, g4⟩
            go_wp2_with fail
            go_ret2
            exact ⟨_, rfl, Own.new_ _ rfl (by have := Below.size g13; have := Below.size g01; have := Below.size g4; omega), by exact bel3 g4 g13 g01⟩

theorem sBox_c (r c b : Int) (A : Option Addr) (l : List Int) (n cap : Nat) (w : World) (hn : l.length = n) (ha : Rd w A l) (hl : n ≤ 1099511627776) :
    Calls Try.prog 46 #[.agg #[.int .i64 r, .int .i64 c, .slice A n cap], .int .i64 b] w fun e w' => ∃ v, e = .returned (.tuple #[v, .bool (boxO ⟨r, c, l⟩ b).isSome]) ∧ Own w' w.heap.size v (oL (boxO ⟨r, c, l⟩ b)) ∧ Grows w w' := by
  have HA := Lib.hid fun W h => sAdj_c r c A l n cap W hn h hl
  have HD := Lib.hid fun W h => sDt_c r c A l n cap W hn h hl
  have HI := fun W h => sIsDef_c r c A l n cap W hn h hl
  obtain ⟨RES, hRES⟩ : ∃ x, x = boxO ⟨r, c, l⟩ b := ⟨_, rfl⟩
  rw [← hRES]
  unfold boxO at hRES
  simp only at hRES
  have hal : (oM (adjO ⟨r, c, l⟩)).l.length ≤ 576 := oM_length fun _ h => adjO_ok h
  have hsome : isDef r c l = true → ∃ d, dtO ⟨r, c, l⟩ = some d ∧ 0 < d := fun h => isDef_det h
  have hsq : isDef r c l = true → adjO ⟨r, c, l⟩ ≠ none → ∃ R : Nat, r = R ∧ R ≤ 6 ∧ (oM (adjO ⟨r, c, l⟩)).r = R ∧ (oM (adjO ⟨r, c, l⟩)).c = R ∧ (oM (adjO ⟨r, c, l⟩)).l.length = R * R ∧ ∀ i, i < (oM (adjO ⟨r, c, l⟩)).l.length → isNum (nth (oM (adjO ⟨r, c, l⟩)).l i) = true := fun h h2 => by
    obtain ⟨_, R, rfl, rfl, hR, hlen, _⟩ := isSq_nat (isDef_sq h)
    rw [adjO_yes (isDef_sq h)] at h2 ⊢
    cases hx : allNum (adjB R l)
    · rw [hx] at h2; exact absurd rfl h2
    · exact ⟨R, rfl, hR, rfl, rfl, adjB_length _ _, (allNum_iff _).1 hx⟩
  obtain ⟨w1, hw1⟩ : ∃ w1, w1 = w.alloc (.cells #[.int .i64 r, .int .i64 c, .slice A n cap] 26) := ⟨_, rfl⟩
  have mb1 : MBox w1 w.heap.size r c (.slice A n cap) := by rw [hw1]; exact MBox.mk_ _ _ _ _ _
  have g01 : Grows w w1 := by rw [hw1]; exact bel0
  have HW1 := Lib.hid hw1
  have HR := Lib.hid hRES
  clear hw1 hRES hn
  generalize hAD : adjO ⟨r, c, l⟩ = AD at *
  generalize hDT : dtO ⟨r, c, l⟩ = DT at *
  generalize hDF : isDef r c l = DF at *
  have HI' := Lib.hid HI
  clear HI hAD hDT hDF
  go_enter Try.func46, Try.ntmps46
  go_wp2_with fail
  refine (HA.out _ (by exact (Rd.grows ha (by exact bel0)))).mono ?_; rintro e w2 ⟨v2, rfl, ho2, g2⟩
  rw [← HW1.out] at g2
  obtain ⟨A2, c2, rfl, hr2, _⟩ := ho2.val
  have ma2 := MBox.mk_ w2 (oM AD).r (oM AD).c (.slice A2 (oM AD).l.length c2) 26
  have hs2 := Below.size g2
  have hs1 := Below.size g01
  cases AD with
  | none =>
    obtain rfl : RES = none := HR.out
    go_wp2_with fail
    go_ret2
    exact ⟨_, rfl, Own.new_ _ (by simp) (by omega), by exact bel2 g2 g01⟩
  | some ad =>
    obtain ⟨b0, b1, b2⟩ := (mb1.grows g2).cells
    have bl := (mb1.grows g2).lt
    go_wp2_with fail
    refine (HI'.out _ (by exact (Rd.grows ha (by exact bel2 g2 g01)))).mono ?_; rintro e w3 ⟨rfl, g3⟩
    clear b0 b1 b2 bl
    have ma3 := ma2.grows g3
    have hr3 : Rd w3 A2 (oM (some ad)).l := (Rd.grows hr2 (by exact bel1 g3))
    have g13 : Grows w1 w3 := by exact bel2 g3 g2
    clear ma2 hr2 ho2 g3 g2
    have hs3 := Below.size g13
    cases DF
    · obtain rfl : RES = none := HR.out
      go_wp2_with fail
      go_ret2
      exact ⟨_, rfl, Own.new_ _ rfl (by omega), by exact bel2 g13 g01⟩
    · obtain ⟨R, rfl, hR6, er, ec, elen, enum⟩ := hsq rfl (by simp)
      obtain ⟨d, hd, hd0⟩ := hsome rfl
      subst hd
      have HIN := fun W => l1In_c b 0 10000 W
      obtain ⟨b0, b1, b2⟩ := (mb1.grows g13).cells
      cases hin : inB b 0 10000
      · rw [hin] at HIN
        have HIN' := Lib.hid HIN
        obtain rfl : RES = none := by have := HR.out; rw [hin] at this; exact this
        clear HIN hin
        go_wp2_with fail
        refine (HIN'.out _).mono ?_; rintro e w' ⟨rfl, rfl⟩
        go_wp2_with fail
        go_ret2
        exact ⟨_, rfl, Own.new_ _ rfl (by omega), by exact bel2 g13 g01⟩
      · rw [hin] at HIN
        have HIN' := Lib.hid HIN
        have hb := (inB_iff _ _ _).1 hin
        have hbn : isNum b = true := (isNum_iff _).2 (by omega)
        have hres : RES = bxP ad.l R d b R := by have := HR.out; rw [hin] at this; exact this
        have HRES := Lib.hid hres
        obtain ⟨ar, ac, al⟩ := ad
        simp only [oM_some] at er ec elen enum ma3 hr3 hal ⊢
        subst er
        subst ec
        have HEL := Lib.hid elen
        have HEN := Lib.hid enum
        have hRR : R * R ≤ 36 := Nat.mul_le_mul hR6 hR6
        clear elen enum hres hin HIN HR hsome hsq
        go_wp2_with fail
        refine (HIN'.out _).mono ?_; rintro e w' ⟨rfl, rfl⟩
        go_wp2_with fail
        refine (HD.out _ (by exact (Rd.grows ha (by exact bel2 g13 g01)))).mono ?_; rintro e w4 ⟨rfl, g4⟩
        clear b0 b1 b2
        have g14 : Grows w1 w4 := by exact bel2 g4 g13
        have ma4 := ma3.grows (w' := w4) (by exact bel1 g4)
        have hr4 := hr3.grows (w' := w4) (by exact bel1 g4)
        have mb4 := mb1.grows g14
        have hs4 := Below.size g14
        go_wp2_with fail
        go_loopw [10, 11] (fun o i wr => ∃ (I : Nat) (A4 : Option Addr) (s : List Int) (c4 : Nat), i = .int .i64 I ∧ I ≤ R ∧ bxP al R d b I = some s ∧ o = .slice A4 s.length c4 ∧ Own wr w4.heap.size (.slice A4 s.length c4) s ∧ Grows w4 wr) (fun _ i _ => R - (intOf i).toNat)
        case atStart => exact ⟨0, _, [], _, rfl, Nat.zero_le _, rfl, rfl, Own.new_ _ rfl (by omega), by exact bel0⟩
        case round =>
          obtain ⟨I, A4, s, c4, rfl, hI, hS, rfl, ho, hg⟩ := hrel
          have HS := Lib.hid hS
          have HSL := Lib.hid (bxP_length hS)
          clear hS
          obtain ⟨b0, b1, b2⟩ := (mb4.grows hg).cells
          obtain ⟨a0, a1, a2⟩ := (ma4.grows hg).cells
          by_cases hlt : I < R
          · have hix := idx_lt (R := R) (C := R) hlt hlt
            have hIR : I * R ≤ 36 := by have := Nat.mul_le_mul (Nat.le_of_lt hlt) (Nat.le_refl R); omega
            have q1 := castMul I R
            have q2 : (I : Int) * (R : Int) ≤ ((36 : Nat) : Int) := castMulLe hIR
            have q3 := castPos I R I
            have q4 : (I : Int) * (R : Int) + (I : Int) < (al.length : Int) := castLt (by rw [HEL.out]; exact hix)
            have C1 := fun W h => l12Cell_c R R A2 al al.length c2 I I W rfl h (by omega) (by omega) (by omega) (by omega) (by omega)
            rw [castIdx] at C1
            have C1' := Lib.hid C1
            have hxn := HEN.out (I * R + I) (by rw [HEL.out]; exact hix)
            have F0 := Lib.hid fun h => bxP_fail HS.out h
            have F1 := Lib.hid fun h => bxP_some HS.out h
            have hra := hr4.grows hg
            clear q1 q2 q3 q4 C1
            generalize nth al (I * R + I) = x at *
            have KM := fun W => l1Mul_c b x W (.inr hbn) (.inr hxn)
            rw [mulB_num hbn hxn] at KM
            cases hx : isNum (b * x)
            · rw [fit_no hx, show bad = -4611686018427387904 from rfl] at KM
              have KM' := Lib.hid KM
              obtain rfl : RES = none := by rw [HRES.out]; exact bxP_none (F0.out hx) (by omega)
              clear KM hx hxn
              go_wp2_with fail
              refine (C1'.out _ (by exact (Rd.grows hra (by exact bel0)))).mono ?_; rintro e w5 ⟨rfl, g5⟩
              go_wp2_with (go_at_call 98; refine (KM'.out _).mono ?_; rintro e w' ⟨rfl, rfl⟩)
              go_ret2
              exact ⟨_, rfl, Own.new_ _ rfl (by have := Below.size hg; have := Below.size g5; omega), by exact bel4 g5 hg g14 g01⟩
            · rw [fit_yes hx] at KM
              have KM' := Lib.hid KM
              have F := Lib.hid (F1.out hx)
              have hq := tdiv_bd hx hd0
              have hbx := (isNum_iff _).1 hx
              have hne : (b * x == -4611686018427387904) = false := by rw [beq_eq_false_iff_ne]; omega
              have HQ := Lib.hid fun W => l20Root_c ((b * x).tdiv d) W (by omega) (by omega)
              have hdne : (d == 0) = false := by rw [beq_eq_false_iff_ne]; omega
              clear KM hx hxn
              generalize b * x = bx at *
              go_wp2_with fail
              refine (C1'.out _ (by exact (Rd.grows hra (by exact bel0)))).mono ?_; rintro e w5 ⟨rfl, g5⟩
              go_wp2_with (go_at_call 98; refine (KM'.out _).mono ?_; rintro e w' ⟨rfl, rfl⟩)
              refine (HQ.out _).mono ?_; rintro e w' ⟨rfl, rfl⟩
              have ho5 := ho.grows (w' := w5) (by exact bel1 g5)
              have hs5 : w4.heap.size ≤ w5.heap.size := by have := Below.size hg; have := Below.size g5; (try simp at this); omega
              go_wp2_with (at_builtin; refine wpList_app1 rfl (.tmp 52) (.tmp 57) rfl _ _ w4.heap.size _ s (by rfl) ho5 (by rfl) (by have := HSL.out; omega) (by omega) ?_; intro v7 w7 ho7 hg7 _)
              obtain ⟨A7, c7, rfl, _, _⟩ := ho7.val
              have hb7 : Below w4.heap.size w5 w7 := below_app ho5 (by omega) hg7
              go_round
              case rel => exact ⟨I + 1, _, _, _, by go_num, by omega, F.out, rfl, ho7, by exact bel3 hb7 g5 hg⟩
              case measure => simp [intOf]; omega
          · obtain rfl : I = R := by omega
            obtain rfl : RES = some s := by rw [HRES.out]; exact HS.out
            go_wp2_with fail
            go_ret2
            exact ⟨_, rfl, ho.less (by omega), by exact bel3 hg g14 g01⟩
end
end Go.Proofs.Ythajmffhgbenpaa

/- Plain: the expansion of a determinant by any row, Cramer's rule, and the inequality of Cauchy and Schwarz. -/
namespace Go.Proofs.Ythajmffhgbenpaa
set_option linter.unusedSimpArgs false
set_option linter.unusedVariables false

/-! ### any row -/
theorem sgn_next (k : Nat) : sgn (k + 1) = - sgn k := by unfold sgn; split <;> split <;> omega
theorem dets_exp (n : Nat) (i : Nat) : ∀ (f : Nat → Nat → Int), i < n + 1 → dets (n + 1) f = sumN (n + 1) fun k => sgn (i + k) * f i k * dets n fun a b => f (skip i a) (skip k b) := by
  induction i with
  | zero =>
    intro f _
    simp only [dets]
    refine sumN_congr fun k _ => ?_
    rw [Nat.zero_add]
    rfl
  | succ i ih =>
    intro f hi
    have e : f = setR (setR f i (f i)) (i + 1) (f (i + 1)) := by rw [setR_self, setR_self]
    have h := dets_swap (n + 1) f i (by omega) (f i) (f (i + 1))
    rw [← e] at h
    rw [h, ih _ (by omega), ← sumN_neg]
    refine sumN_congr fun k _ => ?_
    have e1 : setR (setR f i (f (i + 1))) (i + 1) (f i) i k = f (i + 1) k := by simp [setR]
    have e2 : (fun a b => setR (setR f i (f (i + 1))) (i + 1) (f i) (skip i a) (skip k b)) = fun a b => f (skip (i + 1) a) (skip k b) := by
      funext a b
      by_cases h1 : a < i
      · have s1 : skip i a = a := by unfold skip; rw [if_pos h1]
        have s2 : skip (i + 1) a = a := by unfold skip; rw [if_pos (by omega)]
        rw [s1, s2]; unfold setR; rw [if_neg (by omega), if_neg (by omega)]
      · have s1 : skip i a = a + 1 := by unfold skip; rw [if_neg h1]
        by_cases h2 : a = i
        · subst h2
          have s2 : skip (a + 1) a = a := by unfold skip; rw [if_pos (by omega)]
          rw [s1, s2]; unfold setR; rw [if_pos rfl]
        · have s2 : skip (i + 1) a = a + 1 := by unfold skip; rw [if_neg (by omega)]
          rw [s1, s2]; unfold setR; rw [if_neg (by omega), if_neg (by omega)]
    rw [e1, e2, show i + 1 + k = i + k + 1 by omega, sgn_next, Int.neg_mul, Int.neg_mul]
def cof (n : Nat) (f : Nat → Nat → Int) (i k : Nat) : Int := sgn (i + k) * dets n fun a b => f (skip i a) (skip k b)
theorem skip_ne (i a : Nat) : skip i a ≠ i := by unfold skip; split <;> omega
theorem cramer (n : Nat) (f : Nat → Nat → Int) {i r : Nat} (hi : i < n + 1) (hr : r < n + 1) : (sumN (n + 1) fun k => f r k * cof n f i k) = if r = i then dets (n + 1) f else 0 := by
  have key : (sumN (n + 1) fun k => f r k * cof n f i k) = dets (n + 1) (setR f i (f r)) := by
    rw [dets_exp n i _ hi]
    refine sumN_congr fun k _ => ?_
    have e1 : setR f i (f r) i k = f r k := by simp [setR]
    have e2 : (fun a b => setR f i (f r) (skip i a) (skip k b)) = fun a b => f (skip i a) (skip k b) := by
      funext a b; unfold setR; rw [if_neg (skip_ne i a)]
    rw [e1, e2]
    unfold cof
    ac_rfl
  rw [key]
  by_cases e : r = i
  · rw [if_pos e, e, setR_self]
  · rw [if_neg e]
    exact dets_equal (n + 1) _ i r hi hr (Ne.symm e) fun b => by simp [setR, e]

/-! ### the form's products -/
def bil (n : Nat) (f : Nat → Nat → Int) (v w : Nat → Int) : Int := sumN n fun i => v i * sumN n fun j => f i j * w j
theorem bil_self (n : Nat) (f : Nat → Nat → Int) (v : Nat → Int) : bil n f v v = qf n f v := by
  unfold bil qf
  refine sumN_congr fun i _ => ?_
  rw [← sumN_mul]
  exact sumN_congr fun j _ => by rw [Int.mul_assoc]
theorem bil_left (n : Nat) (f : Nat → Nat → Int) (u v w : Nat → Int) (c d : Int) : bil n f (fun i => c * u i + d * v i) w = c * bil n f u w + d * bil n f v w := by
  unfold bil
  rw [← sumN_mul, ← sumN_mul, ← sumN_add]
  exact sumN_congr fun i _ => by rw [Int.add_mul, Int.mul_assoc, Int.mul_assoc]
theorem bil_comm {n : Nat} {f : Nat → Nat → Int} (hs : ∀ i j, i < n → j < n → f i j = f j i) (v w : Nat → Int) : bil n f v w = bil n f w v := by
  unfold bil
  have e : ∀ v w : Nat → Int, (sumN n fun i => v i * sumN n fun j => f i j * w j) = sumN n fun i => sumN n fun j => v i * (f i j * w j) := fun v w => sumN_congr fun i _ => by rw [← sumN_mul]
  rw [e, e, sumN_swap]
  refine sumN_congr fun i hi => sumN_congr fun j hj => ?_
  rw [hs j i hj hi]; ac_rfl
/-- a definite form is not less than 0 -/
structure PosF (n : Nat) (f : Nat → Nat → Int) : Prop where
  sym : ∀ i j, i < n → j < n → f i j = f j i
  pos : ∀ v : Nat → Int, (∃ i, i < n ∧ v i ≠ 0) → 0 < qf n f v
theorem qf_zero {n : Nat} {f : Nat → Nat → Int} {v : Nat → Int} (h : ∀ i, i < n → v i = 0) : qf n f v = 0 := by
  unfold qf
  exact sumN_zero fun i hi => sumN_zero fun j _ => by rw [h i hi]; simp
theorem PosF.nonneg {n : Nat} {f : Nat → Nat → Int} (h : PosF n f) (v : Nat → Int) : 0 ≤ qf n f v := by
  by_cases hz : ∃ i, i < n ∧ v i ≠ 0
  · exact Int.le_of_lt (h.pos v hz)
  · rw [qf_zero fun i hi => Classical.byContradiction fun hne => hz ⟨i, hi, hne⟩]; exact Int.le_refl 0
theorem bil_zero {n : Nat} {f : Nat → Nat → Int} {v w : Nat → Int} (h : ∀ i, i < n → w i = 0) : bil n f v w = 0 := by
  unfold bil
  exact sumN_zero fun i _ => by rw [sumN_zero fun j hj => by rw [h j hj, Int.mul_zero], Int.mul_zero]
theorem cauchy {n : Nat} {f : Nat → Nat → Int} (h : PosF n f) (v w : Nat → Int) : bil n f v w * bil n f v w ≤ qf n f v * qf n f w := by
  by_cases hz : ∃ i, i < n ∧ w i ≠ 0
  · have hQ := h.pos w hz
    have hn := h.nonneg fun i => qf n f w * v i + (- bil n f v w) * w i
    generalize hQd : qf n f w = Q at *
    generalize hB : bil n f v w = B at *
    have hB' : bil n f w v = B := by rw [bil_comm h.sym, hB]
    rw [← bil_self, bil_left, bil_comm h.sym v, bil_comm h.sym w, bil_left, bil_left, hB, hB', bil_self, bil_self, hQd] at hn
    have e : Q * (Q * qf n f v + -B * B) + -B * (Q * B + -B * Q) = Q * (qf n f v * Q - B * B) := by grind
    rw [e] at hn
    rcases Int.lt_or_le (qf n f v * Q) (B * B) with hlt | hle
    · have := Int.mul_neg_of_pos_of_neg hQ (show qf n f v * Q - B * B < 0 by omega)
      omega
    · exact hle
  · have hw : ∀ i, i < n → w i = 0 := fun i hi => Classical.byContradiction fun hne => hz ⟨i, hi, hne⟩
    rw [bil_zero hw, qf_zero hw]; simp
/-- a cell of a short vector -/
theorem box_cell {n : Nat} {f : Nat → Nat → Int} (h : PosF (n + 1) f) (hd : 0 < dets (n + 1) f) (v : Nat → Int) {i : Nat} (hi : i < n + 1) : v i * v i * dets (n + 1) f ≤ qf (n + 1) f v * cof n f i i := by
  have hc := cauchy h v (cof n f i)
  have e1 : bil (n + 1) f v (cof n f i) = v i * dets (n + 1) f := by
    unfold bil
    rw [sumN_congr fun r hr => by rw [cramer n f hi hr]]
    rw [sumN_only (k := i) hi fun r _ hne => by rw [if_neg hne, Int.mul_zero]]
    rw [if_pos rfl]
  have e2 : qf (n + 1) f (cof n f i) = cof n f i i * dets (n + 1) f := by
    rw [← bil_self]
    unfold bil
    rw [sumN_congr fun r hr => by rw [cramer n f hi hr]]
    rw [sumN_only (k := i) hi fun r _ hne => by rw [if_neg hne, Int.mul_zero]]
    rw [if_pos rfl]
  rw [e1, e2] at hc
  generalize dets (n + 1) f = D at *
  generalize qf (n + 1) f v = q at *
  generalize cof n f i i = c at *
  generalize v i = x at *
  have e3 : x * D * (x * D) = D * (x * x * D) := by ac_rfl
  have e4 : q * (c * D) = D * (q * c) := by ac_rfl
  rw [e3, e4] at hc
  exact Int.le_of_mul_le_mul_left hc hd
/-- a cell of a short vector's row -/
theorem row_cell {n : Nat} {f : Nat → Nat → Int} (h : PosF n f) (v : Nat → Int) {j : Nat} (hj : j < n) : (sumN n fun r => v r * f r j) * (sumN n fun r => v r * f r j) ≤ qf n f v * f j j := by
  have hc := cauchy h v fun i => if i = j then 1 else 0
  have e0 : ∀ r, (sumN n fun k => f r k * (if k = j then 1 else 0)) = f r j := fun r => by
    rw [sumN_congr fun k _ => Int.mul_comm (f r k) (if k = j then (1 : Int) else 0)]
    exact sumN_one hj _
  have e1 : bil n f v (fun i => if i = j then 1 else 0) = sumN n fun r => v r * f r j := by
    unfold bil
    exact sumN_congr fun r _ => by rw [e0 r]
  have e2 : qf n f (fun i => if i = j then 1 else 0) = f j j := by
    rw [← bil_self]
    unfold bil
    rw [sumN_congr fun r _ => by rw [e0 r]]
    exact sumN_one hj _
  rw [e1, e2] at hc
  exact hc
end Go.Proofs.Ythajmffhgbenpaa

/- Plain: vectors with a value, ordered by the value and then lexicographically; insertion; one sorted list; the box of all vectors. -/
namespace Go.Proofs.Ythajmffhgbenpaa
set_option linter.unusedSimpArgs false
set_option linter.unusedVariables false
open Go.RowKit

/-- a is less than b: the first cells that differ decide -/
def lexB : List Int → List Int → Bool
  | [], [] => false
  | [], _ :: _ => true
  | _ :: _, [] => false
  | a :: x, b :: y => decide (a < b) || (decide (a = b) && lexB x y)
theorem lexB_irrefl (x : List Int) : lexB x x = false := by
  induction x with
  | nil => rfl
  | cons a x ih => simp [lexB, ih]
theorem lexB_trans {x y z : List Int} (h1 : lexB x y = true) (h2 : lexB y z = true) : lexB x z = true := by
  induction x generalizing y z with
  | nil =>
    cases y with
    | nil => cases h1
    | cons b y => cases z with
      | nil => cases h2
      | cons c z => rfl
  | cons a x ih =>
    cases y with
    | nil => cases h1
    | cons b y =>
      cases z with
      | nil => cases h2
      | cons c z =>
        simp only [lexB, Bool.or_eq_true, Bool.and_eq_true, decide_eq_true_eq] at *
        rcases h1 with h1 | ⟨e1, h1⟩ <;> rcases h2 with h2 | ⟨e2, h2⟩
        · left; omega
        · left; omega
        · left; omega
        · right; exact ⟨by omega, ih h1 h2⟩
theorem lexB_total {x y : List Int} (h1 : lexB x y = false) (h2 : lexB y x = false) : x = y := by
  induction x generalizing y with
  | nil => cases y with
    | nil => rfl
    | cons b y => cases h1
  | cons a x ih =>
    cases y with
    | nil => cases h2
    | cons b y =>
      simp only [lexB, Bool.or_eq_false_iff, Bool.and_eq_false_iff, decide_eq_false_iff_not] at *
      obtain ⟨h3, h4⟩ := h1
      obtain ⟨h5, h6⟩ := h2
      obtain rfl : a = b := by omega
      rw [ih (y := y)]
      · rcases h4 with h | h
        · exact absurd rfl h
        · exact h
      · rcases h6 with h | h
        · exact absurd rfl h
        · exact h
/-- alike so far, and then not -/
theorem lexB_at {x y : List Int} {i : Nat} (hx : i < x.length) (hy : i < y.length) (h : ∀ t, t < i → nth x t = nth y t) (hne : nth x i ≠ nth y i) : lexB x y = decide (nth x i < nth y i) := by
  induction i generalizing x y with
  | zero =>
    cases x with
    | nil => simp at hx
    | cons a x => cases y with
      | nil => simp at hy
      | cons b y =>
        have hne' : ¬ a = b := hne
        show (decide (a < b) || (decide (a = b) && lexB x y)) = decide (a < b)
        simp [hne']
  | succ i ih =>
    cases x with
    | nil => simp at hx
    | cons a x => cases y with
      | nil => simp at hy
      | cons b y =>
        have h0 : a = b := h 0 (by omega)
        have := ih (x := x) (y := y) (by simpa using hx) (by simpa using hy) (fun t ht => h (t + 1) (by omega)) hne
        show (decide (a < b) || (decide (a = b) && lexB x y)) = decide (nth x i < nth y i)
        rw [this]
        simp [h0]
theorem lexB_alike {x y : List Int} (hl : x.length = y.length) (h : ∀ t, t < x.length → nth x t = nth y t) : lexB x y = false := by
  have : x = y := List.ext_getElem hl fun i h1 h2 => by
    have := h i h1
    simpa [nth, h1, h2] using this
  rw [this, lexB_irrefl]

abbrev KV := Int × List Int
def ltK (a b : KV) : Bool := decide (a.1 < b.1) || (decide (a.1 = b.1) && lexB a.2 b.2)
theorem ltK_irrefl (a : KV) : ltK a a = false := by simp [ltK, lexB_irrefl]
theorem ltK_trans {a b c : KV} (h1 : ltK a b = true) (h2 : ltK b c = true) : ltK a c = true := by
  simp only [ltK, Bool.or_eq_true, Bool.and_eq_true, decide_eq_true_eq] at *
  rcases h1 with h1 | ⟨e1, h1⟩ <;> rcases h2 with h2 | ⟨e2, h2⟩
  · left; omega
  · left; omega
  · left; omega
  · right; exact ⟨by omega, lexB_trans h1 h2⟩
theorem ltK_total {a b : KV} (h1 : ltK a b = false) (h2 : ltK b a = false) : a = b := by
  simp only [ltK, Bool.or_eq_false_iff, Bool.and_eq_false_iff, decide_eq_false_iff_not] at *
  obtain ⟨h3, h4⟩ := h1
  obtain ⟨h5, h6⟩ := h2
  have e : a.1 = b.1 := by omega
  refine Prod.ext e (lexB_total ?_ ?_)
  · rcases h4 with h | h
    · exact absurd e h
    · exact h
  · rcases h6 with h | h
    · exact absurd e.symm h
    · exact h
theorem ltK_asymm {a b : KV} (h : ltK a b = true) : ltK b a = false := by
  cases e : ltK b a
  · rfl
  · have := ltK_trans h e; rw [ltK_irrefl] at this; cases this
theorem ltK_ntrans {a b c : KV} (h1 : ltK a b = false) (h2 : ltK b c = false) : ltK a c = false := by
  cases e : ltK a c
  · rfl
  · cases e2 : ltK c b
    · have := ltK_total h2 e2; subst this; rw [h1] at e; cases e
    · have := ltK_trans e e2; rw [h1] at this; cases this

/-- where a vector is put: behind the last one that it is not less than -/
def posK (l : List KV) (v : KV) : Nat → Nat
  | 0 => 0
  | n + 1 => if ltK v (l.getD n (0, [])) then posK l v n else n + 1
theorem posK_le (l : List KV) (v : KV) (n : Nat) : posK l v n ≤ n := by
  induction n with
  | zero => exact Nat.le_refl _
  | succ n ih => rw [posK]; split <;> omega
theorem posK_after {l : List KV} {v : KV} {n i : Nat} (h : posK l v n ≤ i) (hi : i < n) : ltK v (l.getD i (0, [])) = true := by
  induction n with
  | zero => omega
  | succ n ih =>
    rw [posK] at h
    split at h
    · rename_i hc
      by_cases e : i = n
      · rw [e]; exact hc
      · exact ih h (by omega)
    · omega
theorem posK_at {l : List KV} {v : KV} {n : Nat} (h : 0 < posK l v n) : ltK v (l.getD (posK l v n - 1) (0, [])) = false := by
  induction n with
  | zero => simp [posK] at h
  | succ n ih =>
    rw [posK] at h ⊢
    split
    · rename_i hc
      rw [if_pos hc] at h
      exact ih h
    · rename_i hc
      simpa using hc
def putK (l : List KV) (v : KV) : List KV := l.take (posK l v l.length) ++ v :: l.drop (posK l v l.length)
theorem putK_perm (l : List KV) (v : KV) : (putK l v).Perm (v :: l) := by
  unfold putK
  refine List.perm_middle.trans ?_
  rw [List.take_append_drop]
def SortK (l : List KV) : Prop := l.Pairwise fun a b => ltK b a = false
theorem putK_sort {l : List KV} {v : KV} (h : SortK l) : SortK (putK l v) := by
  unfold putK SortK
  have hle := posK_le l v l.length
  have hP := List.pairwise_iff_getElem.1 h
  rw [List.pairwise_append]
  refine ⟨List.Pairwise.sublist (List.take_sublist _ _) h, ?_, ?_⟩
  · rw [List.pairwise_cons]
    refine ⟨?_, List.Pairwise.sublist (List.drop_sublist _ _) h⟩
    intro b hb
    obtain ⟨i, hi, rfl⟩ := List.getElem_of_mem hb
    rw [List.getElem_drop]
    simp only [List.length_drop] at hi
    have := posK_after (l := l) (v := v) (n := l.length) (i := posK l v l.length + i) (by omega) (by omega)
    rw [List.getD_eq_getElem?_getD, List.getElem?_eq_getElem (by omega)] at this
    exact ltK_asymm this
  · intro a ha b hb
    obtain ⟨i, hi, rfl⟩ := List.getElem_of_mem ha
    simp only [List.length_take] at hi
    rw [List.getElem_take]
    have h1 : ltK v l[i] = false := by
      have hk : 0 < posK l v l.length := by omega
      have h2 := posK_at (l := l) (v := v) (n := l.length) hk
      rw [List.getD_eq_getElem?_getD, List.getElem?_eq_getElem (by omega)] at h2
      by_cases e : i = posK l v l.length - 1
      · subst e; exact h2
      · exact ltK_ntrans h2 (hP i (posK l v l.length - 1) (by omega) (by omega) (by omega))
    rw [List.mem_cons] at hb
    rcases hb with rfl | hb
    · exact h1
    · obtain ⟨j, hj, rfl⟩ := List.getElem_of_mem hb
      rw [List.getElem_drop]
      simp only [List.length_drop] at hj
      exact hP i (posK l v l.length + j) (by omega) (by omega) (by omega)
/-- all that are put, one behind another -/
def putsK (l : List KV) : List KV → List KV
  | [] => l
  | v :: r => putsK (putK l v) r
theorem putsK_sort {l r : List KV} (h : SortK l) : SortK (putsK l r) := by
  induction r generalizing l with
  | nil => exact h
  | cons v r ih => exact ih (putK_sort h)
theorem putsK_perm {l r : List KV} : (putsK l r).Perm (l ++ r) := by
  induction r generalizing l with
  | nil => rw [List.append_nil]; exact List.Perm.refl _
  | cons v r ih =>
    refine (ih (l := putK l v)).trans ?_
    refine ((putK_perm l v).append_right r).trans ?_
    exact List.perm_middle.symm
theorem sortK_unique {a b : List KV} (ha : SortK a) (hb : SortK b) (h : a.Perm b) : a = b :=
  List.Perm.eq_of_pairwise (le := fun x y => ltK y x = false) (fun x y _ _ h1 h2 => ltK_total h2 h1) ha hb h
theorem sorted_puts {a r : List KV} (ha : SortK a) (h : a.Perm r) : a = putsK [] r :=
  sortK_unique ha (putsK_sort List.Pairwise.nil) (h.trans (show r.Perm (putsK [] r) from (putsK_perm (l := []) (r := r)).symm))

/-- all vectors that go on with a cell from lo to hi -/
def width (lo hi : Int) : Nat := (hi - lo + 1).toNat
def grownBy (lo : Int) (n : Nat) (v : List Int) : List (List Int) := (List.range n).map fun (k : Nat) => v ++ [lo + (k : Int)]
def boxStep (lo hi : Int) (rows : List (List Int)) : List (List Int) := rows.flatMap (grownBy lo (width lo hi))
theorem grownBy_succ (lo : Int) (n : Nat) (v : List Int) : grownBy lo (n + 1) v = grownBy lo n v ++ [v ++ [lo + (n : Int)]] := by
  unfold grownBy
  rw [List.range_succ, List.map_append]
  rfl
theorem grownBy_length (lo : Int) (n : Nat) (v : List Int) : (grownBy lo n v).length = n := by unfold grownBy; simp
theorem boxStep_length (lo hi : Int) (rows : List (List Int)) : (boxStep lo hi rows).length = rows.length * width lo hi := by
  unfold boxStep
  induction rows with
  | nil => simp
  | cons v r ih => rw [List.flatMap_cons, List.length_append, ih, grownBy_length, List.length_cons, Nat.succ_mul, Nat.add_comm]
/-- the rows of the first r vectors -/
def boxUpto (lo hi : Int) (rows : List (List Int)) (r : Nat) : List (List Int) := boxStep lo hi (rows.take r)
theorem boxUpto_zero (lo hi : Int) (rows : List (List Int)) : boxUpto lo hi rows 0 = [] := rfl
theorem boxUpto_succ {lo hi : Int} {rows : List (List Int)} {r : Nat} (h : r < rows.length) : boxUpto lo hi rows (r + 1) = boxUpto lo hi rows r ++ grownBy lo (width lo hi) (rows.getD r []) := by
  unfold boxUpto boxStep
  rw [List.take_add_one, List.getElem?_eq_getElem h, List.flatMap_append]
  simp [List.getD, h]
theorem boxUpto_all (lo hi : Int) (rows : List (List Int)) : boxUpto lo hi rows rows.length = boxStep lo hi rows := by unfold boxUpto; rw [List.take_length]
def boxF (low high : List Int) : Nat → List (List Int)
  | 0 => [[]]
  | i + 1 => boxStep (nth low i) (nth high i) (boxF low high i)
/-- there are never more than 4000 beginnings -/
def boxB (low high : List Int) : Nat → Bool
  | 0 => true
  | i + 1 => boxB low high i && decide ((boxF low high (i + 1)).length ≤ 4000)
theorem boxB_le {low high : List Int} {i n : Nat} (h : boxB low high n = true) (hi : i ≤ n) : boxB low high i = true := by
  induction n with
  | zero => obtain rfl : i = 0 := by omega
            rfl
  | succ n ih =>
    by_cases e : i = n + 1
    · rw [e]; exact h
    · simp only [boxB, Bool.and_eq_true] at h
      exact ih h.1 (by omega)
theorem boxB_no {low high : List Int} {i n : Nat} (h : boxB low high i = false) (hi : i ≤ n) : boxB low high n = false := by
  cases e : boxB low high n
  · rfl
  · rw [boxB_le e hi] at h; cases h
theorem boxF_len {low high : List Int} {i : Nat} {v : List Int} (h : v ∈ boxF low high i) : v.length = i := by
  induction i generalizing v with
  | zero => simp [boxF] at h; rw [h]; rfl
  | succ i ih =>
    rw [boxF, boxStep, List.mem_flatMap] at h
    obtain ⟨u, hu, hv⟩ := h
    unfold grownBy at hv
    rw [List.mem_map] at hv
    obtain ⟨k, _, rfl⟩ := hv
    simp [ih hu]
end Go.Proofs.Ythajmffhgbenpaa

/- Plain: the boxes of vectors that a form bounds. -/
namespace Go.Proofs.Ythajmffhgbenpaa
set_option linter.unusedSimpArgs false
set_option linter.unusedVariables false
open Go.RowKit

theorem def_sym {R : Nat} {l : List Int} (h : isDef R R l = true) : ∀ i j, i < R → j < R → fnOf R l i j = fnOf R l j i := by
  obtain ⟨_, R', e, _, _, hlen, _⟩ := isSq_nat (isDef_sq h)
  obtain rfl : R = R' := by omega
  have hg : isGram R R l = true := by unfold isDef at h; simp only [Bool.and_eq_true] at h; exact h.2
  have hs : symB R l = true := by unfold isGram at hg; simp only [Bool.and_eq_true, Int.toNat_natCast] at hg; exact hg.2
  intro i j hi hj
  rcases Nat.lt_trichotomy i j with e | e | e
  · exact ((symB_iff hlen).1 hs j i hj e).symm
  · rw [e]
  · exact (symB_iff hlen).1 hs i j hi e
theorem def_posF {R : Nat} {l : List Int} (h : isDef R R l = true) : PosF R (fnOf R l) ∧ 0 < dets R (fnOf R l) := by
  obtain ⟨_, R', e, _, _, hlen, _⟩ := isSq_nat (isDef_sq h)
  obtain rfl : R = R' := by omega
  obtain ⟨s, hs, hp⟩ := isDef_minors h
  have hd : ∀ k, 1 ≤ k → k ≤ R → 0 < dets k (fnOf R l) := fun k h1 h2 => by rw [lmP_dets hs h1 h2]; exact hp _ (by omega)
  refine ⟨⟨def_sym h, fun v hv => pos_def R _ (def_sym h) hd v hv⟩, ?_⟩
  rcases Nat.eq_zero_or_pos R with e | e
  · subst e; exact Int.zero_lt_one
  · exact hd R e (Nat.le_refl _)
/-- a vector of a box -/
theorem boxF_mem {low high : List Int} {i : Nat} {v : List Int} (hv : v.length = i) (h : ∀ j, j < i → nth low j ≤ nth v j ∧ nth v j ≤ nth high j) : v ∈ boxF low high i := by
  induction i generalizing v with
  | zero => rw [List.length_eq_zero_iff.1 hv]; simp [boxF]
  | succ i ih =>
    have e : v = v.take i ++ [nth v i] := by
      have h1 : v.drop i = [nth v i] := by
        rw [List.drop_eq_getElem_cons (by omega), List.drop_eq_nil_of_le (by omega), nth_get _ _ (by omega)]
      rw [← h1, List.take_append_drop]
    have hu : (v.take i).length = i := by rw [List.length_take]; omega
    have hn : ∀ j, j < i → nth (v.take i) j = nth v j := fun j hj => by
      unfold nth; simp only [List.getD_eq_getElem?_getD, List.getElem?_take, if_pos hj]
    have m := ih hu fun j hj => by rw [hn j hj]; exact h j (by omega)
    obtain ⟨h1, h2⟩ := h i (by omega)
    rw [boxF, boxStep, List.mem_flatMap]
    refine ⟨_, m, ?_⟩
    unfold grownBy
    rw [List.mem_map]
    refine ⟨(nth v i - nth low i).toNat, ?_, ?_⟩
    · rw [List.mem_range]; unfold width; omega
    · rw [show nth low i + ((nth v i - nth low i).toNat : Int) = nth v i by omega, ← e]
theorem grownBy_nodup (lo : Int) (n : Nat) (v : List Int) : (grownBy lo n v).Nodup := by
  unfold grownBy
  unfold List.Nodup
  rw [List.pairwise_map]
  refine List.Pairwise.imp ?_ (List.nodup_range (n := n))
  intro a b hab he
  have := List.append_cancel_left he
  simp at this
  omega
theorem boxF_nodup (low high : List Int) (i : Nat) : (boxF low high i).Nodup := by
  induction i with
  | zero => simp [boxF]
  | succ i ih =>
    rw [boxF, boxStep]
    unfold List.Nodup
    rw [List.pairwise_flatMap]
    refine ⟨fun v _ => grownBy_nodup _ _ v, List.Pairwise.imp ?_ ih⟩
    intro u v huv x hx y hy hxy
    unfold grownBy at hx hy
    obtain ⟨a, _, rfl⟩ := List.mem_map.1 hx
    obtain ⟨b, _, e⟩ := List.mem_map.1 hy
    rw [← e] at hxy
    have := (List.append_inj' hxy (by simp)).1
    exact huv this
theorem bxP_nth {a s : List Int} {R : Nat} {d b : Int} {k : Nat} (h : bxP a R d b k = some s) {i : Nat} (hi : i < k) : nth s i = rootI ((b * nth a (i * R + i)).tdiv d) ∧ isNum (b * nth a (i * R + i)) = true := by
  induction k generalizing s with
  | zero => omega
  | succ k ih =>
    rw [bxP] at h
    obtain ⟨s', h1, h2⟩ := Option.bind_eq_some_iff.1 h
    have hl := bxP_length h1
    split at h2
    · rename_i hn
      cases h2
      by_cases e : i = k
      · subst e; rw [nth_append_right _ _ _ (by omega), hl, Nat.sub_self]; exact ⟨rfl, hn⟩
      · rw [nth_append_left _ _ _ (by omega)]; exact ih h1 (by omega)
    · cases h2
theorem rootI_ge {n : Int} {x : Int} (h0 : 0 ≤ n) (h : x * x ≤ n) : - rootI n ≤ x ∧ x ≤ rootI n := by
  have hs := rootN_spec n.toNat
  have hx : x.natAbs ≤ rootN n.toNat := by
    refine Classical.byContradiction fun hc => ?_
    have h1 : rootN n.toNat + 1 ≤ x.natAbs := by omega
    have h2 := Nat.mul_le_mul h1 h1
    have h3 : ((x.natAbs * x.natAbs : Nat) : Int) = x * x := by rw [← Int.natAbs_mul_self]
    omega
  unfold rootI
  omega
/-- a cell of the adjugate -/
theorem adj_cell {n : Nat} {l : List Int} {a : MX} (h : adjO ⟨((n + 1 : Nat) : Int), ((n + 1 : Nat) : Int), l⟩ = some a) {i : Nat} (hi : i < n + 1) : nth a.l (i * (n + 1) + i) = cof n (fnOf (n + 1) l) i i := by
  unfold adjO at h
  split at h
  · rename_i hh
    simp only [Bool.and_eq_true, Int.toNat_natCast] at hh
    cases h
    simp only [Int.toNat_natCast]
    have hn := (allNum_iff _).1 hh.2 (i * (n + 1) + i) (by rw [adjB_length]; exact idx_lt hi hi)
    unfold adjB at hn ⊢
    rw [tab_nth _ hi hi] at hn ⊢
    cases hd : adjc (n + 1) l i i with
    | none => rw [adjF_none hd, bad_not] at hn; cases hn
    | some d =>
      rw [adjF_some hd, if_neg (by omega)]
      unfold adjc at hd
      rw [Nat.add_sub_cancel] at hd
      rw [← detO_dets n _ _ hd]
      unfold cof
      have e : sgn (i + i) = 1 := by unfold sgn; rw [if_neg (by omega)]
      rw [e, Int.one_mul]
      exact dets_congr fun a b ha hb => by
        have := crs_nth (R := n + 1) (C := n + 1) (l := l) (ri := i) (ci := i) (a := a) (b := b) hi hi (by omega) (by omega)
        simp only [Nat.add_sub_cancel] at this
        unfold fnOf
        rw [this]
  · cases h
theorem boxO_parts {R : Nat} {l s : List Int} {b : Int} (h : boxO ⟨R, R, l⟩ b = some s) : isDef R R l = true ∧ 0 ≤ b ∧ b ≤ 10000 ∧ ∃ a d, adjO ⟨R, R, l⟩ = some a ∧ dtO ⟨R, R, l⟩ = some d ∧ 0 < d ∧ bxP a.l R d b R = some s := by
  have hd := boxO_def h
  have hb := boxO_bound h
  obtain ⟨d, h1, h2⟩ := isDef_det hd
  unfold boxO at h
  split at h
  · rename_i hh
    simp only [Bool.and_eq_true] at hh
    obtain ⟨a, ha⟩ := Option.isSome_iff_exists.1 hh.1
    simp only [Int.toNat_natCast] at h
    rw [ha] at h
    have h1' : dtO ⟨R, R, l⟩ = some d := h1
    rw [h1'] at h
    exact ⟨hd, hb.1, hb.2, a, d, ha, h1', h2, h⟩
  · cases h
/-- the cells of a short vector are in the box -/
theorem box_in {R : Nat} {l s : List Int} {b : Int} (h : boxO ⟨R, R, l⟩ b = some s) {v : Nat → Int} (hq : qf R (fnOf R l) v ≤ b) {i : Nat} (hi : i < R) : - nth s i ≤ v i ∧ v i ≤ nth s i := by
  obtain ⟨n, rfl⟩ : ∃ n, R = n + 1 := ⟨R - 1, by omega⟩
  obtain ⟨hd, hb, _, a, d, ha, hdt, hd0, hx⟩ := boxO_parts h
  obtain ⟨P, hD⟩ := def_posF hd
  obtain ⟨e1, e2⟩ := bxP_nth hx hi
  rw [adj_cell ha hi] at e1 e2
  have hdd : dets (n + 1) (fnOf (n + 1) l) = d := by
    rw [dtO_yes (isDef_sq hd)] at hdt
    exact detO_dets _ _ _ hdt
  have hc := box_cell P hD v hi
  rw [hdd] at hc
  have hcof : 0 ≤ cof n (fnOf (n + 1) l) i i := by
    have hk := box_cell P hD (fun j => if j = i then 1 else 0) hi
    rw [hdd, if_pos rfl] at hk
    have hp := P.pos (fun j => if j = i then 1 else 0) ⟨i, hi, by rw [if_pos rfl]; decide⟩
    refine Classical.byContradiction fun hneg => ?_
    have := Int.mul_neg_of_pos_of_neg hp (show cof n (fnOf (n + 1) l) i i < 0 by omega)
    omega
  generalize cof n (fnOf (n + 1) l) i i = c at *
  have h1 : v i * v i * d ≤ b * c := Int.le_trans hc (Int.mul_le_mul_of_nonneg_right hq hcof)
  have h2 : v i * v i ≤ (b * c).tdiv d := by
    rw [Int.tdiv_eq_ediv_of_nonneg (Int.mul_nonneg hb hcof)]
    exact (Int.le_ediv_iff_mul_le hd0).2 h1
  rw [e1]
  have h3 : 0 ≤ v i * v i := by rcases Int.le_total 0 (v i) with h | h; exact Int.mul_nonneg h h; exact Int.mul_nonneg_of_nonpos_of_nonpos h h
  exact rootI_ge (by omega) h2
end Go.Proofs.Ythajmffhgbenpaa

/- append(s, rows...) of slices of slices. -/
namespace Go.Proofs.Ythajmffhgbenpaa
set_option linter.unusedSimpArgs false
set_option linter.unusedVariables false
open Go.RowKit

theorem run_appVn (t ts : TypeId) (hu : Try.prog.underlying ts = some (.slice t)) (hi : (Try.prog.info? t).map (fun i => (i.zero, i.size, i.bytes)) = some (some (.slice none 0 0), 1, 24)) (w : World) (ty : TypeId) (B : Nat) (v : Value) (vs : List Value) (hown : OwnV t w B v vs)
    (A : Option Addr) (us : List Value) (c : Nat) (hr : RdV w A us) (hu1 : ∀ u ∈ us, u.oneCell' = true) (hl : vs.length + us.length ≤ 1099511627776) (hB : B ≤ w.heap.size) :
    ∃ v' w', (Builtin.append_ #[ts, ts] ty #[v, .slice A us.length c]).run Try.prog w = .ok v' w' ∧ OwnV t w' B v' (vs ++ us) ∧ w.grownBy w' v.ownBlock ∧ (v'.ownBlock = v.ownBlock ∨ ∃ g, v'.ownBlock = some g ∧ w.heap.size ≤ g) := by
  obtain ⟨i0, hi0, hz0, hz1, hz2⟩ := info_parts hi
  by_cases hm : us = []
  · subst hm
    rcases A with _ | ad
    · refine ⟨v, w, ?_, by simpa using hown, World.grownBy.refl w _, .inl rfl⟩
      rcases hown.2 with ⟨rfl, h0⟩ | ⟨g, cap, cur, rfl, _, _, hnc, _⟩
      · simp [Builtin.append_, run_underlying hu, sizeOf, typeInfo, hi0, Builtin.lenOf, Builtin.firstCells]
      · simp [Builtin.append_, run_underlying hu, sizeOf, typeInfo, hi0, Builtin.lenOf, Builtin.firstCells, hnc, storeCells]
    · obtain ⟨v', w', hrun, h2, h3, _, h5⟩ := run_append_own_at (P := Try.prog) w B ts ty t i0 (.slice none 0 0) 1 24 hu hi0 hz0 hz1 hz2 rfl (by omega) v vs.length vs hown
        ad 0 c [] (by simp) (by simp) (by simp) (by simp [maxLen] at *; omega) (by simp at hl; omega) hB
      exact ⟨v', w', hrun, by unfold OwnV; simpa using h2, h3, by rcases h5 with h5 | h5; exact .inl h5; exact .inr ⟨_, h5, Nat.le_refl _⟩⟩
  · have hpos : 0 < us.length := List.length_pos_iff.2 hm
    obtain ⟨b, off, rfl, _, _⟩ := hr 0 us[0] (List.getElem?_eq_getElem hpos)
    have hcell : ∀ j u, us[j]? = some u → w.cell? ((⟨b, off, none⟩ : Addr).add j) = some u := by
      intro j u hj
      obtain ⟨b', off', e, _, hc⟩ := hr j u hj
      simp only [Option.some.injEq, Addr.mk.injEq, and_true] at e
      obtain ⟨rfl, rfl⟩ := e
      rw [← hc]
      unfold Addr.add
      by_cases e : j = 0 <;> simp [e]
    obtain ⟨v', w', hrun, h2, h3, _, h5⟩ := run_append_own_at (P := Try.prog) w B ts ty t i0 (.slice none 0 0) 1 24 hu hi0 hz0 hz1 hz2 rfl (by omega) v vs.length vs hown
      ⟨b, off, none⟩ us.length c us (by simp) hcell hu1 (by simp [maxLen]; omega) (by omega) hB
    exact ⟨v', w', hrun, by unfold OwnV; rw [List.length_append]; exact h2, h3, by rcases h5 with h5 | h5; exact .inl h5; exact .inr ⟨_, h5, Nat.le_refl _⟩⟩
section
variable {α : Type} {ad : Value → Option Nat} {R : World → Value → α → Prop}
theorem ownR_appn {t : TypeId} {w w' : World} {B : Nat} {v v' : Value} {vs us : List Value} {L M : List α} {S : List Value} (hG : GoodR ad R) (hvl : vs.length = L.length) (hul : us.length = M.length) (hvR : ∀ (i : Nat) (u : Value) (x : α), vs[i]? = some u → L[i]? = some x → R w u x) (hsp : ∀ (i : Nat) (u : Value), vs[i]? = some u → ∀ g, ad u = some g → v.ownBlock ≠ some g ∧ ∀ s ∈ S, s.ownBlock ≠ some g)
    (hz : ∀ (i : Nat) (u : Value) (x : α), us[i]? = some u → M[i]? = some x → R w u x) (hu : ∀ (i : Nat) (u : Value), us[i]? = some u → ∀ g, ad u = some g → v.ownBlock ≠ some g ∧ ∀ s ∈ S, s.ownBlock ≠ some g) (h2 : OwnV t w' B v' (vs ++ us)) (h3 : w.grownBy w' v.ownBlock) (h4 : v'.ownBlock = v.ownBlock ∨ ∃ g, v'.ownBlock = some g ∧ w.heap.size ≤ g) : OwnR t ad R w' B v' (L ++ M) S := by
  have key : ∀ (i : Nat) (u' : Value) (x' : α), (vs ++ us)[i]? = some u' → (L ++ M)[i]? = some x' → R w u' x' ∧ ∀ g, ad u' = some g → v.ownBlock ≠ some g ∧ ∀ s ∈ S, s.ownBlock ≠ some g := by
    intro i u' x' h5 h6
    by_cases e : i < vs.length
    · rw [List.getElem?_append_left e] at h5
      rw [List.getElem?_append_left (by omega)] at h6
      exact ⟨hvR i u' x' h5 h6, hsp i u' h5⟩
    · rw [List.getElem?_append_right (by omega)] at h5 h6
      rw [← hvl] at h6
      exact ⟨hz _ u' x' h5 h6, hu _ u' h5⟩
  refine ⟨vs ++ us, by simp [hvl, hul], h2, fun i u' x' h5 h6 => hG.keep _ _ _ _ _ h3 (fun g hg => ((key i u' x' h5 h6).2 g hg).1) (key i u' x' h5 h6).1, fun i u' h5 g hg => ?_⟩
  have hlt : i < (L ++ M).length := by have := (List.getElem?_eq_some_iff.1 h5).1; simp [hvl, hul] at this ⊢; omega
  have hk := key i u' _ h5 (List.getElem?_eq_getElem hlt)
  refine ⟨fun e => ?_, (hk.2 g hg).2⟩
  rcases h4 with h4 | ⟨g', h4, h5'⟩
  · exact (hk.2 g hg).1 (by rw [← h4]; exact e)
  · rw [h4] at e
    cases e
    have := hG.low _ _ _ _ hk.1 hg
    omega
/-- what is read as rows, with blocks that are kept apart from -/
def RdRS (ad : Value → Option Nat) (R : World → Value → α → Prop) (w : World) (A : Option Addr) (L : List α) (S : List Value) : Prop :=
  ∃ vs : List Value, vs.length = L.length ∧ RdV w A vs ∧ (∀ u ∈ vs, u.oneCell' = true) ∧ (∀ (i : Nat) (u : Value) (x : α), vs[i]? = some u → L[i]? = some x → R w u x) ∧ ∀ (i : Nat) (u : Value), vs[i]? = some u → ∀ g, ad u = some g → ∀ s ∈ S, s.ownBlock ≠ some g
/-- rows that were there before the blocks of S -/
theorem RdR.apart {w w' : World} {A : Option Addr} {L : List α} {S : List Value} (hG : GoodR ad R) (h1 : ∀ w u x, R w u x → u.oneCell' = true) (h : RdR R w A L) (k : Grows w w') (hS : ∀ s ∈ S, ∀ g, s.ownBlock = some g → w.heap.size ≤ g) : RdRS ad R w' A L S := by
  obtain ⟨vs, hl, hr, hR⟩ := h
  have hx : ∀ (i : Nat) (u : Value), vs[i]? = some u → ∃ x, R w u x := fun i u hi => by
    have hlt : i < L.length := by rw [← hl]; exact (List.getElem?_eq_some_iff.1 hi).1
    exact ⟨_, hR i u _ hi (List.getElem?_eq_getElem hlt)⟩
  refine ⟨vs, hl, hr.grows k, fun u hu => ?_, fun i u x h1 h2 => hG.grows (hR i u x h1 h2) k, fun i u hi g hg s hs e => ?_⟩
  · obtain ⟨i, hi, rfl⟩ := List.getElem_of_mem hu
    obtain ⟨x, hx⟩ := hx i _ (List.getElem?_eq_getElem hi)
    exact h1 _ _ _ hx
  · obtain ⟨x, hx⟩ := hx i u hi
    have := hG.low _ _ _ _ hx hg
    have := hS s hs g e
    omega
theorem RdV.slice {w : World} {A : Option Addr} {vs : List Value} (h : RdV w A vs) (lo hi : Nat) (_hlo : lo ≤ hi) (hhi : hi ≤ vs.length) (cap : Nat) (hc : vs.length ≤ cap) :
    RdV w (if cap = lo then A else A.map (·.add (lo * 1))) ((vs.take hi).drop lo) := by
  intro i u hu
  have hi' := (List.getElem?_eq_some_iff.1 hu).1
  simp at hi'
  have hlt : lo + i < hi := by omega
  rw [List.getElem?_drop, List.getElem?_take, if_pos hlt] at hu
  obtain ⟨b, off, rfl, hb, hcell⟩ := h (lo + i) u hu
  rw [if_neg (by omega)]
  refine ⟨b, off + lo, ?_, hb, ?_⟩
  · simp only [Option.map_some, Nat.mul_one]
    unfold Addr.add
    by_cases e : lo = 0 <;> simp [e]
  · rw [Nat.add_assoc, hcell]
theorem RdR.slice {w : World} {A : Option Addr} {L : List α} (h : RdR R w A L) (lo hi : Nat) (hlo : lo ≤ hi) (hhi : hi ≤ L.length) (cap : Nat) (hc : L.length ≤ cap) :
    RdR R w (if cap = lo then A else A.map (·.add (lo * 1))) ((L.take hi).drop lo) := by
  obtain ⟨vs, hl, hr, hR⟩ := h
  refine ⟨(vs.take hi).drop lo, by simp [hl], hr.slice lo hi hlo (by omega) cap (by omega), fun i u x h1 h2 => ?_⟩
  rw [List.getElem?_drop] at h1 h2
  have hlt : lo + i < hi := by have := (List.getElem?_eq_some_iff.1 h1).1; simp at this; omega
  rw [List.getElem?_take, if_pos hlt] at h1 h2
  exact hR _ _ _ h1 h2
/-- out = append(out, rows...) -/
theorem wpList_appRn {ops : Array Oper} {rest : List Oper} {o : Oper} {a : Act} {Q : Exit → Act → World → Prop} (t ts : TypeId) (hu : Try.prog.underlying ts = some (.slice t)) (hi : (Try.prog.info? t).map (fun i => (i.zero, i.size, i.bytes)) = some (some (.slice none 0 0), 1, 24)) (hgd : o.guard = none) (s x : Operand)
    (ho : o.op = .call { callee := .builtin .append, args := #[s, x], argTypes := #[ts, ts] }) (w : World) (hG : GoodR ad R)
    (B : Nat) (v : Value) (L : List α) (S : List Value) (hs : a.eval s = v) (hown : OwnR t ad R w B v L S) (A : Option Addr) (M : List α) (n c : Nat) (hx : a.eval x = .slice A n c) (hn : M.length = n) (hr : RdRS ad R w A M (v :: S))
    (hl : L.length + M.length ≤ 1099511627776) (hB : B ≤ w.heap.size)
    (h : ∀ v' w', OwnR t ad R w' B v' (L ++ M) S → w.grownBy w' v.ownBlock → (v'.ownBlock = v.ownBlock ∨ ∃ g, v'.ownBlock = some g ∧ w.heap.size ≤ g) → wpList Try.prog ops Q rest (a.put o.dst v') w') :
    wpList Try.prog ops Q (o :: rest) a w := by
  subst hn
  obtain ⟨vs, hvl, hvo, hvR, hsp⟩ := hown
  obtain ⟨us, hul, hur, hu1, huR, husp⟩ := hr
  obtain ⟨v', w', hrun, h2, h3, h4⟩ := run_appVn t ts hu hi w o.type B v vs hvo A us c hur hu1 (by omega) hB
  rw [hul] at hrun
  refine wpList_plain hgd fun _ hK => ?_
  unfold Oper.wp execOp
  simp only [ho, resolve, invoke, builtin, Sem.run_bind, Sem.run_pure, Result.andThen_ok, List.map_toArray, List.map_cons, List.map_nil, hs, hx, hrun]
  exact hK _ _ (h v' w' (ownR_appn hG hvl hul hvR hsp huR (fun i u hi g hg => ⟨husp i u hi g hg v List.mem_cons_self, fun s hs => husp i u hi g hg s (List.mem_cons_of_mem _ hs)⟩) h2 h3 h4) h3 h4)
/-- .. at a step of a region that draws -/
theorem step_appRn {ops : Array Oper} {o : Oper} {a : Act} {K : Act → World → Prop} {Q : Exit → Act → World → Prop} {E : Prop} (t ts : TypeId) (hu : Try.prog.underlying ts = some (.slice t)) (hi : (Try.prog.info? t).map (fun i => (i.zero, i.size, i.bytes)) = some (some (.slice none 0 0), 1, 24)) (hgd : o.guard = none) (s x : Operand)
    (ho : o.op = .call { callee := .builtin .append, args := #[s, x], argTypes := #[ts, ts] }) (w : World) (hG : GoodR ad R)
    (B : Nat) (v : Value) (L : List α) (S : List Value) (hs : a.eval s = v) (hown : OwnR t ad R w B v L S) (A : Option Addr) (M : List α) (n c : Nat) (hx : a.eval x = .slice A n c) (hn : M.length = n) (hr : RdRS ad R w A M (v :: S))
    (hl : L.length + M.length ≤ 1099511627776) (hB : B ≤ w.heap.size)
    (h : ∀ v' w', OwnR t ad R w' B v' (L ++ M) S → w.grownBy w' v.ownBlock → (v'.ownBlock = v.ownBlock ∨ ∃ g, v'.ownBlock = some g ∧ w.heap.size ≤ g) → K (a.put o.dst v') w') :
    if Region.wanted o (yielded ops a.tmps) = true then Oper.wp Try.prog o a w K Q else E := by
  have hw : Region.wanted o (yielded ops a.tmps) = true := by simp [Region.wanted, hgd]
  rw [if_pos hw]
  subst hn
  obtain ⟨vs, hvl, hvo, hvR, hsp⟩ := hown
  obtain ⟨us, hul, hur, hu1, huR, husp⟩ := hr
  obtain ⟨v', w', hrun, h2, h3, h4⟩ := run_appVn t ts hu hi w o.type B v vs hvo A us c hur hu1 (by omega) hB
  rw [hul] at hrun
  unfold Oper.wp execOp
  simp only [ho, resolve, invoke, builtin, Sem.run_bind, Sem.run_pure, Result.andThen_ok, List.map_toArray, List.map_cons, List.map_nil, hs, hx, hrun]
  exact h v' w' (ownR_appn hG hvl hul hvR hsp huR (fun i u hi g hg => ⟨husp i u hi g hg v List.mem_cons_self, fun s hs => husp i u hi g hg s (List.mem_cons_of_mem _ hs)⟩) h2 h3 h4) h3 h4
end
end Go.Proofs.Ythajmffhgbenpaa

/- Slices of slices of integers whose rows are owned, one by one, each in a block of its own. -/
namespace Go.Proofs.Ythajmffhgbenpaa
set_option linter.unusedSimpArgs false
set_option linter.unusedVariables false
open Go.RowKit

theorem und_ii : Try.prog.underlying 36 = some (.slice 24) := Try.underlying36
theorem info_is : (Try.prog.info? 24).map (fun i => (i.zero, i.size, i.bytes)) = some (some (.slice none 0 0), 1, 24) := by kernel_rfl

/-- v owns the values vs, which own the rows L, all from block B on, no two in one block -/
structure RowsO (w : World) (B : Nat) (v : Value) (vs : List Value) (L : List (List Int)) : Prop where
  len : vs.length = L.length
  own : OwnV 24 w B v vs
  row : ∀ (i : Nat) (u : Value) (x : List Int), vs[i]? = some u → L[i]? = some x → Own w B u x
  far : ∀ (i : Nat) (u : Value), vs[i]? = some u → ∀ g, u.ownBlock = some g → v.ownBlock ≠ some g
  nod : ∀ (i j : Nat) (u u' : Value), vs[i]? = some u → vs[j]? = some u' → i ≠ j → ∀ g, u.ownBlock = some g → u'.ownBlock ≠ some g

section
variable {w w' : World} {B B' : Nat} {v : Value} {vs : List Value} {L : List (List Int)} {A : Option Addr}
theorem RowsO.any (h : RowsO w B v vs L) {i : Nat} {u : Value} (hi : vs[i]? = some u) : ∃ x, L[i]? = some x ∧ Own w B u x := by
  have hlt : i < L.length := by rw [← h.len]; exact (List.getElem?_eq_some_iff.1 hi).1
  exact ⟨_, List.getElem?_eq_getElem hlt, h.row i u _ hi (List.getElem?_eq_getElem hlt)⟩
theorem RowsO.lt (h : RowsO w B v vs L) {i : Nat} {u : Value} (hi : vs[i]? = some u) {g : Nat} (hg : u.ownBlock = some g) : B ≤ g ∧ g < w.heap.size := by
  obtain ⟨x, _, ho⟩ := h.any hi
  exact World.ownsRow.lt ho g hg
theorem RowsO.grows (h : RowsO w B v vs L) (k : Grows w w') : RowsO w' B v vs L :=
  ⟨h.len, h.own.grows k, fun i u x h1 h2 => (h.row i u x h1 h2).grows k, h.far, h.nod⟩
theorem RowsO.less (h : RowsO w B v vs L) (hB : B' ≤ B) : RowsO w B' v vs L :=
  ⟨h.len, h.own.less hB, fun i u x h1 h2 => (h.row i u x h1 h2).less hB, h.far, h.nod⟩
theorem RowsO.new_ (w : World) {B b : Nat} (hb : w.heap.size = b) (hB : B ≤ b) : RowsO (w.alloc (.cells #[] 24)) B (.slice (some ⟨b, 0, none⟩) 0 0) [] [] :=
  ⟨rfl, OwnV.new_ _ w hb hB, fun i u x h => by simp at h, fun i u h => by simp at h, fun i j u u' h => by simp at h⟩
theorem RowsO.nil (w : World) (B : Nat) : RowsO w B (.slice none 0 0) [] [] :=
  ⟨rfl, OwnV.nil _ w B, fun i u x h => by simp at h, fun i u h => by simp at h, fun i j u u' h => by simp at h⟩
theorem RowsO.rsi (h : RowsO w B v vs L) {i : Nat} {u : Value} {x : List Int} (h1 : vs[i]? = some u) (h2 : L[i]? = some x) : RSI w u x := by
  obtain ⟨A, c, e, hr, hc⟩ := (h.row i u x h1 h2).val
  exact ⟨A, c, e, hr, hc⟩
theorem RowsO.val (h : RowsO w B v vs L) : ∃ A cap, v = .slice A L.length cap ∧ RdR RSI w A L ∧ L.length ≤ cap := by
  obtain ⟨A, cap, e, h1, h2⟩ := h.own.val
  rw [h.len] at e h2
  exact ⟨A, cap, e, ⟨vs, h.len, h1, fun i u x h3 h4 => h.rsi h3 h4⟩, h2⟩
theorem RowsO.rd {n c : Nat} (h : RowsO w B (.slice A n c) vs L) : RdR RSI w A L := by
  obtain ⟨A', c', e, hr, _⟩ := h.val
  injection e with e1 _ _
  rw [e1]; exact hr
theorem RowsO.low {p : Addr} (h : RowsO w B v vs L) (hp : p.block < B) (u : Value) : RowsO (w.setCell p u) B v vs L :=
  ⟨h.len, h.own.low hp u, fun i u' x h1 h2 => (h.row i u' x h1 h2).low hp u, h.far, h.nod⟩
theorem RowsO.drew (h : RowsO w B v vs L) : RowsO w.drew B v vs L := ⟨h.len, h.own.drew, fun i u x h1 h2 => (h.row i u x h1 h2).drew, h.far, h.nod⟩
theorem RowsO.drewN_ (h : RowsO w B v vs L) {n : Nat} : RowsO (w.drewN n) B v vs L := h.grows (below_drewN (Below.refl _ _) n)
theorem RowsO.alloc (h : RowsO w B v vs L) (o : Obj) : RowsO (w.alloc o) B v vs L := h.grows ((Below.refl _ _).alloc (Nat.le_refl _) o)
/-- a change to a block that is none of these -/
theorem RowsO.other (h : RowsO w B v vs L) {r : Option Nat} (hg : w.grownBy w' r) (h1 : ∀ g, r = some g → v.ownBlock ≠ some g) (h2 : ∀ g, r = some g → ∀ (i : Nat) (u : Value), vs[i]? = some u → u.ownBlock ≠ some g) : RowsO w' B v vs L := by
  refine ⟨h.len, World.ownsRow.kept h.own hg ?_, fun i u x h3 h4 => World.ownsRow.kept (h.row i u x h3 h4) hg ?_, h.far, h.nod⟩
  · cases e : v.ownBlock with
    | none => exact .inl rfl
    | some g => exact .inr fun e2 => h1 g e2.symm e
  · cases e : u.ownBlock with
    | none => exact .inl rfl
    | some g => exact .inr fun e2 => h2 g e2.symm i u h3 e
/-- what is known behind an append of one row that lies apart -/
theorem RowsO.app {u : Value} {z : List Int} {v' : Value} (h : RowsO w B v vs L) (hz : Own w B u z) (hu : ∀ g, u.ownBlock = some g → v.ownBlock ≠ some g ∧ ∀ (i : Nat) (u' : Value), vs[i]? = some u' → u'.ownBlock ≠ some g)
    (h2 : OwnV 24 w' B v' (vs ++ [u])) (h3 : w.grownBy w' v.ownBlock) (h4 : v'.ownBlock = v.ownBlock ∨ ∃ g, v'.ownBlock = some g ∧ w.heap.size ≤ g) : RowsO w' B v' (vs ++ [u]) (L ++ [z]) := by
  have hl := h.len
  have key : ∀ (i : Nat) (u' : Value), (vs ++ [u])[i]? = some u' → (vs[i]? = some u' ∧ i < vs.length) ∨ (i = vs.length ∧ u' = u) := fun i u' hi => by
    by_cases e : i < vs.length
    · rw [List.getElem?_append_left e] at hi; exact .inl ⟨hi, e⟩
    · rw [List.getElem?_append_right (by omega)] at hi
      cases hj : i - vs.length with
      | zero => rw [hj] at hi; simp at hi; exact .inr ⟨by omega, hi.symm⟩
      | succ j => rw [hj] at hi; simp at hi
  have kept : ∀ {o : Value} {x : List Int}, Own w B o x → (∀ g, o.ownBlock = some g → v.ownBlock ≠ some g) → Own w' B o x := fun {o} {x} ho hne => by
    refine World.ownsRow.kept ho h3 ?_
    cases e : o.ownBlock with
    | none => exact .inl rfl
    | some g => exact .inr fun e2 => hne g e e2.symm
  refine ⟨by simp [hl], h2, fun i u' x h5 h6 => ?_, fun i u' h5 g hg e => ?_, fun i j a b ha hb hne g hg => ?_⟩
  · rcases key i u' h5 with ⟨h7, h8⟩ | ⟨rfl, rfl⟩
    · rw [List.getElem?_append_left (by omega)] at h6
      exact kept (h.row i u' x h7 h6) fun g hg => h.far i u' h7 g hg
    · rw [hl] at h6
      simp at h6
      subst h6
      exact kept hz fun g hg => (hu g hg).1
  · have hlt : g < w.heap.size := by
      rcases key i u' h5 with ⟨h7, _⟩ | ⟨_, rfl⟩
      · exact (h.lt h7 hg).2
      · exact (World.ownsRow.lt hz g hg).2
    rcases h4 with h4 | ⟨g', h4, h5'⟩
    · rw [h4] at e
      rcases key i u' h5 with ⟨h7, _⟩ | ⟨_, rfl⟩
      · exact h.far i u' h7 g hg e
      · exact (hu g hg).1 e
    · rw [h4] at e
      cases e
      omega
  · rcases key i a ha with ⟨h7, h8⟩ | ⟨rfl, rfl⟩ <;> rcases key j b hb with ⟨h9, h10⟩ | ⟨rfl, rfl⟩
    · exact h.nod i j a b h7 h9 hne g hg
    · intro e
      exact (hu g e).2 i a h7 hg
    · exact (hu g hg).2 j b h9
    · omega
end
/-- out = append(out, x), x a row that lies apart -/
theorem wpList_appO1 {ops : Array Oper} {rest : List Oper} {o : Oper} {a : Act} {Q : Exit → Act → World → Prop} (hgd : o.guard = none) (s x : Operand)
    (ho : o.op = .call { callee := .builtin .append, args := #[s, x], argTypes := #[36, 36] }) (w : World) (u : Value) (z : List Int)
    (B : Nat) (v : Value) (vs : List Value) (L : List (List Int)) (hs : a.eval s = v) (hown : RowsO w B v vs L) (hz : Own w B u z) (hu : ∀ g, u.ownBlock = some g → v.ownBlock ≠ some g ∧ ∀ (i : Nat) (u' : Value), vs[i]? = some u' → u'.ownBlock ≠ some g) (hu1 : u.oneCell' = true) (hx : a.eval x = .slice (some ⟨w.heap.size, 0, none⟩) 1 1)
    (hl : L.length + 1 ≤ 1099511627776) (hB : B ≤ w.heap.size)
    (h : ∀ v' w', RowsO w' B v' (vs ++ [u]) (L ++ [z]) → w.grownBy w' v.ownBlock → (v'.ownBlock = v.ownBlock ∨ ∃ g, v'.ownBlock = some g ∧ w.heap.size ≤ g) → wpList Try.prog ops Q rest (a.put o.dst v') w') :
    wpList Try.prog ops Q (o :: rest) a (w.alloc (.cells #[u] 24)) := by
  obtain ⟨v', w', hrun, h2, h3, h4⟩ := run_appV1 24 36 und_ii info_is w o.type B v vs hown.own u hu1 (by rw [hown.len]; omega) hB
  refine wpList_plain hgd fun _ hK => ?_
  unfold Oper.wp execOp
  simp only [ho, resolve, invoke, builtin, Sem.run_bind, Sem.run_pure, Result.andThen_ok, List.map_toArray, List.map_cons, List.map_nil, hs, hx, hrun]
  exact hK _ _ (h v' w' (hown.app hz hu h2 h3 h4) h3 h4)
theorem below_appO {w w' : World} {B : Nat} {v : Value} {vs : List Value} {L : List (List Int)} (h : RowsO w B v vs L) (hB : B ≤ w.heap.size) (hg : w.grownBy w' v.ownBlock) : Below B w w' := below_appR h.own hB hg
end Go.Proofs.Ythajmffhgbenpaa

/- The cells of the box of a form; a row of owned rows. -/
namespace Go.Proofs.Ythajmffhgbenpaa
set_option linter.unusedSimpArgs false
set_option linter.unusedVariables false
open Go.RowKit

theorem rootN_bd {n : Nat} (h : n ≤ 400000000) : rootN n ≤ 20000 := by
  have h1 := (rootN_spec n).1
  rcases Nat.lt_or_ge 20000 (rootN n) with h2 | h2
  · have := Nat.mul_le_mul (show 20001 ≤ rootN n by omega) (show 20001 ≤ rootN n by omega)
    omega
  · exact h2
theorem bxP_cells {a : List Int} {R : Nat} {d b : Int} {k : Nat} {s : List Int} (h : bxP a R d b k = some s) : ∀ i, i < k → 0 ≤ nth s i ∧ nth s i ≤ 20000 := by
  induction k generalizing s with
  | zero => intro i hi; omega
  | succ k ih =>
    have hl := bxP_length h
    rw [bxP] at h
    obtain ⟨s', h1, h2⟩ := Option.bind_eq_some_iff.1 h
    have hl' := bxP_length h1
    split at h2
    · rename_i hn
      cases h2
      intro i hi
      by_cases e : i = k
      · subst e
        rw [show nth (s' ++ [rootI ((b * nth a (i * R + i)).tdiv d)]) i = rootI ((b * nth a (i * R + i)).tdiv d) from by simp [nth, ← hl']]
        have hx := (isNum_iff _).1 hn
        have h3 : ((b * nth a (i * R + i)).tdiv d).natAbs ≤ (b * nth a (i * R + i)).natAbs := by rw [Int.natAbs_tdiv]; exact Nat.div_le_self _ _
        have h4 : ((b * nth a (i * R + i)).tdiv d).toNat ≤ 400000000 := by omega
        have := rootN_bd h4
        unfold rootI
        omega
      · rw [show nth (s' ++ [rootI ((b * nth a (k * R + k)).tdiv d)]) i = nth s' i from by (have h5 : i < s'.length := by omega); unfold nth; rw [List.getD_eq_getElem?_getD, List.getElem?_append_left h5, ← List.getD_eq_getElem?_getD]]
        exact ih h1 i (by omega)
    · cases h2
theorem boxO_cells {m : MX} {b : Int} {s : List Int} (h : boxO m b = some s) : ∀ i, i < s.length → 0 ≤ nth s i ∧ nth s i ≤ 20000 := by
  unfold boxO at h
  split at h
  · rw [bxP_length h]; exact bxP_cells h
  · cases h
theorem rowsD_mem {L : List (List Int)} {i : Nat} (hi : i < L.length) : L.getD i [] ∈ L := by simp [List.getD, hi]
theorem RowsO.cellAt {w : World} {B n c : Nat} {A : Option Addr} {vs : List Value} {L : List (List Int)} (h : RowsO w B (.slice A n c) vs L) {j : Nat} (hj : j < L.length) :
    ∃ b off A' c', A = some ⟨b, off, none⟩ ∧ b < w.heap.size ∧ w.cell? ⟨b, off + j, none⟩ = some (.slice A' (L.getD j []).length c') ∧ Rd w A' (L.getD j []) ∧ vs.getD j (.slice none 0 0) = .slice A' (L.getD j []).length c' ∧ Own w B (.slice A' (L.getD j []).length c') (L.getD j []) := by
  have hvl : j < vs.length := by rw [h.len]; exact hj
  have hu : vs[j]? = some (vs.getD j (.slice none 0 0)) := by simp [List.getD, hvl]
  have hL : L[j]? = some (L.getD j []) := by simp [List.getD, hj]
  have how := h.row j _ _ hu hL
  obtain ⟨A', c', e, hr, hc⟩ := how.val
  obtain ⟨b, off, rfl, hbs, hcell⟩ := h.own.rd j _ hu
  rw [e] at how hcell
  exact ⟨b, off, A', c', rfl, hbs, hcell, hr, e, how⟩

end Go.Proofs.Ythajmffhgbenpaa

/- Plain: what is near a target lies in a box around its projection. -/
namespace Go.Proofs.Ythajmffhgbenpaa
set_option linter.unusedSimpArgs false
set_option linter.unusedVariables false

/-- the square of a sum of vectors that are orthogonal -/
theorem sq_sum (m : Nat) (u w : Nat → Int) (h : (sumN m fun k => u k * w k) = 0) : (sumN m fun k => u k * u k) ≤ sumN m fun k => (u k + w k) * (u k + w k) := by
  have e : (sumN m fun k => (u k + w k) * (u k + w k)) = (sumN m fun k => u k * u k) + (2 * (sumN m fun k => u k * w k) + sumN m fun k => w k * w k) := by
    rw [← sumN_mul, ← sumN_add, ← sumN_add]
    exact sumN_congr fun k _ => by grind
  have nn : ∀ n, 0 ≤ sumN n fun k => w k * w k := fun n => by
    induction n with
    | zero => exact Int.le_refl 0
    | succ n ih =>
      rw [sumN]
      have : 0 ≤ w n * w n := by rcases Int.le_total 0 (w n) with h | h; exact Int.mul_nonneg h h; exact Int.mul_nonneg_of_nonpos_of_nonpos h h
      omega
  have := nn m
  rw [e, h]
  omega
/-- a combination of rows, squared, is the value of the form of their products -/
theorem gram_qf (n m : Nat) (B : Nat → Nat → Int) (v : Nat → Int) : (sumN m fun k => (sumN n fun i => v i * B i k) * (sumN n fun i => v i * B i k)) = qf n (fun i j => sumN m fun k => B i k * B j k) v := by
  unfold qf
  have e : ∀ k, (sumN n fun i => v i * B i k) * (sumN n fun i => v i * B i k) = sumN n fun i => sumN n fun j => v i * (B i k * B j k) * v j := fun k => by
    rw [← sumN_mul]
    rw [sumN_congr (g := fun i => (sumN n fun j => v j * B j k) * (v i * B i k)) fun i _ => rfl]
    refine sumN_congr fun i _ => ?_
    rw [Int.mul_comm, ← sumN_mul]
    exact sumN_congr fun j _ => by ac_rfl
  rw [sumN_congr fun k _ => e k, sumN_swap]
  refine sumN_congr fun i _ => ?_
  rw [sumN_swap]
  refine sumN_congr fun j _ => ?_
  rw [← sumN_mul, Int.mul_comm, ← sumN_mul]
  exact sumN_congr fun k _ => by ac_rfl
/-- the squared distance of a combination of rows from a target -/
def distF (n m : Nat) (B : Nat → Nat → Int) (t y : Nat → Int) : Int := sumN m fun k => ((sumN n fun i => y i * B i k) - t k) * ((sumN n fun i => y i * B i k) - t k)
theorem close_box {n m : Nat} {B : Nat → Nat → Int} {t P y : Nat → Int} {D : Int} (hG : PosF (n + 1) fun i j => sumN m fun k => B i k * B j k) (hD : dets (n + 1) (fun i j => sumN m fun k => B i k * B j k) = D) (h0 : 0 < D)
    (hP : ∀ r, r < n + 1 → (sumN (n + 1) fun j => (sumN m fun k => B r k * B j k) * P j) = D * sumN m fun k => B r k * t k) {i : Nat} (hi : i < n + 1) :
    (D * y i - P i) * (D * y i - P i) ≤ D * cof n (fun i j => sumN m fun k => B i k * B j k) i i * distF (n + 1) m B t y := by
  obtain ⟨N, hN⟩ : ∃ N, N = n + 1 := ⟨_, rfl⟩
  have hc := box_cell hG (by rw [hD]; exact h0) (fun i => D * y i - P i) hi
  have hcof : 0 ≤ cof n (fun i j => sumN m fun k => B i k * B j k) i i := by
    have hk := box_cell hG (by rw [hD]; exact h0) (fun j => if j = i then 1 else 0) hi
    rw [if_pos rfl, hD] at hk
    have hp := hG.pos (fun j => if j = i then 1 else 0) ⟨i, hi, by rw [if_pos rfl]; decide⟩
    refine Classical.byContradiction fun hneg => ?_
    have := Int.mul_neg_of_pos_of_neg hp (show cof n (fun i j => sumN m fun k => B i k * B j k) i i < 0 by omega)
    omega
  rw [hD] at hc
  have hq : qf (n + 1) (fun i j => sumN m fun k => B i k * B j k) (fun i => D * y i - P i) ≤ D * D * distF (n + 1) m B t y := by
    rw [← gram_qf]
    have hor : (sumN m fun k => (sumN (n + 1) fun i => (D * y i - P i) * B i k) * ((sumN (n + 1) fun i => P i * B i k) - D * t k)) = 0 := by
      have e1 : ∀ k, (sumN (n + 1) fun i => (D * y i - P i) * B i k) * ((sumN (n + 1) fun i => P i * B i k) - D * t k) = sumN (n + 1) fun i => (D * y i - P i) * (B i k * ((sumN (n + 1) fun i => P i * B i k) - D * t k)) := fun k => by
        rw [Int.mul_comm, ← sumN_mul]
        exact sumN_congr fun i _ => by ac_rfl
      rw [sumN_congr fun k _ => e1 k, sumN_swap]
      refine sumN_zero fun r hr => ?_
      rw [sumN_mul]
      have e2 : (sumN m fun k => B r k * ((sumN (n + 1) fun i => P i * B i k) - D * t k)) = (sumN (n + 1) fun j => (sumN m fun k => B r k * B j k) * P j) + (-D) * sumN m fun k => B r k * t k := by
        have e3 : (sumN (n + 1) fun j => (sumN m fun k => B r k * B j k) * P j) = sumN m fun k => B r k * sumN (n + 1) fun i => P i * B i k := by
          rw [sumN_congr (g := fun j => sumN m fun k => B r k * (P j * B j k)) fun j _ => by
            rw [Int.mul_comm, ← sumN_mul]
            exact sumN_congr fun k _ => by ac_rfl]
          rw [sumN_swap]
          exact sumN_congr fun k _ => by rw [← sumN_mul]
        rw [e3, ← sumN_mul, ← sumN_add]
        exact sumN_congr fun k _ => by grind
      rw [e2, hP r hr]
      grind
    refine Int.le_trans (sq_sum m _ _ hor) ?_
    have e4 : D * D * distF (n + 1) m B t y = sumN m fun k => ((sumN (n + 1) fun i => (D * y i - P i) * B i k) + ((sumN (n + 1) fun i => P i * B i k) - D * t k)) * ((sumN (n + 1) fun i => (D * y i - P i) * B i k) + ((sumN (n + 1) fun i => P i * B i k) - D * t k)) := by
      unfold distF
      rw [← sumN_mul]
      refine sumN_congr fun k _ => ?_
      have e5 : (sumN (n + 1) fun i => (D * y i - P i) * B i k) = D * (sumN (n + 1) fun i => y i * B i k) + (-1) * sumN (n + 1) fun i => P i * B i k := by
        rw [← sumN_mul, ← sumN_mul, ← sumN_add]
        exact sumN_congr fun i _ => by grind
      rw [e5]
      generalize (sumN (n + 1) fun i => y i * B i k) = a
      generalize (sumN (n + 1) fun i => P i * B i k) = p
      grind
    rw [e4]
    exact Int.le_refl _
  generalize cof n (fun i j => sumN m fun k => B i k * B j k) i i = c at *
  generalize distF (n + 1) m B t y = d at *
  have h1 : (D * y i - P i) * (D * y i - P i) * D ≤ D * D * d * c := Int.le_trans hc (Int.mul_le_mul_of_nonneg_right hq hcof)
  have e6 : D * D * d * c = D * c * d * D := by ac_rfl
  rw [e6] at h1
  exact Int.le_of_mul_le_mul_right h1 h0
end Go.Proofs.Ythajmffhgbenpaa

/- Plain: the cells of what is near a target, in whole numbers. -/
namespace Go.Proofs.Ythajmffhgbenpaa
set_option linter.unusedSimpArgs false
set_option linter.unusedVariables false

theorem sq_less {x k : Int} (hk : 0 ≤ k) (h : x * x < k * k) : -k < x ∧ x < k := by
  refine ⟨?_, ?_⟩
  · refine Classical.byContradiction fun hn => ?_
    have h1 : k ≤ -x := by omega
    have := Int.mul_le_mul h1 h1 hk (by omega)
    rw [Int.neg_mul_neg] at this
    omega
  · refine Classical.byContradiction fun hn => ?_
    have h1 : k ≤ x := by omega
    have := Int.mul_le_mul h1 h1 hk (by omega)
    omega
theorem close_in {D P y c d e : Int} (hD : 0 < D) (hc : 0 ≤ c) (hd : 0 ≤ d) (he : d ≤ e) (h : (D * y - P) * (D * y - P) ≤ D * c * d) :
    P / D - rootI ((e * c).tdiv D) ≤ y ∧ y ≤ P / D + 1 + rootI ((e * c).tdiv D) := by
  have hec : 0 ≤ e * c := Int.mul_nonneg (by omega) hc
  have hs := rootN_spec ((e * c).tdiv D).toNat
  have hX0 : 0 ≤ (e * c) / D := Int.ediv_nonneg hec (by omega)
  have hX : (e * c).tdiv D = (e * c) / D := Int.tdiv_eq_ediv_of_nonneg hec
  unfold rootI
  rw [hX] at hs ⊢
  generalize hs' : rootN ((e * c) / D).toNat = s at *
  have h1 : ((s + 1 : Nat) : Int) * ((s + 1 : Nat) : Int) = (((s + 1) * (s + 1) : Nat) : Int) := by rw [Int.natCast_mul]
  obtain ⟨S, hS⟩ : ∃ S : Int, S = ((s + 1 : Nat) : Int) := ⟨_, rfl⟩
  rw [← hS] at h1
  have h2 : (e * c) / D + 1 ≤ S * S := by omega
  have h3 : e * c < D * (S * S) := by
    have a1 : e * c < ((e * c) / D + 1) * D := Int.lt_ediv_add_one_mul_self (e * c) hD
    have a2 : ((e * c) / D + 1) * D ≤ S * S * D := Int.mul_le_mul_of_nonneg_right h2 (Int.le_of_lt hD)
    rw [Int.mul_comm (S * S) D] at a2
    omega
  have h4 : D * c * d ≤ D * (e * c) := by
    have a1 : d * c ≤ e * c := Int.mul_le_mul_of_nonneg_right he hc
    have a2 : D * (d * c) ≤ D * (e * c) := Int.mul_le_mul_of_nonneg_left a1 (Int.le_of_lt hD)
    have a3 : D * c * d = D * (d * c) := by ac_rfl
    rw [a3]; exact a2
  have h5 : D * (e * c) < D * (D * (S * S)) := Int.mul_lt_mul_of_pos_left h3 hD
  have h6 : (D * y - P) * (D * y - P) < (D * S) * (D * S) := by
    have a1 : (D * S) * (D * S) = D * (D * (S * S)) := by ac_rfl
    rw [a1]; omega
  obtain ⟨h7, h8⟩ := sq_less (Int.mul_nonneg (Int.le_of_lt hD) (by omega)) h6
  constructor
  · have a1 : P < (y + S) * D := by rw [Int.add_mul, Int.mul_comm y, Int.mul_comm S]; omega
    have := Int.ediv_lt_of_lt_mul hD a1
    omega
  · have a1 : (y - S) * D ≤ P := by rw [Int.sub_mul, Int.mul_comm y, Int.mul_comm S]; omega
    have := (Int.le_ediv_iff_mul_le hD).2 a1
    omega
end Go.Proofs.Ythajmffhgbenpaa

/- Plain: the squared distance of a combination of rows is the sum of squares. -/
namespace Go.Proofs.Ythajmffhgbenpaa
set_option linter.unusedSimpArgs false
set_option linter.unusedVariables false
open Go.RowKit

theorem dB_sum {p t : List Int} {n : Nat} (h : dB p t n ≠ bad) : dB p t n = sumN n fun k => (nth p k - nth t k) * (nth p k - nth t k) := by
  induction n with
  | zero => rfl
  | succ n ih =>
    have h0 : dB p t n ≠ bad := fun e => h (dB_stuck' e (Nat.le_succ n))
    have n0 : isNum (dB p t n) = true := by
      rcases dB_or p t n with e | e
      · exact absurd e h0
      · exact e
    cases h1 : isNum (nth p n - nth t n)
    · exact absurd (dB_no1 h1) h
    · cases h2 : isNum ((nth p n - nth t n) * (nth p n - nth t n))
      · exact absurd (dB_no2 h1 h2) h
      · cases h3 : isNum (dB p t n + (nth p n - nth t n) * (nth p n - nth t n))
        · exact absurd (dB_no3 n0 h1 h2 h3) h
        · rw [dB_yes n0 h1 h2 h3, sumN, ← ih h0]
theorem dVal_dist {R C : Nat} {b x t : List Int} (h : dOk R C b x t = true) : x.length = R ∧ t.length = C ∧ dVal R C b x t = distF R C (fun i k => nth b (i * C + k)) (nth t) (nth x) := by
  have h' := h
  unfold dOk at h'
  simp only [Bool.and_eq_true, beq_iff_eq, Bool.not_eq_true', beq_eq_false_iff_ne] at h'
  obtain ⟨⟨⟨h1, h2⟩, h3⟩, h4⟩ := h'
  have hx : x.length = R := by
    unfold mulOk at h1
    simp only [Bool.and_eq_true, beq_iff_eq] at h1
    omega
  have ht : t.length = C := by omega
  refine ⟨hx, ht, ?_⟩
  have e3 : mulV 1 x.length x R C b = mulL 1 R C x b := by unfold mulV; rw [h1, if_pos rfl, hx]; simp
  unfold dVal
  rw [if_pos h, dB_sum h4, e3, ht]
  unfold distF
  have cell : ∀ k, k < C → nth (mulL 1 R C x b) k = sumN R fun i => nth x i * nth b (i * C + k) := fun k hk => by
    have t2 : nth (mulL 1 R C x b) (0 * C + k) = dotTo x b R C 0 k R := tab_nth (fun i j => dotTo x b R C i j R) (by omega) hk
    rw [Nat.zero_mul, Nat.zero_add] at t2
    rw [t2, dotTo_sum]
    exact sumN_congr fun i _ => by rw [Nat.zero_mul, Nat.zero_add]
  exact sumN_congr fun k hk => by rw [cell k hk]
end Go.Proofs.Ythajmffhgbenpaa
