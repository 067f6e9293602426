/- Contracts: DistanceOf. -/
import Derived.Test.YtfloeilpghjpoaaRow
namespace Go.Proofs.Ytfloeilpghjpoaa
open Go.RowKit

section
set_option maxHeartbeats 1000000
theorem MBox.far {w : World} {b : Nat} {r c : Int} {v : Value} (h : MBox w b r c v) {p : Addr} (hne : b ≠ p.block) (u : Value) : MBox (w.setCell p u) b r c v :=
  MBox.only h (only_setCell (p := p) (World.grownBy.refl w (some p.block)) rfl u) hne
theorem MBox.alloc {w : World} {b : Nat} {r c : Int} {v : Value} (h : MBox w b r c v) (o : Obj) : MBox (w.alloc o) b r c v := h.grows ((Below.refl _ _).alloc (Nat.le_refl _) o)
theorem MBox.put {w : World} {b : Nat} {r c : Int} {v : Value} (h : MBox w b r c v) (r' c' : Int) (v' : Value) : MBox (((w.setCell ⟨b, 0, none⟩ (.int .i64 r')).setCell ⟨b, 1, none⟩ (.int .i64 c')).setCell ⟨b, 2, none⟩ v') b r' c' v' := by
  obtain ⟨h0, h1, h2⟩ := h.cells
  have hl := h.lt
  have hf := h.fz
  exact ⟨by simp; exact hl, by simp [go_sem, h0], by simp [go_sem, h1], by simp [go_sem, h2], fun o => by simp [go_sem, hf]⟩

/-- the squared distance, summed up with the marker -/
def dB (p t : List Int) : Nat → Int
  | 0 => 0
  | k + 1 => addB (dB p t k) (mulB (fit (nth p k - nth t k)) (fit (nth p k - nth t k)))
theorem dB_stuck {p t : List Int} {k : Nat} (h : dB p t k = bad) (m : Nat) : dB p t (k + m) = bad := by
  induction m with
  | zero => exact h
  | succ m ih => rw [← Nat.add_assoc, dB, ih, addB_bad_left]
theorem dB_stuck' {p t : List Int} {k n : Nat} (h : dB p t k = bad) (hn : k ≤ n) : dB p t n = bad := by
  have := dB_stuck h (n - k)
  rwa [Nat.add_sub_cancel' hn] at this
theorem fit_or (n : Int) : fit n = bad ∨ isNum (fit n) = true := by
  cases h : isNum n
  · exact .inl (fit_no h)
  · right; rw [fit_yes h]; exact h
theorem addB_or (a b : Int) : addB a b = bad ∨ isNum (addB a b) = true := by
  unfold addB
  split
  · exact .inl rfl
  · exact fit_or _
theorem mulB_or (a b : Int) : mulB a b = bad ∨ isNum (mulB a b) = true := by
  unfold mulB
  split
  · exact .inl rfl
  · exact fit_or _
theorem dB_or (p t : List Int) (k : Nat) : dB p t k = bad ∨ isNum (dB p t k) = true := by
  cases k with
  | zero => right; rfl
  | succ k => exact addB_or _ _
/-- a step -/
theorem dB_no1 {p t : List Int} {k : Nat} (h : isNum (nth p k - nth t k) = false) : dB p t (k + 1) = bad := by
  rw [dB, fit_no h, mulB_bad_left, addB_bad_right]
theorem dB_no2 {p t : List Int} {k : Nat} (h : isNum (nth p k - nth t k) = true) (h2 : isNum ((nth p k - nth t k) * (nth p k - nth t k)) = false) : dB p t (k + 1) = bad := by
  rw [dB, fit_yes h, mulB_num h h, fit_no h2, addB_bad_right]
theorem dB_step {p t : List Int} {k : Nat} (h0 : isNum (dB p t k) = true) (h : isNum (nth p k - nth t k) = true) (h2 : isNum ((nth p k - nth t k) * (nth p k - nth t k)) = true) :
    dB p t (k + 1) = fit (dB p t k + (nth p k - nth t k) * (nth p k - nth t k)) := by
  rw [dB, fit_yes h, mulB_num h h, fit_yes h2, addB_num h0 h2]
theorem dB_no3 {p t : List Int} {k : Nat} (h0 : isNum (dB p t k) = true) (h : isNum (nth p k - nth t k) = true) (h2 : isNum ((nth p k - nth t k) * (nth p k - nth t k)) = true)
    (h3 : isNum (dB p t k + (nth p k - nth t k) * (nth p k - nth t k)) = false) : dB p t (k + 1) = bad := by rw [dB_step h0 h h2, fit_no h3]
theorem dB_yes {p t : List Int} {k : Nat} (h0 : isNum (dB p t k) = true) (h : isNum (nth p k - nth t k) = true) (h2 : isNum ((nth p k - nth t k) * (nth p k - nth t k)) = true)
    (h3 : isNum (dB p t k + (nth p k - nth t k) * (nth p k - nth t k)) = true) : dB p t (k + 1) = dB p t k + (nth p k - nth t k) * (nth p k - nth t k) := by rw [dB_step h0 h h2, fit_yes h3]

def dOk (r c : Int) (b x t : List Int) : Bool := mulOk 1 x.length x r c b && ((t.length : Int) == c) && allNum t && !(dB (mulV 1 x.length x r c b) t t.length == bad)
def dVal (r c : Int) (b x t : List Int) : Int := if dOk r c b x t then dB (mulV 1 x.length x r c b) t t.length else 0

def dfb (ok e1 an : Bool) (x : Int) : Bool := ok && e1 && an && !(x == bad)
def dfv (ok e1 an : Bool) (x : Int) : Int := if ok && e1 && an && !(x == bad) then x else 0
theorem dfin_no {x : Int} (h : x = bad) : dfv true true true x = 0 ∧ dfb true true true x = false := by simp [h, dfv, dfb]
theorem dfin_yes {x : Int} (h : isNum x = true) : dfv true true true x = x ∧ dfb true true true x = true := by
  have := num_ne_bad h
  simp [this, dfv, dfb]
set_option linter.unusedVariables false in
theorem iDist_all (ok e1 an : Bool) (p : List Int) (R C r c : Int) (A X T : Option Addr) (b x t : List Int) (n m k ca cx ct : Nat) (w : World) (hn : b.length = n) (hm : x.length = m) (hk : t.length = k)
    (ha : Rd w A b) (hx : Rd w X x) (ht : Rd w T t) (hl : n ≤ 1099511627776) (hl2 : m ≤ 1099511627776) (hl3 : k ≤ 1099511627776)
    (HM : ∀ W B cb, Rd W B x → Rd W A b → Calls Try.prog 69 #[.agg #[.int .i64 1, .int .i64 m, .slice B m cb], .agg #[.int .i64 r, .int .i64 c, .slice A n ca]] W fun e w' =>
      ∃ v, e = .returned (.tuple #[.agg #[.int .i64 R, .int .i64 C, v], .bool ok]) ∧ Own w' W.heap.size v p ∧ Grows W w')
    (he : ((k : Int) == c) = e1) (hnum : allNum t = an) (hp : ok = true → p.length = c.toNat ∧ ∀ i, i < p.length → isNum (nth p i) = true) :
    Calls Try.prog 38 #[.agg #[.int .i64 r, .int .i64 c, .slice A n ca], .slice X m cx, .slice T k ct] w fun e w' =>
      e = .returned (.tuple #[.int .i64 (dfv ok e1 an (dB p t k)), .bool (dfb ok e1 an (dB p t k))]) ∧ Grows w w' := by
  have HM' := Lib.hid HM
  have HP := Lib.hid hp
  have HN := Lib.hid hn
  have HX := Lib.hid hm
  have HT := Lib.hid hk
  have HR := Lib.hid fun W h => rowMatrix_c X x m cx W hm h hl2
  have C1 := fun W h => areNumbers_c T t k ct W hk h hl3
  rw [hnum] at C1
  have HA := Lib.hid C1
  have HE := Lib.hid he
  have HE' : ((k : Int) != c) = !e1 := by rw [bne, he]
  have HNU := Lib.hid hnum
  clear HM hp hn hm hk he hnum C1
  go_enter Try.func38, Try.ntmps38
  go_upto_region 1 with fail
  go_cut [8, 9] (fun s8 s9 wx => ∃ g A3 c3, s8 = .pointer (some ⟨g, 0, none⟩) ∧ s9 = .bool ok ∧ Own wx w.heap.size (.slice A3 p.length c3) p ∧ Grows w wx ∧ MBox wx w.heap.size r c (.slice A n ca) ∧ MBox wx g R C (.slice A3 p.length c3))
  case first =>
    have mb := MBox.mk_ w r c (.slice A n ca) 40
    go_region_held3 (fun W => W.cell? ⟨w.heap.size, 0, none⟩ = some (.int .i64 r) ∧ W.cell? ⟨w.heap.size, 1, none⟩ = some (.int .i64 c) ∧ W.cell? ⟨w.heap.size, 2, none⟩ = some (.slice A n ca)) ((refine MBox.cells (mb.grows ?_); first | (have bz0 := Below.size (g3); (try simp at bz0); have bz1 := Below.size (g2); (try simp at bz1); (repeat' (first | with_reducible exact Below.refl _ _ | with_reducible assumption | (with_reducible refine Below.setCell ?_ ?_ _) | (with_reducible refine Below.alloc ?_ ?_ _) | (with_reducible refine Below.drew ?_) | (with_reducible refine below_drewN ?_ _) | (with_reducible refine Below.trans ?_ (Below.mono (g3) ?_)) | (with_reducible refine Below.trans ?_ (Below.mono (g2) ?_)))); all_goals (first | omega | (simp; done) | (simp; omega) | (simp [*]; done) | (simp at *; omega))) | (have bz0 := Below.size (g2); (try simp at bz0); (repeat' (first | with_reducible exact Below.refl _ _ | with_reducible assumption | (with_reducible refine Below.setCell ?_ ?_ _) | (with_reducible refine Below.alloc ?_ ?_ _) | (with_reducible refine Below.drew ?_) | (with_reducible refine below_drewN ?_ _) | (with_reducible refine Below.trans ?_ (Below.mono (g2) ?_)))); all_goals (first | omega | (simp; done) | (simp; omega) | (simp [*]; done) | (simp at *; omega))) | ((repeat' (first | with_reducible exact Below.refl _ _ | with_reducible assumption | (with_reducible refine Below.setCell ?_ ?_ _) | (with_reducible refine Below.alloc ?_ ?_ _) | (with_reducible refine Below.drew ?_) | (with_reducible refine below_drewN ?_ _))); all_goals (first | omega | (simp; done) | (simp; omega) | (simp [*]; done) | (simp at *; omega)))))
      (first
       | (go_at_call 70; refine (HR.out _ (by exact (Rd.grows hx (by ((repeat' (first | with_reducible exact Below.refl _ _ | with_reducible assumption | (with_reducible refine Below.setCell ?_ ?_ _) | (with_reducible refine Below.alloc ?_ ?_ _) | (with_reducible refine Below.drew ?_) | (with_reducible refine below_drewN ?_ _))); all_goals (first | omega | (simp; done) | (simp; omega) | (simp [*]; done) | (simp at *; omega))))))).mono ?_; rintro e w2 ⟨v2, rfl, ho2, g2⟩; obtain ⟨A2, c2, rfl, hr2, _⟩ := ho2.val; rw [HX.out]; have z2 := Below.size g2; (try simp at z2); (try (have q := (MBox.mk_ (w.alloc (.cells #[.int .i64 r, .int .i64 c, .slice A n ca] 40)) 0 0 (.slice none 0 0) 40).grows (w' := w2) (Grows.trans (show Grows _ _ from (Below.refl _ _).drew) g2); rw [World.size_alloc] at q)))
       | (go_at_call 69; refine (HM'.out _ _ _ (by exact (Rd.grows hr2 (by ((repeat' (first | with_reducible exact Below.refl _ _ | with_reducible assumption | (with_reducible refine Below.setCell ?_ ?_ _) | (with_reducible refine Below.alloc ?_ ?_ _) | (with_reducible refine Below.drew ?_) | (with_reducible refine below_drewN ?_ _))); all_goals (first | omega | (simp; done) | (simp; omega) | (simp [*]; done) | (simp at *; omega)))))) (by exact (Rd.grows ha (by (have bz0 := Below.size (g2); (try simp at bz0); (repeat' (first | with_reducible exact Below.refl _ _ | with_reducible assumption | (with_reducible refine Below.setCell ?_ ?_ _) | (with_reducible refine Below.alloc ?_ ?_ _) | (with_reducible refine Below.drew ?_) | (with_reducible refine below_drewN ?_ _) | (with_reducible refine Below.trans ?_ (Below.mono (g2) ?_)))); all_goals (first | omega | (simp; done) | (simp; omega) | (simp [*]; done) | (simp at *; omega))))))).mono ?_; rintro e w3 ⟨v3, rfl, ho3, g3⟩; obtain ⟨A3, c3, rfl, hr3, _⟩ := ho3.val; have z3 := Below.size g3; (try simp at z3); (first | (replace q := q.grows g3) | (have q := MBox.grows (MBox.mk_ w2 0 0 (.slice none 0 0) 40) g3) | skip); (try (obtain ⟨q0, q1, q2⟩ := q.cells; have qf := q.fz; have ql := q.lt))))
    all_goals
      go_wp2_with fail
      go_meet
      have mb3 := mb.grows (w' := w3) (by (have bz0 := Below.size (g3); (try simp at bz0); have bz1 := Below.size (g2); (try simp at bz1); (repeat' (first | with_reducible exact Below.refl _ _ | with_reducible assumption | (with_reducible refine Below.setCell ?_ ?_ _) | (with_reducible refine Below.alloc ?_ ?_ _) | (with_reducible refine Below.drew ?_) | (with_reducible refine below_drewN ?_ _) | (with_reducible refine Below.trans ?_ (Below.mono (g3) ?_)) | (with_reducible refine Below.trans ?_ (Below.mono (g2) ?_)))); all_goals (first | omega | (simp; done) | (simp; omega) | (simp [*]; done) | (simp at *; omega))))
      exact ⟨_, _, _, rfl, rfl, by (have hb_ := fun k hk => World.ownsRow.lt ho3 k hk; have ho_ := Own.less ho3 (show w.heap.size ≤ _ by (try simp); omega); (repeat' (first | with_reducible exact ho_ | with_reducible refine Own.alloc ?_ _ | with_reducible refine Own.drew ?_ | with_reducible refine Own.far ?_ ?_ _)); all_goals first | (intro k hk; have := hb_ k hk; (try simp at this); (try simp); omega) | omega | (simp; done) | (simp; omega)), by (have bz0 := Below.size (g3); (try simp at bz0); have bz1 := Below.size (g2); (try simp at bz1); (repeat' (first | with_reducible exact Below.refl _ _ | with_reducible assumption | (with_reducible refine Below.setCell ?_ ?_ _) | (with_reducible refine Below.alloc ?_ ?_ _) | (with_reducible refine Below.drew ?_) | (with_reducible refine below_drewN ?_ _) | (with_reducible refine Below.trans ?_ (Below.mono (g3) ?_)) | (with_reducible refine Below.trans ?_ (Below.mono (g2) ?_)))); all_goals (first | omega | (simp; done) | (simp; omega) | (simp [*]; done) | (simp at *; omega))), by ((repeat' (first | with_reducible exact mb3 | with_reducible refine MBox.alloc ?_ _ | with_reducible refine MBox.far ?_ ?_ _)); all_goals (first | omega | (simp; done) | (simp; omega))), by first | exact MBox.put q _ _ _ | exact MBox.mk_ _ _ _ _ _ | exact MBox.put (MBox.mk_ _ _ _ _ _) _ _ _⟩
  case rest =>
    obtain ⟨g, A3, c3, rfl, rfl, ho, hgr, hmb, hmp⟩ := hcut
    have hrp := ho.rd_
    have hrt : Rd wc T t := ht.grows hgr
    clear ha hx ho ht
    obtain ⟨b0, b1, b2⟩ := hmb.cells
    cases ok
    · go_wp2_with fail
      go_ret2
      exact ⟨by simp [dfv, dfb], hgr⟩
    · cases e1
      · go_wp2_with fail
        go_ret2
        exact ⟨by simp [dfv, dfb], hgr⟩
      · obtain ⟨hpl, hpn⟩ := HP.out rfl
        have hkp : p.length = k := by rw [hpl]; have := beq_iff_eq.1 HE.out; omega
        have HPN := Lib.hid hpn
        have HPL := Lib.hid hpl
        clear hpl hpn
        cases an
        · go_wp2_with fail
          refine (HA.out _ (by exact (Rd.grows hrt (by ((repeat' (first | with_reducible exact Below.refl _ _ | with_reducible assumption | (with_reducible refine Below.setCell ?_ ?_ _) | (with_reducible refine Below.alloc ?_ ?_ _) | (with_reducible refine Below.drew ?_) | (with_reducible refine below_drewN ?_ _))); all_goals (first | omega | (simp; done) | (simp; omega) | (simp [*]; done) | (simp at *; omega))))))).mono ?_; rintro e w4 ⟨rfl, rfl⟩
          go_wp2_with fail
          go_ret2
          exact ⟨by simp [dfv, dfb], by (have bz0 := Below.size (hgr); (try simp at bz0); (repeat' (first | with_reducible exact Below.refl _ _ | with_reducible assumption | (with_reducible refine Below.setCell ?_ ?_ _) | (with_reducible refine Below.alloc ?_ ?_ _) | (with_reducible refine Below.drew ?_) | (with_reducible refine below_drewN ?_ _) | (with_reducible refine Below.trans ?_ (Below.mono (hgr) ?_)))); all_goals (first | omega | (simp; done) | (simp; omega) | (simp [*]; done) | (simp at *; omega)))⟩
        · go_wp2_with fail
          refine (HA.out _ (by exact (Rd.grows hrt (by ((repeat' (first | with_reducible exact Below.refl _ _ | with_reducible assumption | (with_reducible refine Below.setCell ?_ ?_ _) | (with_reducible refine Below.alloc ?_ ?_ _) | (with_reducible refine Below.drew ?_) | (with_reducible refine below_drewN ?_ _))); all_goals (first | omega | (simp; done) | (simp; omega) | (simp [*]; done) | (simp at *; omega))))))).mono ?_; rintro e w4 ⟨rfl, rfl⟩
          clear b0 b1 b2
          go_wp2_with fail
          go_loopw [36, 10] (fun i s wr => ∃ I : Nat, i = .int .i64 I ∧ I ≤ k ∧ s = .int .i64 (dB p t I) ∧ isNum (dB p t I) = true ∧ Grows w wr ∧ Rd wr A3 p ∧ Rd wr T t ∧ MBox wr g R C (.slice A3 p.length c3)) (fun i _ _ => k - (intOf i).toNat)
          case atStart => exact ⟨0, rfl, Nat.zero_le _, rfl, rfl, by (have bz0 := Below.size (hgr); (try simp at bz0); (repeat' (first | with_reducible exact Below.refl _ _ | with_reducible assumption | (with_reducible refine Below.setCell ?_ ?_ _) | (with_reducible refine Below.alloc ?_ ?_ _) | (with_reducible refine Below.drew ?_) | (with_reducible refine below_drewN ?_ _) | (with_reducible refine Below.trans ?_ (Below.mono (hgr) ?_)))); all_goals (first | omega | (simp; done) | (simp; omega) | (simp [*]; done) | (simp at *; omega))), hrp, hrt, hmp⟩
          case round =>
            clear hrp hrt hmp hgr hmb
            obtain ⟨I, rfl, hI, rfl, hsn, hgr, hrp, hrt, hmp⟩ := hrel
            have HSN := Lib.hid hsn
            clear hsn
            by_cases hlt : I < k
            · obtain ⟨p0, p1, p2⟩ := hmp.cells
              obtain ⟨bp, op, rfl, hbp, hcp⟩ := hrp.at_ I (by omega)
              obtain ⟨bt, ot, rfl, hbt, hct⟩ := hrt.at_ I (by rw [HT.out]; exact hlt)
              have i1 : (I : Int) < (p.length : Int) := by omega
              have i2 : (I : Int) < (k : Int) := by omega
              have hx1 := (isNum_iff _).1 (HPN.out I (by omega))
              have hx2 := (isNum_iff _).1 ((allNum_iff t).1 HNU.out I (by rw [HT.out]; exact hlt))
              have hx3 := (isNum_iff _).1 HSN.out
              have HX3 := HSN
              generalize hd : nth p I - nth t I = d at *
              have e1 : IntKind.i64.wrap (nth p I - nth t I) = d := by rw [hd]; exact IntWalk.i64_in _ (by omega)
              have HD := Lib.hid hd
              clear hx1 hx2 hd
              have C1 := fun W => iIsNumber_c d W
              cases h1 : isNum d
              · rw [h1] at C1
                have N1 := Lib.hid C1
                have hb := dB_stuck' (n := k) (dB_no1 (by rw [HD.out]; exact h1)) (by omega)
                have HB := Lib.hid (dfin_no hb)
                clear h1 C1 hb
                go_wp2_with fail
                go_quiet (fail)
                go_wp2_with (go_at_call 59; first | (with_reducible refine (N1.out _).mono ?_; rintro e w' ⟨rfl, rfl⟩))
                go_ret2
                exact ⟨by simp [HB.out.1, HB.out.2], by (have bz0 := Below.size (hgr); (try simp at bz0); (repeat' (first | with_reducible exact Below.refl _ _ | with_reducible assumption | (with_reducible refine Below.setCell ?_ ?_ _) | (with_reducible refine Below.alloc ?_ ?_ _) | (with_reducible refine Below.drew ?_) | (with_reducible refine below_drewN ?_ _) | (with_reducible refine Below.trans ?_ (Below.mono (hgr) ?_)))); all_goals (first | omega | (simp; done) | (simp; omega) | (simp [*]; done) | (simp at *; omega)))⟩
              · rw [h1] at C1
                have N1 := Lib.hid C1
                have hx4 := mul_bd h1 h1
                have e2 : IntKind.i64.wrap (d * d) = d * d := IntWalk.i64_in _ (by omega)
                have C2 := fun W => iIsNumber_c (d * d) W
                generalize hdd : d * d = dd at *
                have e2' : IntKind.i64.wrap (d * d) = dd := by rw [hdd]; exact e2
                clear e2
                have HDD := Lib.hid hdd
                have K1 := Lib.hid h1
                clear C1 h1 hdd
                cases h2 : isNum dd
                · rw [h2] at C2
                  have N2 := Lib.hid C2
                  have hb := dB_stuck' (n := k) (dB_no2 (by rw [HD.out]; exact K1.out) (by rw [HD.out, HDD.out]; exact h2)) (by omega)
                  have HB := Lib.hid (dfin_no hb)
                  clear h2 C2 hb
                  go_wp2_with fail
                  go_quiet (fail)
                  go_wp2_with (go_at_call 59; first | (with_reducible refine (N1.out _).mono ?_; rintro e w' ⟨rfl, rfl⟩) | (with_reducible refine (N2.out _).mono ?_; rintro e w' ⟨rfl, rfl⟩))
                  go_ret2
                  exact ⟨by simp [HB.out.1, HB.out.2], by (have bz0 := Below.size (hgr); (try simp at bz0); (repeat' (first | with_reducible exact Below.refl _ _ | with_reducible assumption | (with_reducible refine Below.setCell ?_ ?_ _) | (with_reducible refine Below.alloc ?_ ?_ _) | (with_reducible refine Below.drew ?_) | (with_reducible refine below_drewN ?_ _) | (with_reducible refine Below.trans ?_ (Below.mono (hgr) ?_)))); all_goals (first | omega | (simp; done) | (simp; omega) | (simp [*]; done) | (simp at *; omega)))⟩
                · rw [h2] at C2
                  have N2 := Lib.hid C2
                  have hx5 := (isNum_iff _).1 h2
                  have e3 : IntKind.i64.wrap (dB p t I + dd) = dB p t I + dd := IntWalk.i64_in _ (by omega)
                  have C3 := fun W => iIsNumber_c (dB p t I + dd) W
                  have K2 := Lib.hid h2
                  clear h2 C2
                  cases h3 : isNum (dB p t I + dd)
                  · rw [h3] at C3
                    have N3 := Lib.hid C3
                    have hb := dB_stuck' (n := k) (dB_no3 (p := p) (t := t) (k := I) HX3.out (by rw [HD.out]; exact K1.out) (by rw [HD.out, HDD.out]; exact K2.out) (by rw [HD.out, HDD.out]; exact h3)) (by omega)
                    have HB := Lib.hid (dfin_no hb)
                    clear h3 C3 hb
                    go_wp2_with fail
                    go_quiet (fail)
                    go_wp2_with (go_at_call 59; first | (with_reducible refine (N1.out _).mono ?_; rintro e w' ⟨rfl, rfl⟩) | (with_reducible refine (N2.out _).mono ?_; rintro e w' ⟨rfl, rfl⟩) | (with_reducible refine (N3.out _).mono ?_; rintro e w' ⟨rfl, rfl⟩))
                    go_ret2
                    exact ⟨by simp [HB.out.1, HB.out.2], by (have bz0 := Below.size (hgr); (try simp at bz0); (repeat' (first | with_reducible exact Below.refl _ _ | with_reducible assumption | (with_reducible refine Below.setCell ?_ ?_ _) | (with_reducible refine Below.alloc ?_ ?_ _) | (with_reducible refine Below.drew ?_) | (with_reducible refine below_drewN ?_ _) | (with_reducible refine Below.trans ?_ (Below.mono (hgr) ?_)))); all_goals (first | omega | (simp; done) | (simp; omega) | (simp [*]; done) | (simp at *; omega)))⟩
                  · rw [h3] at C3
                    have N3 := Lib.hid C3
                    have hb := dB_yes (p := p) (t := t) (k := I) HX3.out (by rw [HD.out]; exact K1.out) (by rw [HD.out, HDD.out]; exact K2.out) (by rw [HD.out, HDD.out]; exact h3)
                    rw [HD.out, HDD.out] at hb
                    have HB := Lib.hid hb
                    have K3 := Lib.hid h3
                    clear h3 C3 hb
                    go_wp2_with fail
                    go_quiet (fail)
                    go_wp2_with (go_at_call 59; first | (with_reducible refine (N1.out _).mono ?_; rintro e w' ⟨rfl, rfl⟩) | (with_reducible refine (N2.out _).mono ?_; rintro e w' ⟨rfl, rfl⟩) | (with_reducible refine (N3.out _).mono ?_; rintro e w' ⟨rfl, rfl⟩))
                    go_round
                    case rel => exact ⟨I + 1, by go_num, by omega, by rw [HB.out], by rw [HB.out]; exact K3.out, by (have bz0 := Below.size (hgr); (try simp at bz0); (repeat' (first | with_reducible exact Below.refl _ _ | with_reducible assumption | (with_reducible refine Below.setCell ?_ ?_ _) | (with_reducible refine Below.alloc ?_ ?_ _) | (with_reducible refine Below.drew ?_) | (with_reducible refine below_drewN ?_ _) | (with_reducible refine Below.trans ?_ (Below.mono (hgr) ?_)))); all_goals (first | omega | (simp; done) | (simp; omega) | (simp [*]; done) | (simp at *; omega))), by exact hrp.grows (by ((repeat' (first | with_reducible exact Below.refl _ _ | with_reducible assumption | (with_reducible refine Below.setCell ?_ ?_ _) | (with_reducible refine Below.alloc ?_ ?_ _) | (with_reducible refine Below.drew ?_) | (with_reducible refine below_drewN ?_ _))); all_goals (first | omega | (simp; done) | (simp; omega) | (simp [*]; done) | (simp at *; omega)))), by exact hrt.grows (by ((repeat' (first | with_reducible exact Below.refl _ _ | with_reducible assumption | (with_reducible refine Below.setCell ?_ ?_ _) | (with_reducible refine Below.alloc ?_ ?_ _) | (with_reducible refine Below.drew ?_) | (with_reducible refine below_drewN ?_ _))); all_goals (first | omega | (simp; done) | (simp; omega) | (simp [*]; done) | (simp at *; omega)))), hmp.grows (by ((repeat' (first | with_reducible exact Below.refl _ _ | with_reducible assumption | (with_reducible refine Below.setCell ?_ ?_ _) | (with_reducible refine Below.alloc ?_ ?_ _) | (with_reducible refine Below.drew ?_) | (with_reducible refine below_drewN ?_ _))); all_goals (first | omega | (simp; done) | (simp; omega) | (simp [*]; done) | (simp at *; omega))))⟩
                    case measure => simp [intOf]; omega
            · obtain rfl : I = k := by omega
              have hf := dfin_yes HSN.out
              have HF := Lib.hid hf
              clear hf
              go_wp2_with fail
              go_ret2
              exact ⟨by simp [HF.out.1, HF.out.2], hgr⟩

set_option linter.unusedVariables false in
theorem sDist_all (ok e1 an : Bool) (p : List Int) (R C r c : Int) (A X T : Option Addr) (b x t : List Int) (n m k ca cx ct : Nat) (w : World) (hn : b.length = n) (hm : x.length = m) (hk : t.length = k)
    (ha : Rd w A b) (hx : Rd w X x) (ht : Rd w T t) (hl : n ≤ 1099511627776) (hl2 : m ≤ 1099511627776) (hl3 : k ≤ 1099511627776)
    (HM : ∀ W, Rd W X x → Rd W A b → Calls Try.prog 67 #[.agg #[.int .i64 1, .int .i64 m, .slice X m cx], .agg #[.int .i64 r, .int .i64 c, .slice A n ca]] W fun e w' =>
      ∃ v, e = .returned (.tuple #[.agg #[.int .i64 R, .int .i64 C, v], .bool ok]) ∧ Own w' W.heap.size v p ∧ Grows W w')
    (he : ((k : Int) == c) = e1) (hnum : allNum t = an) (hp : ok = true → p.length = c.toNat ∧ ∀ i, i < p.length → isNum (nth p i) = true) :
    Calls Try.prog 37 #[.agg #[.int .i64 r, .int .i64 c, .slice A n ca], .slice X m cx, .slice T k ct] w fun e w' =>
      e = .returned (.tuple #[.int .i64 (dfv ok e1 an (dB p t k)), .bool (dfb ok e1 an (dB p t k))]) ∧ Grows w w' := by
  have HM' := Lib.hid HM
  have HP := Lib.hid hp
  have HT := Lib.hid hk
  have HE := Lib.hid he
  have HE' : ((k : Int) != c) = !e1 := by rw [bne, he]
  have HNU := Lib.hid hnum
  clear HM hp hn hm hk he hnum
  go_enter Try.func37, Try.ntmps37
  go_wp2_with fail
  refine (HM'.out _ (by exact (Rd.grows hx (by ((repeat' (first | with_reducible exact Below.refl _ _ | with_reducible assumption | (with_reducible refine Below.setCell ?_ ?_ _) | (with_reducible refine Below.alloc ?_ ?_ _) | (with_reducible refine Below.drew ?_) | (with_reducible refine below_drewN ?_ _))); all_goals (first | omega | (simp; done) | (simp; omega) | (simp [*]; done) | (simp at *; omega)))))) (by exact (Rd.grows ha (by ((repeat' (first | with_reducible exact Below.refl _ _ | with_reducible assumption | (with_reducible refine Below.setCell ?_ ?_ _) | (with_reducible refine Below.alloc ?_ ?_ _) | (with_reducible refine Below.drew ?_) | (with_reducible refine below_drewN ?_ _))); all_goals (first | omega | (simp; done) | (simp; omega) | (simp [*]; done) | (simp at *; omega))))))).mono ?_; rintro e w3 ⟨v3, rfl, ho3, g3⟩
  obtain ⟨A3, c3, rfl, hrp, _⟩ := ho3.val
  have hgr : Grows w w3 := by (have bz0 := Below.size (g3); (try simp at bz0); (repeat' (first | with_reducible exact Below.refl _ _ | with_reducible assumption | (with_reducible refine Below.setCell ?_ ?_ _) | (with_reducible refine Below.alloc ?_ ?_ _) | (with_reducible refine Below.drew ?_) | (with_reducible refine below_drewN ?_ _) | (with_reducible refine Below.trans ?_ (Below.mono (g3) ?_)))); all_goals (first | omega | (simp; done) | (simp; omega) | (simp [*]; done) | (simp at *; omega)))
  have hmb := (MBox.mk_ w r c (.slice A n ca) 40).grows (w' := w3) (by (have bz0 := Below.size (g3); (try simp at bz0); (repeat' (first | with_reducible exact Below.refl _ _ | with_reducible assumption | (with_reducible refine Below.setCell ?_ ?_ _) | (with_reducible refine Below.alloc ?_ ?_ _) | (with_reducible refine Below.drew ?_) | (with_reducible refine below_drewN ?_ _) | (with_reducible refine Below.trans ?_ (Below.mono (g3) ?_)))); all_goals (first | omega | (simp; done) | (simp; omega) | (simp [*]; done) | (simp at *; omega))))
  have hrt : Rd w3 T t := ht.grows hgr
  clear ha hx ho3 ht g3
  obtain ⟨b0, b1, b2⟩ := hmb.cells
  have bl := hmb.lt
  cases ok
  · go_wp2_with fail
    go_ret2
    exact ⟨by simp [dfv, dfb], by (have bz0 := Below.size (hgr); (try simp at bz0); (repeat' (first | with_reducible exact Below.refl _ _ | with_reducible assumption | (with_reducible refine Below.setCell ?_ ?_ _) | (with_reducible refine Below.alloc ?_ ?_ _) | (with_reducible refine Below.drew ?_) | (with_reducible refine below_drewN ?_ _) | (with_reducible refine Below.trans ?_ (Below.mono (hgr) ?_)))); all_goals (first | omega | (simp; done) | (simp; omega) | (simp [*]; done) | (simp at *; omega)))⟩
  · cases e1
    · go_wp2_with fail
      go_ret2
      exact ⟨by simp [dfv, dfb], by (have bz0 := Below.size (hgr); (try simp at bz0); (repeat' (first | with_reducible exact Below.refl _ _ | with_reducible assumption | (with_reducible refine Below.setCell ?_ ?_ _) | (with_reducible refine Below.alloc ?_ ?_ _) | (with_reducible refine Below.drew ?_) | (with_reducible refine below_drewN ?_ _) | (with_reducible refine Below.trans ?_ (Below.mono (hgr) ?_)))); all_goals (first | omega | (simp; done) | (simp; omega) | (simp [*]; done) | (simp at *; omega)))⟩
    · obtain ⟨hpl, hpn⟩ := HP.out rfl
      have hkp : p.length = k := by rw [hpl]; have := beq_iff_eq.1 HE.out; omega
      have HPN := Lib.hid hpn
      have HPL := Lib.hid hpl
      clear hpl hpn
      go_wp2_with fail
      go_loopw [11, 10] (fun i s wr => ∃ I : Nat, i = .int .i64 I ∧ I ≤ k ∧ s = .int .i64 (dB p t I) ∧ (∀ j, j < I → isNum (nth t j) = true) ∧ Grows w wr ∧ Rd wr A3 p ∧ Rd wr T t ∧ MBox wr w3.heap.size R C (.slice A3 p.length c3)) (fun i _ _ => k - (intOf i).toNat)
      case atStart => exact ⟨0, rfl, Nat.zero_le _, rfl, fun j hj => by omega, by (have bz0 := Below.size (hgr); (try simp at bz0); (repeat' (first | with_reducible exact Below.refl _ _ | with_reducible assumption | (with_reducible refine Below.setCell ?_ ?_ _) | (with_reducible refine Below.alloc ?_ ?_ _) | (with_reducible refine Below.drew ?_) | (with_reducible refine below_drewN ?_ _) | (with_reducible refine Below.trans ?_ (Below.mono (hgr) ?_)))); all_goals (first | omega | (simp; done) | (simp; omega) | (simp [*]; done) | (simp at *; omega))), hrp.alloc _, hrt.alloc _, by first | exact MBox.mk_ _ _ _ _ _ | (rw [hkp]; exact MBox.mk_ _ _ _ _ _)⟩
      case round =>
        clear hrp hrt hgr hmb b0 b1 b2 bl
        obtain ⟨I, rfl, hI, rfl, hns, hgr, hrp, hrt, hmp⟩ := hrel
        have HNS := Lib.hid hns
        clear hns
        by_cases hlt : I < k
        · obtain ⟨p0, p1, p2⟩ := hmp.cells
          have pl := hmp.lt
          obtain ⟨bp, op, rfl, hbp, hcp⟩ := hrp.at_ I (by omega)
          obtain ⟨bt, ot, rfl, hbt, hct⟩ := hrt.at_ I (by rw [HT.out]; exact hlt)
          have i1 : (I : Int) < (p.length : Int) := by omega
          have i2 : (I : Int) < (k : Int) := by omega
          have C1 := fun W => sIsNumber_c (nth t I) W
          cases h1 : isNum (nth t I)
          · rw [h1] at C1
            have N1 := Lib.hid C1
            have han : an = false := by rw [← HNU.out]; exact allNum_no (by rw [HT.out]; exact hlt) h1
            clear h1 C1
            subst han
            go_wp2_with (go_at_call 55; refine (N1.out _).mono ?_; rintro e w' ⟨rfl, rfl⟩)
            go_ret2
            exact ⟨by simp [dfv, dfb], by (have bz0 := Below.size (hgr); (try simp at bz0); (repeat' (first | with_reducible exact Below.refl _ _ | with_reducible assumption | (with_reducible refine Below.setCell ?_ ?_ _) | (with_reducible refine Below.alloc ?_ ?_ _) | (with_reducible refine Below.drew ?_) | (with_reducible refine below_drewN ?_ _) | (with_reducible refine Below.trans ?_ (Below.mono (hgr) ?_)))); all_goals (first | omega | (simp; done) | (simp; omega) | (simp [*]; done) | (simp at *; omega)))⟩
          · rw [h1] at C1
            have N1 := Lib.hid C1
            have hx1 := (isNum_iff _).1 (HPN.out I (by omega))
            have hx2 := (isNum_iff _).1 h1
            have e1 : IntKind.i64.wrap (nth p I - nth t I) = nth p I - nth t I := IntWalk.i64_in _ (by omega)
            have N2 := Lib.hid fun W => l1Fit_c (nth p I - nth t I) W
            have KF := Lib.hid (fit_or (nth p I - nth t I))
            have K1 := Lib.hid h1
            have KD := Lib.hid (dB_or p t I)
            clear h1 C1 hx1 hx2
            go_wp2_with (go_at_call 55; refine (N1.out _).mono ?_; rintro e w' ⟨rfl, rfl⟩)
            go_quiet ((go_at_call 68; exact quietL (N2.out _)))
            go_wp2_with (first | (go_at_call 57; refine (l1Mul_c _ _ _ KF.out KF.out).mono ?_; rintro e w' ⟨rfl, rfl⟩) | (go_at_call 56; refine (l1Add_c _ _ _ KD.out (mulB_or _ _)).mono ?_; rintro e w' ⟨rfl, rfl⟩))
            go_round
            case rel => exact ⟨I + 1, by go_num, by omega, rfl, fun j hj => by (by_cases e : j = I); (· subst e; exact K1.out); (· exact HNS.out j (by omega)), by (have bz0 := Below.size (hgr); (try simp at bz0); (repeat' (first | with_reducible exact Below.refl _ _ | with_reducible assumption | (with_reducible refine Below.setCell ?_ ?_ _) | (with_reducible refine Below.alloc ?_ ?_ _) | (with_reducible refine Below.drew ?_) | (with_reducible refine below_drewN ?_ _) | (with_reducible refine Below.trans ?_ (Below.mono (hgr) ?_)))); all_goals (first | omega | (simp; done) | (simp; omega) | (simp [*]; done) | (simp at *; omega))), by exact hrp.grows (by ((repeat' (first | with_reducible exact Below.refl _ _ | with_reducible assumption | (with_reducible refine Below.setCell ?_ ?_ _) | (with_reducible refine Below.alloc ?_ ?_ _) | (with_reducible refine Below.drew ?_) | (with_reducible refine below_drewN ?_ _))); all_goals (first | omega | (simp; done) | (simp; omega) | (simp [*]; done) | (simp at *; omega)))), by exact hrt.grows (by ((repeat' (first | with_reducible exact Below.refl _ _ | with_reducible assumption | (with_reducible refine Below.setCell ?_ ?_ _) | (with_reducible refine Below.alloc ?_ ?_ _) | (with_reducible refine Below.drew ?_) | (with_reducible refine below_drewN ?_ _))); all_goals (first | omega | (simp; done) | (simp; omega) | (simp [*]; done) | (simp at *; omega)))), hmp.grows (by ((repeat' (first | with_reducible exact Below.refl _ _ | with_reducible assumption | (with_reducible refine Below.setCell ?_ ?_ _) | (with_reducible refine Below.alloc ?_ ?_ _) | (with_reducible refine Below.drew ?_) | (with_reducible refine below_drewN ?_ _))); all_goals (first | omega | (simp; done) | (simp; omega) | (simp [*]; done) | (simp at *; omega))))⟩
            case measure => simp [intOf]; omega
        · obtain rfl : I = k := by omega
          have han : an = true := by rw [← HNU.out, allNum_iff]; intro j hj; exact HNS.out j (by rw [HT.out] at hj; exact hj)
          subst han
          rcases dB_or p t I with hs | hs
          · have hs2 : (dB p t I == -4611686018427387904) = true := by rw [hs]; rfl
            have HB := Lib.hid (dfin_no hs)
            clear hs
            go_wp2_with fail
            go_ret2
            exact ⟨by simp [HB.out.1, HB.out.2], by (have bz0 := Below.size (hgr); (try simp at bz0); (repeat' (first | with_reducible exact Below.refl _ _ | with_reducible assumption | (with_reducible refine Below.setCell ?_ ?_ _) | (with_reducible refine Below.alloc ?_ ?_ _) | (with_reducible refine Below.drew ?_) | (with_reducible refine below_drewN ?_ _) | (with_reducible refine Below.trans ?_ (Below.mono (hgr) ?_)))); all_goals (first | omega | (simp; done) | (simp; omega) | (simp [*]; done) | (simp at *; omega)))⟩
          · have hs2 : (dB p t I == -4611686018427387904) = false := by rw [beq_eq_false_iff_ne]; exact num_ne_bad hs
            have HB := Lib.hid (dfin_yes hs)
            clear hs
            go_wp2_with fail
            go_ret2
            exact ⟨by simp [HB.out.1, HB.out.2], by (have bz0 := Below.size (hgr); (try simp at bz0); (repeat' (first | with_reducible exact Below.refl _ _ | with_reducible assumption | (with_reducible refine Below.setCell ?_ ?_ _) | (with_reducible refine Below.alloc ?_ ?_ _) | (with_reducible refine Below.drew ?_) | (with_reducible refine below_drewN ?_ _) | (with_reducible refine Below.trans ?_ (Below.mono (hgr) ?_)))); all_goals (first | omega | (simp; done) | (simp; omega) | (simp [*]; done) | (simp at *; omega)))⟩

theorem dOk_def (r c : Int) (b x t : List Int) : dOk r c b x t = (mulOk 1 x.length x r c b && ((t.length : Int) == c) && allNum t && !(dB (mulV 1 x.length x r c b) t t.length == bad)) := rfl
theorem mul_row {r c : Int} {b x : List Int} (h : mulOk 1 x.length x r c b = true) : (mulV 1 x.length x r c b).length = c.toNat ∧ ∀ i, i < (mulV 1 x.length x r c b).length → isNum (nth (mulV 1 x.length x r c b) i) = true := by
  have e := h
  unfold mulOk at e
  rw [Bool.and_eq_true] at e
  have hv : mulV 1 x.length x r c b = mulL 1 x.length c.toNat x b := by unfold mulV; rw [h]; rfl
  have hn := e.2
  rw [hv]
  simp only [Int.toNat_natCast] at hn
  refine ⟨by rw [mulL_length]; omega, fun i hi => (allNum_iff _).1 hn i hi⟩

theorem iDistanceOf_c (r c : Int) (A X T : Option Addr) (b x t : List Int) (n m k ca cx ct : Nat) (w : World) (hn : b.length = n) (hm : x.length = m) (hk : t.length = k)
    (ha : Rd w A b) (hx : Rd w X x) (ht : Rd w T t) (hl : n ≤ 1099511627776) (hl2 : m ≤ 1099511627776) (hl3 : k ≤ 1099511627776) :
    Calls Try.prog 38 #[.agg #[.int .i64 r, .int .i64 c, .slice A n ca], .slice X m cx, .slice T k ct] w fun e w' =>
      e = .returned (.tuple #[.int .i64 (dVal r c b x t), .bool (dOk r c b x t)]) ∧ Grows w w' := by
  subst hm
  subst hk
  exact iDist_all _ _ _ _ _ _ r c A X T b x t n _ _ ca cx ct w hn rfl rfl ha hx ht hl hl2 hl3 (fun W B cb h h' => iMul_c 1 x.length r c B A x b x.length n cb ca W rfl hn h h' hl2 hl) rfl rfl mul_row
theorem sDistanceOf_c (r c : Int) (A X T : Option Addr) (b x t : List Int) (n m k ca cx ct : Nat) (w : World) (hn : b.length = n) (hm : x.length = m) (hk : t.length = k)
    (ha : Rd w A b) (hx : Rd w X x) (ht : Rd w T t) (hl : n ≤ 1099511627776) (hl2 : m ≤ 1099511627776) (hl3 : k ≤ 1099511627776) :
    Calls Try.prog 37 #[.agg #[.int .i64 r, .int .i64 c, .slice A n ca], .slice X m cx, .slice T k ct] w fun e w' =>
      e = .returned (.tuple #[.int .i64 (dVal r c b x t), .bool (dOk r c b x t)]) ∧ Grows w w' := by
  subst hm
  subst hk
  exact sDist_all _ _ _ _ _ _ r c A X T b x t n _ _ ca cx ct w hn rfl rfl ha hx ht hl hl2 hl3 (fun W h h' => sMul_c 1 x.length r c X A x b x.length n cx ca W rfl hn h h' hl2 hl) rfl rfl mul_row
end
end Go.Proofs.Ytfloeilpghjpoaa
