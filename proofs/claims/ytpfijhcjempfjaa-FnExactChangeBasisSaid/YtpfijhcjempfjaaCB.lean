/- Contracts: ChangeBasis. -/
import Derived.Test.YtpfijhcjempfjaaMX
import Derived.Test.YtpfijhcjempfjaaLawKit
namespace Go.Proofs.Ytpfijhcjempfjaa
open Go.RowKit

/-- a form in another basis -/
def cbO (g u : MX) : Option MX := if isGram g.r g.c g.l && u.ok then (mulO u g).bind fun p => mulO p (trM u) else none
theorem cbO_ok {g u m : MX} (h : cbO g u = some m) : m.ok = true := by
  unfold cbO at h
  split at h
  · obtain ⟨p, _, h2⟩ := Option.bind_eq_some_iff.1 h; exact mulO_ok h2
  · cases h

section
set_option maxHeartbeats 1000000
theorem iCB_c (r c r' c' : Int) (A B : Option Addr) (a b : List Int) (n m ca cb : Nat) (w : World) (hn : a.length = n) (hm : b.length = m) (ha : Rd w A a) (hb : Rd w B b) (hl : n ≤ 1099511627776) (hl2 : m ≤ 1099511627776) :
    Calls Try.prog 18 #[.agg #[.int .i64 r, .int .i64 c, .slice A n ca], .agg #[.int .i64 r', .int .i64 c', .slice B m cb]] w (MatRet (cbO ⟨r, c, a⟩ ⟨r', c', b⟩) w) := by
  have HT := Lib.hid fun W h => iTr_m r' c' B b m cb W hm h hl2
  have HG := Lib.hid fun W h => iIsGram_c r c A a n ca W hn h hl
  have HM := Lib.hid fun W h h' => iMul_m r' c' r c B A b a m n cb ca W hm hn h h' hl2 hl
  have hpl : (oM (mulO ⟨r', c', b⟩ ⟨r, c, a⟩)).l.length ≤ 576 := oM_length fun _ h => mulO_ok h
  have htl : (oM (trO ⟨r', c', b⟩)).l.length ≤ 576 := oM_length fun _ h => trO_ok h
  have HQ := Lib.hid fun W X Y (p t : MX) cx cy h h' h1 h2 => iMul_m p.r p.c t.r t.c X Y p.l t.l p.l.length t.l.length cx cy W rfl rfl h h' h1 h2
  have hcb : cbO ⟨r, c, a⟩ ⟨r', c', b⟩ = if isGram r c a && (trO ⟨r', c', b⟩).isSome then (mulO ⟨r', c', b⟩ ⟨r, c, a⟩).bind fun p => mulO p (oM (trO ⟨r', c', b⟩)) else none := by
    unfold cbO trO
    simp only
    cases (⟨r', c', b⟩ : MX).ok <;> simp [oM]
  obtain ⟨RES, hRES⟩ : ∃ x, x = cbO ⟨r, c, a⟩ ⟨r', c', b⟩ := ⟨_, rfl⟩
  rw [← hRES]
  rw [hcb] at hRES
  clear hcb hn hm
  generalize mulO ⟨r', c', b⟩ ⟨r, c, a⟩ = P at *
  generalize trO ⟨r', c', b⟩ = T at *
  generalize isGram r c a = e0 at *
  obtain ⟨w1, hw1, mg, mu, mr, hs1, g01⟩ := two_mats w r c r' c' (.slice A n ca) (.slice B m cb)
  have HW1 := Lib.hid hw1
  have HS1 := Lib.hid hs1
  have HR := Lib.hid hRES
  clear hw1 hs1 hRES
  go_enter Try.func18, Try.ntmps18
  go_wp2_with fail
  refine (HT.out _ (by exact (Rd.grows hb (by ((repeat' (first | with_reducible exact Below.refl _ _ | with_reducible assumption | (with_reducible refine Below.setCell ?_ ?_ _) | (with_reducible refine Below.alloc ?_ ?_ _) | (with_reducible refine Below.drew ?_) | (with_reducible refine below_drewN ?_ _))); all_goals (first | omega | (simp; done) | (simp; omega) | (simp [*]; done) | (simp at *; omega))))))).mono ?_; rintro e w2 ⟨v2, rfl, ho2, g2⟩
  rw [← HW1.out] at g2 ho2
  obtain ⟨A2, c2, rfl, hr2, _⟩ := ho2.val
  have mg2 := mg.grows g2
  obtain ⟨b0, b1, b2⟩ := mg2.cells
  have bl := mg2.lt
  go_wp2_with fail
  refine (HG.out _ (by exact (Rd.grows ha (by (have bz0 := Below.size (g2); (try simp at bz0); have bz1 := Below.size (g01); (try simp at bz1); (repeat' (first | with_reducible exact Below.refl _ _ | with_reducible assumption | (with_reducible refine Below.setCell ?_ ?_ _) | (with_reducible refine Below.alloc ?_ ?_ _) | (with_reducible refine Below.drew ?_) | (with_reducible refine below_drewN ?_ _) | (with_reducible refine Below.trans ?_ (Below.mono (g2) ?_)) | (with_reducible refine Below.trans ?_ (Below.mono (g01) ?_)))); all_goals (first | omega | (simp; done) | (simp; omega) | (simp [*]; done) | (simp at *; omega))))))).mono ?_; rintro e w3 ⟨rfl, g3⟩
  clear b0 b1 b2 bl mg2
  have mt3 := MBox.grows (MBox.mk_ w2 (oM T).r (oM T).c (.slice A2 (oM T).l.length c2) 26) g3
  cases e0
  · obtain rfl : RES = none := HR.out
    (have zr := MBox.grows mr (w' := w3) (by (have bz0 := Below.size (g3); (try simp at bz0); have bz1 := Below.size (g2); (try simp at bz1); (repeat' (first | with_reducible exact Below.refl _ _ | with_reducible assumption | (with_reducible refine Below.setCell ?_ ?_ _) | (with_reducible refine Below.alloc ?_ ?_ _) | (with_reducible refine Below.drew ?_) | (with_reducible refine below_drewN ?_ _) | (with_reducible refine Below.trans ?_ (Below.mono (g3) ?_)) | (with_reducible refine Below.trans ?_ (Below.mono (g2) ?_)))); all_goals (first | omega | (simp; done) | (simp; omega) | (simp [*]; done) | (simp at *; omega)))); obtain ⟨zr0, zr1, zr2⟩ := zr.cells; have zrf := zr.fz; have zrl := zr.lt; go_wp2_with fail; refine bodyPost_ret (v := .tuple #[.agg #[.int .i64 0, .int .i64 0, .slice none 0 0], .bool false]) ?_ rfl ?_; (simp [results, Try.results18, go_sem, zr0, zr1, zr2, zrf, zrl]); exact ⟨_, rfl, Own.nil _ _, by (have bz0 := Below.size (g3); (try simp at bz0); have bz1 := Below.size (g2); (try simp at bz1); have bz2 := Below.size (g01); (try simp at bz2); (repeat' (first | with_reducible exact Below.refl _ _ | with_reducible assumption | (with_reducible refine Below.setCell ?_ ?_ _) | (with_reducible refine Below.alloc ?_ ?_ _) | (with_reducible refine Below.drew ?_) | (with_reducible refine below_drewN ?_ _) | (with_reducible refine Below.trans ?_ (Below.mono (g3) ?_)) | (with_reducible refine Below.trans ?_ (Below.mono (g2) ?_)) | (with_reducible refine Below.trans ?_ (Below.mono (g01) ?_)))); all_goals (first | omega | (simp; done) | (simp; omega) | (simp [*]; done) | (simp at *; omega)))⟩)
  · cases T with
    | none =>
      obtain rfl : RES = none := HR.out
      (have zr := MBox.grows mr (w' := w3) (by (have bz0 := Below.size (g3); (try simp at bz0); have bz1 := Below.size (g2); (try simp at bz1); (repeat' (first | with_reducible exact Below.refl _ _ | with_reducible assumption | (with_reducible refine Below.setCell ?_ ?_ _) | (with_reducible refine Below.alloc ?_ ?_ _) | (with_reducible refine Below.drew ?_) | (with_reducible refine below_drewN ?_ _) | (with_reducible refine Below.trans ?_ (Below.mono (g3) ?_)) | (with_reducible refine Below.trans ?_ (Below.mono (g2) ?_)))); all_goals (first | omega | (simp; done) | (simp; omega) | (simp [*]; done) | (simp at *; omega)))); obtain ⟨zr0, zr1, zr2⟩ := zr.cells; have zrf := zr.fz; have zrl := zr.lt; go_wp2_with fail; refine bodyPost_ret (v := .tuple #[.agg #[.int .i64 0, .int .i64 0, .slice none 0 0], .bool false]) ?_ rfl ?_; (simp [results, Try.results18, go_sem, zr0, zr1, zr2, zrf, zrl]); exact ⟨_, rfl, Own.nil _ _, by (have bz0 := Below.size (g3); (try simp at bz0); have bz1 := Below.size (g2); (try simp at bz1); have bz2 := Below.size (g01); (try simp at bz2); (repeat' (first | with_reducible exact Below.refl _ _ | with_reducible assumption | (with_reducible refine Below.setCell ?_ ?_ _) | (with_reducible refine Below.alloc ?_ ?_ _) | (with_reducible refine Below.drew ?_) | (with_reducible refine below_drewN ?_ _) | (with_reducible refine Below.trans ?_ (Below.mono (g3) ?_)) | (with_reducible refine Below.trans ?_ (Below.mono (g2) ?_)) | (with_reducible refine Below.trans ?_ (Below.mono (g01) ?_)))); all_goals (first | omega | (simp; done) | (simp; omega) | (simp [*]; done) | (simp at *; omega)))⟩)
    | some t =>
      obtain ⟨b0, b1, b2⟩ := (mg.grows (w' := w3) (by (have bz0 := Below.size (g3); (try simp at bz0); have bz1 := Below.size (g2); (try simp at bz1); (repeat' (first | with_reducible exact Below.refl _ _ | with_reducible assumption | (with_reducible refine Below.setCell ?_ ?_ _) | (with_reducible refine Below.alloc ?_ ?_ _) | (with_reducible refine Below.drew ?_) | (with_reducible refine below_drewN ?_ _) | (with_reducible refine Below.trans ?_ (Below.mono (g3) ?_)) | (with_reducible refine Below.trans ?_ (Below.mono (g2) ?_)))); all_goals (first | omega | (simp; done) | (simp; omega) | (simp [*]; done) | (simp at *; omega))))).cells
      obtain ⟨u0, u1, u2⟩ := (mu.grows (w' := w3) (by (have bz0 := Below.size (g3); (try simp at bz0); have bz1 := Below.size (g2); (try simp at bz1); (repeat' (first | with_reducible exact Below.refl _ _ | with_reducible assumption | (with_reducible refine Below.setCell ?_ ?_ _) | (with_reducible refine Below.alloc ?_ ?_ _) | (with_reducible refine Below.drew ?_) | (with_reducible refine below_drewN ?_ _) | (with_reducible refine Below.trans ?_ (Below.mono (g3) ?_)) | (with_reducible refine Below.trans ?_ (Below.mono (g2) ?_)))); all_goals (first | omega | (simp; done) | (simp; omega) | (simp [*]; done) | (simp at *; omega))))).cells
      have g13 : Grows w1 w3 := by (have bz0 := Below.size (g3); (try simp at bz0); have bz1 := Below.size (g2); (try simp at bz1); (repeat' (first | with_reducible exact Below.refl _ _ | with_reducible assumption | (with_reducible refine Below.setCell ?_ ?_ _) | (with_reducible refine Below.alloc ?_ ?_ _) | (with_reducible refine Below.drew ?_) | (with_reducible refine below_drewN ?_ _) | (with_reducible refine Below.trans ?_ (Below.mono (g3) ?_)) | (with_reducible refine Below.trans ?_ (Below.mono (g2) ?_)))); all_goals (first | omega | (simp; done) | (simp; omega) | (simp [*]; done) | (simp at *; omega)))
      go_wp2_with fail
      refine (HM.out _ (by exact (Rd.grows hb (by (have bz0 := Below.size (g13); (try simp at bz0); have bz1 := Below.size (g01); (try simp at bz1); (repeat' (first | with_reducible exact Below.refl _ _ | with_reducible assumption | (with_reducible refine Below.setCell ?_ ?_ _) | (with_reducible refine Below.alloc ?_ ?_ _) | (with_reducible refine Below.drew ?_) | (with_reducible refine below_drewN ?_ _) | (with_reducible refine Below.trans ?_ (Below.mono (g13) ?_)) | (with_reducible refine Below.trans ?_ (Below.mono (g01) ?_)))); all_goals (first | omega | (simp; done) | (simp; omega) | (simp [*]; done) | (simp at *; omega)))))) (by exact (Rd.grows ha (by (have bz0 := Below.size (g13); (try simp at bz0); have bz1 := Below.size (g01); (try simp at bz1); (repeat' (first | with_reducible exact Below.refl _ _ | with_reducible assumption | (with_reducible refine Below.setCell ?_ ?_ _) | (with_reducible refine Below.alloc ?_ ?_ _) | (with_reducible refine Below.drew ?_) | (with_reducible refine below_drewN ?_ _) | (with_reducible refine Below.trans ?_ (Below.mono (g13) ?_)) | (with_reducible refine Below.trans ?_ (Below.mono (g01) ?_)))); all_goals (first | omega | (simp; done) | (simp; omega) | (simp [*]; done) | (simp at *; omega))))))).mono ?_; rintro e w4 ⟨v4, rfl, ho4, g4⟩
      obtain ⟨A4, c4, rfl, hr4, _⟩ := ho4.val
      cases P with
      | none =>
        obtain rfl : RES = none := HR.out
        (have zr := MBox.grows mr (w' := w4) (by (have bz0 := Below.size (g4); (try simp at bz0); have bz1 := Below.size (g13); (try simp at bz1); (repeat' (first | with_reducible exact Below.refl _ _ | with_reducible assumption | (with_reducible refine Below.setCell ?_ ?_ _) | (with_reducible refine Below.alloc ?_ ?_ _) | (with_reducible refine Below.drew ?_) | (with_reducible refine below_drewN ?_ _) | (with_reducible refine Below.trans ?_ (Below.mono (g4) ?_)) | (with_reducible refine Below.trans ?_ (Below.mono (g13) ?_)))); all_goals (first | omega | (simp; done) | (simp; omega) | (simp [*]; done) | (simp at *; omega)))); obtain ⟨zr0, zr1, zr2⟩ := zr.cells; have zrf := zr.fz; have zrl := zr.lt; go_wp2_with fail; refine bodyPost_ret (v := .tuple #[.agg #[.int .i64 0, .int .i64 0, .slice none 0 0], .bool false]) ?_ rfl ?_; (simp [results, Try.results18, go_sem, zr0, zr1, zr2, zrf, zrl]); exact ⟨_, rfl, Own.nil _ _, by (have bz0 := Below.size (g4); (try simp at bz0); have bz1 := Below.size (g13); (try simp at bz1); have bz2 := Below.size (g01); (try simp at bz2); (repeat' (first | with_reducible exact Below.refl _ _ | with_reducible assumption | (with_reducible refine Below.setCell ?_ ?_ _) | (with_reducible refine Below.alloc ?_ ?_ _) | (with_reducible refine Below.drew ?_) | (with_reducible refine below_drewN ?_ _) | (with_reducible refine Below.trans ?_ (Below.mono (g4) ?_)) | (with_reducible refine Below.trans ?_ (Below.mono (g13) ?_)) | (with_reducible refine Below.trans ?_ (Below.mono (g01) ?_)))); all_goals (first | omega | (simp; done) | (simp; omega) | (simp [*]; done) | (simp at *; omega)))⟩)
      | some p =>
        clear b0 b1 b2 u0 u1 u2
        have hp : p.l.length ≤ 576 := hpl
        have ht : t.l.length ≤ 576 := htl
        obtain ⟨t0, t1, t2⟩ := (mt3.grows (w' := w4) (by (have bz0 := Below.size (g4); (try simp at bz0); (repeat' (first | with_reducible exact Below.refl _ _ | with_reducible assumption | (with_reducible refine Below.setCell ?_ ?_ _) | (with_reducible refine Below.alloc ?_ ?_ _) | (with_reducible refine Below.drew ?_) | (with_reducible refine below_drewN ?_ _) | (with_reducible refine Below.trans ?_ (Below.mono (g4) ?_)))); all_goals (first | omega | (simp; done) | (simp; omega) | (simp [*]; done) | (simp at *; omega))))).cells
        have tl := (mt3.grows (w' := w4) (by (have bz0 := Below.size (g4); (try simp at bz0); (repeat' (first | with_reducible exact Below.refl _ _ | with_reducible assumption | (with_reducible refine Below.setCell ?_ ?_ _) | (with_reducible refine Below.alloc ?_ ?_ _) | (with_reducible refine Below.drew ?_) | (with_reducible refine below_drewN ?_ _) | (with_reducible refine Below.trans ?_ (Below.mono (g4) ?_)))); all_goals (first | omega | (simp; done) | (simp; omega) | (simp [*]; done) | (simp at *; omega))))).lt
        have hrt : Rd w4 A2 t.l := (Rd.grows hr2 (by (have bz0 := Below.size (g4); (try simp at bz0); have bz1 := Below.size (g3); (try simp at bz1); (repeat' (first | with_reducible exact Below.refl _ _ | with_reducible assumption | (with_reducible refine Below.setCell ?_ ?_ _) | (with_reducible refine Below.alloc ?_ ?_ _) | (with_reducible refine Below.drew ?_) | (with_reducible refine below_drewN ?_ _) | (with_reducible refine Below.trans ?_ (Below.mono (g4) ?_)) | (with_reducible refine Below.trans ?_ (Below.mono (g3) ?_)))); all_goals (first | omega | (simp; done) | (simp; omega) | (simp [*]; done) | (simp at *; omega)))))
        go_wp2_with fail
        refine (HQ.out _ _ _ p t _ _ (by exact (Rd.grows hr4 (by ((repeat' (first | with_reducible exact Below.refl _ _ | with_reducible assumption | (with_reducible refine Below.setCell ?_ ?_ _) | (with_reducible refine Below.alloc ?_ ?_ _) | (with_reducible refine Below.drew ?_) | (with_reducible refine below_drewN ?_ _))); all_goals (first | omega | (simp; done) | (simp; omega) | (simp [*]; done) | (simp at *; omega)))))) (by exact (Rd.grows hrt (by ((repeat' (first | with_reducible exact Below.refl _ _ | with_reducible assumption | (with_reducible refine Below.setCell ?_ ?_ _) | (with_reducible refine Below.alloc ?_ ?_ _) | (with_reducible refine Below.drew ?_) | (with_reducible refine below_drewN ?_ _))); all_goals (first | omega | (simp; done) | (simp; omega) | (simp [*]; done) | (simp at *; omega)))))) (by omega) (by omega)).mono ?_; rintro e w5 ⟨v5, rfl, ho5, g5⟩
        obtain rfl : RES = mulO p t := HR.out
        clear HR
        generalize mulO p t = Q at *
        obtain ⟨A5, c5, rfl, _, _⟩ := ho5.val
        have hz4 : w.heap.size + 3 ≤ w4.heap.size := by have := HS1.out; have := Below.size g13; have := Below.size g4; omega
        (have zr := MBox.grows mr (w' := w5) (by (have bz0 := Below.size (g5); (try simp at bz0); have bz1 := Below.size (g4); (try simp at bz1); have bz2 := Below.size (g13); (try simp at bz2); (repeat' (first | with_reducible exact Below.refl _ _ | with_reducible assumption | (with_reducible refine Below.setCell ?_ ?_ _) | (with_reducible refine Below.alloc ?_ ?_ _) | (with_reducible refine Below.drew ?_) | (with_reducible refine below_drewN ?_ _) | (with_reducible refine Below.trans ?_ (Below.mono (g5) ?_)) | (with_reducible refine Below.trans ?_ (Below.mono (g4) ?_)) | (with_reducible refine Below.trans ?_ (Below.mono (g13) ?_)))); all_goals (first | omega | (simp; done) | (simp; omega) | (simp [*]; done) | (simp at *; omega)))); obtain ⟨zr0, zr1, zr2⟩ := zr.cells; have zrf := zr.fz; have zrl := zr.lt; go_wp2_with fail; refine bodyPost_ret (v := .tuple #[.agg #[.int .i64 (oM Q).r, .int .i64 (oM Q).c, .slice A5 (oM Q).l.length c5], .bool Q.isSome]) ?_ rfl ?_; (simp [results, Try.results18, go_sem, zr0, zr1, zr2, zrf, zrl]); exact ⟨_, rfl, by (refine Own.less (B := ?OB) ?_ ?_; (repeat' (first | with_reducible exact ho5 | with_reducible refine Own.alloc ?_ _ | with_reducible refine Own.drew ?_ | with_reducible refine Own.low ?_ ?_ _)); all_goals (first | omega | (simp; done) | (simp; omega) | (simp [*]; done) | (simp at *; omega))), by (have bz0 := Below.size (g5); (try simp at bz0); have bz1 := Below.size (g4); (try simp at bz1); have bz2 := Below.size (g13); (try simp at bz2); have bz3 := Below.size (g01); (try simp at bz3); (repeat' (first | with_reducible exact Below.refl _ _ | with_reducible assumption | (with_reducible refine Below.setCell ?_ ?_ _) | (with_reducible refine Below.alloc ?_ ?_ _) | (with_reducible refine Below.drew ?_) | (with_reducible refine below_drewN ?_ _) | (with_reducible refine Below.trans ?_ (Below.mono (g5) ?_)) | (with_reducible refine Below.trans ?_ (Below.mono (g4) ?_)) | (with_reducible refine Below.trans ?_ (Below.mono (g13) ?_)) | (with_reducible refine Below.trans ?_ (Below.mono (g01) ?_)))); all_goals (first | omega | (simp; done) | (simp; omega) | (simp [*]; done) | (simp at *; omega)))⟩)

theorem sTurn_m (m : MX) (hm : m.ok = true) (r c : Int) (hr : m.r = r) (hc : m.c = c) (A : Option Addr) (n cap : Nat) (w : World) (hn : m.l.length = n) (ha : Rd w A m.l) :
    Calls Try.prog 55 #[.agg #[.int .i64 r, .int .i64 c, .slice A n cap]] w (Mat1 (trM m) w) := by
  obtain ⟨R, C, e1, e2, hR, hC, hlen, _⟩ := isMat_ok hm
  subst hr
  subst hc
  have := l3Turn_c R C A m.l n cap w hn ha hlen hR hC
  rw [e1, e2]
  unfold Mat1 trM
  rw [e1, e2]
  exact this
theorem sCB_c (r c r' c' : Int) (A B : Option Addr) (a b : List Int) (n m ca cb : Nat) (w : World) (hn : a.length = n) (hm : b.length = m) (ha : Rd w A a) (hb : Rd w B b) (hl : n ≤ 1099511627776) (hl2 : m ≤ 1099511627776) :
    Calls Try.prog 16 #[.agg #[.int .i64 r, .int .i64 c, .slice A n ca], .agg #[.int .i64 r', .int .i64 c', .slice B m cb]] w (MatRet (cbO ⟨r, c, a⟩ ⟨r', c', b⟩) w) := by
  have HG := Lib.hid fun W h => sIsGram_c r c A a n ca W hn h hl
  have HM := Lib.hid fun W h h' => sMul_m r' c' r c B A b a m n cb ca W hm hn h h' hl2 hl
  have HT := Lib.hid fun W (hok : MX.ok ⟨r', c', b⟩ = true) h => sTurn_m ⟨r', c', b⟩ hok r' c' rfl rfl B m cb W hm h
  have hpl : (oM (mulO ⟨r', c', b⟩ ⟨r, c, a⟩)).l.length ≤ 576 := oM_length fun _ h => mulO_ok h
  have HQ := Lib.hid fun W X Y (p t : MX) cx cy h h' h1 h2 => sMul_m p.r p.c t.r t.c X Y p.l t.l p.l.length t.l.length cx cy W rfl rfl h h' h1 h2
  have HOK := Lib.hid fun p (h : mulO ⟨r', c', b⟩ ⟨r, c, a⟩ = some p) => (show MX.ok ⟨r', c', b⟩ = true from by
    cases e : MX.ok ⟨r', c', b⟩
    · rw [mulO_no e] at h; cases h
    · rfl)
  have HTL := Lib.hid fun (hok : MX.ok ⟨r', c', b⟩ = true) => (show (trM ⟨r', c', b⟩).l.length ≤ 576 from oM_length (o := some (trM ⟨r', c', b⟩)) fun _ h => by cases h; exact trM_ok hok)
  obtain ⟨RES, hRES⟩ : ∃ x, x = cbO ⟨r, c, a⟩ ⟨r', c', b⟩ := ⟨_, rfl⟩
  rw [← hRES]
  unfold cbO at hRES
  simp only at hRES
  clear hn hm
  generalize hP : mulO ⟨r', c', b⟩ ⟨r, c, a⟩ = P at *
  generalize isGram r c a = e0 at *
  generalize trM ⟨r', c', b⟩ = t at *
  obtain ⟨w1, hw1, mg, mu, mr, hs1, g01⟩ := two_mats w r c r' c' (.slice A n ca) (.slice B m cb)
  have HW1 := Lib.hid hw1
  have HS1 := Lib.hid hs1
  have HR := Lib.hid hRES
  have HP := Lib.hid hP
  clear hw1 hs1 hRES hP
  go_enter Try.func16, Try.ntmps16
  go_wp2_with fail
  refine (HG.out _ (by exact (Rd.grows ha (by ((repeat' (first | with_reducible exact Below.refl _ _ | with_reducible assumption | (with_reducible refine Below.setCell ?_ ?_ _) | (with_reducible refine Below.alloc ?_ ?_ _) | (with_reducible refine Below.drew ?_) | (with_reducible refine below_drewN ?_ _))); all_goals (first | omega | (simp; done) | (simp; omega) | (simp [*]; done) | (simp at *; omega))))))).mono ?_; rintro e w2 ⟨rfl, g2⟩
  rw [← HW1.out] at g2
  cases e0
  · obtain rfl : RES = none := HR.out
    (have zr := MBox.grows mr (w' := w2) (by (have bz0 := Below.size (g2); (try simp at bz0); (repeat' (first | with_reducible exact Below.refl _ _ | with_reducible assumption | (with_reducible refine Below.setCell ?_ ?_ _) | (with_reducible refine Below.alloc ?_ ?_ _) | (with_reducible refine Below.drew ?_) | (with_reducible refine below_drewN ?_ _) | (with_reducible refine Below.trans ?_ (Below.mono (g2) ?_)))); all_goals (first | omega | (simp; done) | (simp; omega) | (simp [*]; done) | (simp at *; omega)))); obtain ⟨zr0, zr1, zr2⟩ := zr.cells; have zrf := zr.fz; have zrl := zr.lt; go_wp2_with fail; refine bodyPost_ret (v := .tuple #[.agg #[.int .i64 0, .int .i64 0, .slice none 0 0], .bool false]) ?_ rfl ?_; (simp [results, Try.results16, go_sem, zr0, zr1, zr2, zrf, zrl]); exact ⟨_, rfl, Own.nil _ _, by (have bz0 := Below.size (g2); (try simp at bz0); have bz1 := Below.size (g01); (try simp at bz1); (repeat' (first | with_reducible exact Below.refl _ _ | with_reducible assumption | (with_reducible refine Below.setCell ?_ ?_ _) | (with_reducible refine Below.alloc ?_ ?_ _) | (with_reducible refine Below.drew ?_) | (with_reducible refine below_drewN ?_ _) | (with_reducible refine Below.trans ?_ (Below.mono (g2) ?_)) | (with_reducible refine Below.trans ?_ (Below.mono (g01) ?_)))); all_goals (first | omega | (simp; done) | (simp; omega) | (simp [*]; done) | (simp at *; omega)))⟩)
  · obtain ⟨b0, b1, b2⟩ := (mg.grows (w' := w2) (by (have bz0 := Below.size (g2); (try simp at bz0); (repeat' (first | with_reducible exact Below.refl _ _ | with_reducible assumption | (with_reducible refine Below.setCell ?_ ?_ _) | (with_reducible refine Below.alloc ?_ ?_ _) | (with_reducible refine Below.drew ?_) | (with_reducible refine below_drewN ?_ _) | (with_reducible refine Below.trans ?_ (Below.mono (g2) ?_)))); all_goals (first | omega | (simp; done) | (simp; omega) | (simp [*]; done) | (simp at *; omega))))).cells
    obtain ⟨u0, u1, u2⟩ := (mu.grows (w' := w2) (by (have bz0 := Below.size (g2); (try simp at bz0); (repeat' (first | with_reducible exact Below.refl _ _ | with_reducible assumption | (with_reducible refine Below.setCell ?_ ?_ _) | (with_reducible refine Below.alloc ?_ ?_ _) | (with_reducible refine Below.drew ?_) | (with_reducible refine below_drewN ?_ _) | (with_reducible refine Below.trans ?_ (Below.mono (g2) ?_)))); all_goals (first | omega | (simp; done) | (simp; omega) | (simp [*]; done) | (simp at *; omega))))).cells
    go_wp2_with fail
    refine (HM.out _ (by exact (Rd.grows hb (by (have bz0 := Below.size (g2); (try simp at bz0); have bz1 := Below.size (g01); (try simp at bz1); (repeat' (first | with_reducible exact Below.refl _ _ | with_reducible assumption | (with_reducible refine Below.setCell ?_ ?_ _) | (with_reducible refine Below.alloc ?_ ?_ _) | (with_reducible refine Below.drew ?_) | (with_reducible refine below_drewN ?_ _) | (with_reducible refine Below.trans ?_ (Below.mono (g2) ?_)) | (with_reducible refine Below.trans ?_ (Below.mono (g01) ?_)))); all_goals (first | omega | (simp; done) | (simp; omega) | (simp [*]; done) | (simp at *; omega)))))) (by exact (Rd.grows ha (by (have bz0 := Below.size (g2); (try simp at bz0); have bz1 := Below.size (g01); (try simp at bz1); (repeat' (first | with_reducible exact Below.refl _ _ | with_reducible assumption | (with_reducible refine Below.setCell ?_ ?_ _) | (with_reducible refine Below.alloc ?_ ?_ _) | (with_reducible refine Below.drew ?_) | (with_reducible refine below_drewN ?_ _) | (with_reducible refine Below.trans ?_ (Below.mono (g2) ?_)) | (with_reducible refine Below.trans ?_ (Below.mono (g01) ?_)))); all_goals (first | omega | (simp; done) | (simp; omega) | (simp [*]; done) | (simp at *; omega))))))).mono ?_; rintro e w3 ⟨v3, rfl, ho3, g3⟩
    obtain ⟨A3, c3, rfl, hr3, _⟩ := ho3.val
    cases P with
    | none =>
      have hrn : RES = none := by have := HR.out; revert this; cases MX.ok ⟨r', c', b⟩ <;> exact fun h => h
      subst hrn
      (have zr := MBox.grows mr (w' := w3) (by (have bz0 := Below.size (g3); (try simp at bz0); have bz1 := Below.size (g2); (try simp at bz1); (repeat' (first | with_reducible exact Below.refl _ _ | with_reducible assumption | (with_reducible refine Below.setCell ?_ ?_ _) | (with_reducible refine Below.alloc ?_ ?_ _) | (with_reducible refine Below.drew ?_) | (with_reducible refine below_drewN ?_ _) | (with_reducible refine Below.trans ?_ (Below.mono (g3) ?_)) | (with_reducible refine Below.trans ?_ (Below.mono (g2) ?_)))); all_goals (first | omega | (simp; done) | (simp; omega) | (simp [*]; done) | (simp at *; omega)))); obtain ⟨zr0, zr1, zr2⟩ := zr.cells; have zrf := zr.fz; have zrl := zr.lt; go_wp2_with fail; refine bodyPost_ret (v := .tuple #[.agg #[.int .i64 0, .int .i64 0, .slice none 0 0], .bool false]) ?_ rfl ?_; (simp [results, Try.results16, go_sem, zr0, zr1, zr2, zrf, zrl]); exact ⟨_, rfl, Own.nil _ _, by (have bz0 := Below.size (g3); (try simp at bz0); have bz1 := Below.size (g2); (try simp at bz1); have bz2 := Below.size (g01); (try simp at bz2); (repeat' (first | with_reducible exact Below.refl _ _ | with_reducible assumption | (with_reducible refine Below.setCell ?_ ?_ _) | (with_reducible refine Below.alloc ?_ ?_ _) | (with_reducible refine Below.drew ?_) | (with_reducible refine below_drewN ?_ _) | (with_reducible refine Below.trans ?_ (Below.mono (g3) ?_)) | (with_reducible refine Below.trans ?_ (Below.mono (g2) ?_)) | (with_reducible refine Below.trans ?_ (Below.mono (g01) ?_)))); all_goals (first | omega | (simp; done) | (simp; omega) | (simp [*]; done) | (simp at *; omega)))⟩)
    | some p =>
      simp only [oM_some] at hr3 ho3 ⊢
      have hok := HOK.out p rfl
      have hrp : RES = mulO p t := by have := HR.out; rw [hok] at this; exact this
      have HT' := Lib.hid fun W h => HT.out W hok h
      have htl := HTL.out hok
      have hp : p.l.length ≤ 576 := hpl
      subst hrp
      clear b0 b1 b2 u0 u1 u2 hpl HR
      generalize hQ : mulO p t = Q at *
      have HQ' := Lib.hid fun W X Y cx cy h h' => HQ.out W X Y p t cx cy h h' (by omega) (by omega)
      rw [hQ] at HQ'
      have mp0 := MBox.mk_ w3 p.r p.c (.slice A3 p.l.length c3) 26
      have hz3 : w.heap.size + 3 ≤ w3.heap.size := by have := HS1.out; have := Below.size g2; have := Below.size g3; omega
      obtain ⟨w4, hw4⟩ : ∃ w4, w4 = w3.alloc (.cells #[.int .i64 p.r, .int .i64 p.c, .slice A3 p.l.length c3] 26) := ⟨_, rfl⟩
      have g4 : Grows w3 w4 := by rw [hw4]; ((repeat' (first | with_reducible exact Below.refl _ _ | with_reducible assumption | (with_reducible refine Below.setCell ?_ ?_ _) | (with_reducible refine Below.alloc ?_ ?_ _) | (with_reducible refine Below.drew ?_) | (with_reducible refine below_drewN ?_ _))); all_goals (first | omega | (simp; done) | (simp; omega) | (simp [*]; done) | (simp at *; omega)))
      have hz4 : w4.heap.size = w3.heap.size + 1 := by rw [hw4]; simp
      rw [← hw4] at mp0
      have mu4 := mu.grows (w' := w4) (by (have bz0 := Below.size (g4); (try simp at bz0); have bz1 := Below.size (g3); (try simp at bz1); have bz2 := Below.size (g2); (try simp at bz2); (repeat' (first | with_reducible exact Below.refl _ _ | with_reducible assumption | (with_reducible refine Below.setCell ?_ ?_ _) | (with_reducible refine Below.alloc ?_ ?_ _) | (with_reducible refine Below.drew ?_) | (with_reducible refine below_drewN ?_ _) | (with_reducible refine Below.trans ?_ (Below.mono (g4) ?_)) | (with_reducible refine Below.trans ?_ (Below.mono (g3) ?_)) | (with_reducible refine Below.trans ?_ (Below.mono (g2) ?_)))); all_goals (first | omega | (simp; done) | (simp; omega) | (simp [*]; done) | (simp at *; omega))))
      have hr4 : Rd w4 A3 p.l := (Rd.grows hr3 (by (have bz0 := Below.size (g4); (try simp at bz0); (repeat' (first | with_reducible exact Below.refl _ _ | with_reducible assumption | (with_reducible refine Below.setCell ?_ ?_ _) | (with_reducible refine Below.alloc ?_ ?_ _) | (with_reducible refine Below.drew ?_) | (with_reducible refine below_drewN ?_ _) | (with_reducible refine Below.trans ?_ (Below.mono (g4) ?_)))); all_goals (first | omega | (simp; done) | (simp; omega) | (simp [*]; done) | (simp at *; omega)))))
      have hb4 : Rd w4 B b := (Rd.grows hb (by (have bz0 := Below.size (g4); (try simp at bz0); have bz1 := Below.size (g3); (try simp at bz1); have bz2 := Below.size (g2); (try simp at bz2); have bz3 := Below.size (g01); (try simp at bz3); (repeat' (first | with_reducible exact Below.refl _ _ | with_reducible assumption | (with_reducible refine Below.setCell ?_ ?_ _) | (with_reducible refine Below.alloc ?_ ?_ _) | (with_reducible refine Below.drew ?_) | (with_reducible refine below_drewN ?_ _) | (with_reducible refine Below.trans ?_ (Below.mono (g4) ?_)) | (with_reducible refine Below.trans ?_ (Below.mono (g3) ?_)) | (with_reducible refine Below.trans ?_ (Below.mono (g2) ?_)) | (with_reducible refine Below.trans ?_ (Below.mono (g01) ?_)))); all_goals (first | omega | (simp; done) | (simp; omega) | (simp [*]; done) | (simp at *; omega)))))
      have mr4 := mr.grows (w' := w4) (by (have bz0 := Below.size (g4); (try simp at bz0); have bz1 := Below.size (g3); (try simp at bz1); have bz2 := Below.size (g2); (try simp at bz2); (repeat' (first | with_reducible exact Below.refl _ _ | with_reducible assumption | (with_reducible refine Below.setCell ?_ ?_ _) | (with_reducible refine Below.alloc ?_ ?_ _) | (with_reducible refine Below.drew ?_) | (with_reducible refine below_drewN ?_ _) | (with_reducible refine Below.trans ?_ (Below.mono (g4) ?_)) | (with_reducible refine Below.trans ?_ (Below.mono (g3) ?_)) | (with_reducible refine Below.trans ?_ (Below.mono (g2) ?_)))); all_goals (first | omega | (simp; done) | (simp; omega) | (simp [*]; done) | (simp at *; omega))))
      have gw4 : Grows w w4 := by (have bz0 := Below.size (g4); (try simp at bz0); have bz1 := Below.size (g3); (try simp at bz1); have bz2 := Below.size (g2); (try simp at bz2); have bz3 := Below.size (g01); (try simp at bz3); (repeat' (first | with_reducible exact Below.refl _ _ | with_reducible assumption | (with_reducible refine Below.setCell ?_ ?_ _) | (with_reducible refine Below.alloc ?_ ?_ _) | (with_reducible refine Below.drew ?_) | (with_reducible refine below_drewN ?_ _) | (with_reducible refine Below.trans ?_ (Below.mono (g4) ?_)) | (with_reducible refine Below.trans ?_ (Below.mono (g3) ?_)) | (with_reducible refine Below.trans ?_ (Below.mono (g2) ?_)) | (with_reducible refine Below.trans ?_ (Below.mono (g01) ?_)))); all_goals (first | omega | (simp; done) | (simp; omega) | (simp [*]; done) | (simp at *; omega)))
      have HW4 := Lib.hid hw4
      have HZ4 := Lib.hid hz4
      have hz5 : w.heap.size + 1 + 1 < w4.heap.size := by omega
      have hz6 : w3.heap.size < w4.heap.size := by omega
      clear hw4 hz4 mu mr mg g2 g3 g4 g01 hr3 ho3 hQ
      go_wp2_with fail
      rw [← HW4.out]
      go_region_held3 (fun W => W.cell? ⟨w3.heap.size, 0, none⟩ = some (.int .i64 p.r) ∧ W.cell? ⟨w3.heap.size, 1, none⟩ = some (.int .i64 p.c) ∧ W.cell? ⟨w3.heap.size, 2, none⟩ = some (.slice A3 p.l.length c3) ∧ W.cell? ⟨w.heap.size + 1, 0, none⟩ = some (.int .i64 r') ∧ W.cell? ⟨w.heap.size + 1, 1, none⟩ = some (.int .i64 c') ∧ W.cell? ⟨w.heap.size + 1, 2, none⟩ = some (.slice B m cb)) ((refine two_boxes mp0 mu4 ?_; first | (have bz0 := Below.size (q2); (try simp at bz0); have bz1 := Below.size (q1); (try simp at bz1); (repeat' (first | with_reducible exact Below.refl _ _ | with_reducible assumption | (with_reducible refine Below.setCell ?_ ?_ _) | (with_reducible refine Below.alloc ?_ ?_ _) | (with_reducible refine Below.drew ?_) | (with_reducible refine below_drewN ?_ _) | (with_reducible refine Below.trans ?_ (Below.mono (q2) ?_)) | (with_reducible refine Below.trans ?_ (Below.mono (q1) ?_)))); all_goals (first | omega | (simp; done) | (simp; omega) | (simp [*]; done) | (simp at *; omega))) | (have bz0 := Below.size (q1); (try simp at bz0); (repeat' (first | with_reducible exact Below.refl _ _ | with_reducible assumption | (with_reducible refine Below.setCell ?_ ?_ _) | (with_reducible refine Below.alloc ?_ ?_ _) | (with_reducible refine Below.drew ?_) | (with_reducible refine below_drewN ?_ _) | (with_reducible refine Below.trans ?_ (Below.mono (q1) ?_)))); all_goals (first | omega | (simp; done) | (simp; omega) | (simp [*]; done) | (simp at *; omega))) | ((repeat' (first | with_reducible exact Below.refl _ _ | with_reducible assumption | (with_reducible refine Below.setCell ?_ ?_ _) | (with_reducible refine Below.alloc ?_ ?_ _) | (with_reducible refine Below.drew ?_) | (with_reducible refine below_drewN ?_ _))); all_goals (first | omega | (simp; done) | (simp; omega) | (simp [*]; done) | (simp at *; omega)))))
        (first
         | (go_at_call 55; refine (HT'.out _ (by exact (Rd.grows hb4 (by ((repeat' (first | with_reducible exact Below.refl _ _ | with_reducible assumption | (with_reducible refine Below.setCell ?_ ?_ _) | (with_reducible refine Below.alloc ?_ ?_ _) | (with_reducible refine Below.drew ?_) | (with_reducible refine below_drewN ?_ _))); all_goals (first | omega | (simp; done) | (simp; omega) | (simp [*]; done) | (simp at *; omega))))))).mono ?_; rintro e x1 ⟨y1, rfl, oy1, q1⟩; obtain ⟨D1, d1, rfl, hrd1, _⟩ := oy1.val; have s1 := Below.size q1; (try simp at s1); (try (have q := (MBox.mk_ w4 0 0 (.slice none 0 0) 26).grows (w' := x1) (Grows.trans (show Grows _ _ from (Below.refl _ _).drew) q1))))
         | (go_at_call 54; refine (HQ'.out _ _ _ _ _ (by exact (Rd.grows hr4 (by (have bz0 := Below.size (q1); (try simp at bz0); (repeat' (first | with_reducible exact Below.refl _ _ | with_reducible assumption | (with_reducible refine Below.setCell ?_ ?_ _) | (with_reducible refine Below.alloc ?_ ?_ _) | (with_reducible refine Below.drew ?_) | (with_reducible refine below_drewN ?_ _) | (with_reducible refine Below.trans ?_ (Below.mono (q1) ?_)))); all_goals (first | omega | (simp; done) | (simp; omega) | (simp [*]; done) | (simp at *; omega)))))) (by exact (Rd.grows hrd1 (by ((repeat' (first | with_reducible exact Below.refl _ _ | with_reducible assumption | (with_reducible refine Below.setCell ?_ ?_ _) | (with_reducible refine Below.alloc ?_ ?_ _) | (with_reducible refine Below.drew ?_) | (with_reducible refine below_drewN ?_ _))); all_goals (first | omega | (simp; done) | (simp; omega) | (simp [*]; done) | (simp at *; omega))))))).mono ?_; rintro e x2 ⟨y2, rfl, oy2, q2⟩; obtain ⟨D2, d2, rfl, _, _⟩ := oy2.val; have s2 := Below.size q2; (try simp at s2); (first | (replace q := q.grows q2) | (have q := MBox.grows (MBox.mk_ x1 0 0 (.slice none 0 0) 26) q2) | skip); (try (obtain ⟨k0, k1, k2⟩ := q.cells; have kf := q.fz; have kl := q.lt))))
      all_goals
        have zr := mr4.grows (w' := x2) (by (have bz0 := Below.size (q2); (try simp at bz0); have bz1 := Below.size (q1); (try simp at bz1); (repeat' (first | with_reducible exact Below.refl _ _ | with_reducible assumption | (with_reducible refine Below.setCell ?_ ?_ _) | (with_reducible refine Below.alloc ?_ ?_ _) | (with_reducible refine Below.drew ?_) | (with_reducible refine below_drewN ?_ _) | (with_reducible refine Below.trans ?_ (Below.mono (q2) ?_)) | (with_reducible refine Below.trans ?_ (Below.mono (q1) ?_)))); all_goals (first | omega | (simp; done) | (simp; omega) | (simp [*]; done) | (simp at *; omega))))
        obtain ⟨zr0, zr1, zr2⟩ := zr.cells
        have zrf := zr.fz
        have zrl := zr.lt
        have hb3 := fun k hk => World.ownsRow.lt oy2 k hk
        have ho4 := oy2.less (show w.heap.size ≤ _ by have := HZ4.out; (try simp); omega)
        go_wp2_with fail
        refine bodyPost_ret (v := .tuple #[.agg #[.int .i64 (oM Q).r, .int .i64 (oM Q).c, .slice D2 (oM Q).l.length d2], .bool Q.isSome]) ?_ rfl ?_
        · simp [results, Try.results16, go_sem, zr0, zr1, zr2, zrf, zrl]
        · have hz4 := HZ4.out
          exact ⟨_, rfl, by ((repeat' (first | with_reducible exact ho4 | with_reducible refine Own.alloc ?_ _ | with_reducible refine Own.drew ?_ | with_reducible refine Own.far ?_ ?_ _)); all_goals first | (intro k hk; have := hb3 k hk; (try simp at this); (try simp); omega) | ((try simp); omega)), by (have bz0 := Below.size (q2); (try simp at bz0); have bz1 := Below.size (q1); (try simp at bz1); have bz2 := Below.size (gw4); (try simp at bz2); (repeat' (first | with_reducible exact Below.refl _ _ | with_reducible assumption | (with_reducible refine Below.setCell ?_ ?_ _) | (with_reducible refine Below.alloc ?_ ?_ _) | (with_reducible refine Below.drew ?_) | (with_reducible refine below_drewN ?_ _) | (with_reducible refine Below.trans ?_ (Below.mono (q2) ?_)) | (with_reducible refine Below.trans ?_ (Below.mono (q1) ?_)) | (with_reducible refine Below.trans ?_ (Below.mono (gw4) ?_)))); all_goals (first | omega | (simp; done) | (simp; omega) | (simp [*]; done) | (simp at *; omega)))⟩
end
end Go.Proofs.Ytpfijhcjempfjaa
