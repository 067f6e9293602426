/- Contracts and lemmas, put together. -/
import Derived.Test.YticmopedbgoflaaPkB
/- Contracts: ChangeBasis. -/
namespace Go.Proofs.Yticmopedbgoflaa
set_option linter.unusedSimpArgs false
set_option linter.unusedVariables false
open Go.RowKit

/-- a form in another basis -/
def cbO (g u : MX) : Option MX := if isGram g.r g.c g.l && u.ok then (mulO u g).bind fun p => mulO p (trM u) else none
theorem cbO_ok {g u m : MX} (h : cbO g u = some m) : m.ok = true := by
  unfold cbO at h
  split at h
  · obtain ⟨p, _, h2⟩ := Option.bind_eq_some_iff.1 h; exact mulO_ok h2
  · cases h

section
set_option maxHeartbeats 1000000
theorem iCB_c (r c r' c' : Int) (A B : Option Addr) (a b : List Int) (n m ca cb : Nat) (w : World) (hn : a.length = n) (hm : b.length = m) (ha : Rd w A a) (hb : Rd w B b) (hl : n ≤ 1099511627776) (hl2 : m ≤ 1099511627776) :
    Calls Try.prog 18 #[.agg #[.int .i64 r, .int .i64 c, .slice A n ca], .agg #[.int .i64 r', .int .i64 c', .slice B m cb]] w (MatRet (cbO ⟨r, c, a⟩ ⟨r', c', b⟩) w) := by
  have HT := Lib.hid fun W h => iTr_m r' c' B b m cb W hm h hl2
  have HG := Lib.hid fun W h => iIsGram_c r c A a n ca W hn h hl
  have HM := Lib.hid fun W h h' => iMul_m r' c' r c B A b a m n cb ca W hm hn h h' hl2 hl
  have hpl : (oM (mulO ⟨r', c', b⟩ ⟨r, c, a⟩)).l.length ≤ 576 := oM_length fun _ h => mulO_ok h
  have htl : (oM (trO ⟨r', c', b⟩)).l.length ≤ 576 := oM_length fun _ h => trO_ok h
  have HQ := Lib.hid fun W X Y (p t : MX) cx cy h h' h1 h2 => iMul_m p.r p.c t.r t.c X Y p.l t.l p.l.length t.l.length cx cy W rfl rfl h h' h1 h2
  have hcb : cbO ⟨r, c, a⟩ ⟨r', c', b⟩ = if isGram r c a && (trO ⟨r', c', b⟩).isSome then (mulO ⟨r', c', b⟩ ⟨r, c, a⟩).bind fun p => mulO p (oM (trO ⟨r', c', b⟩)) else none := by
    unfold cbO trO
    simp only
    cases (⟨r', c', b⟩ : MX).ok <;> simp [oM]
  obtain ⟨RES, hRES⟩ : ∃ x, x = cbO ⟨r, c, a⟩ ⟨r', c', b⟩ := ⟨_, rfl⟩
  rw [← hRES]
  rw [hcb] at hRES
  clear hcb hn hm
  generalize mulO ⟨r', c', b⟩ ⟨r, c, a⟩ = P at *
  generalize trO ⟨r', c', b⟩ = T at *
  generalize isGram r c a = e0 at *
  obtain ⟨w1, hw1, mg, mu, mr, hs1, g01⟩ := two_mats w r c r' c' (.slice A n ca) (.slice B m cb)
  have HW1 := Lib.hid hw1
  have HS1 := Lib.hid hs1
  have HR := Lib.hid hRES
  clear hw1 hs1 hRES
  go_enter Try.func18, Try.ntmps18
  go_wp2_with fail
  refine (HT.out _ (by exact (Rd.grows hb (by exact bel0)))).mono ?_; rintro e w2 ⟨v2, rfl, ho2, g2⟩
  rw [← HW1.out] at g2 ho2
  obtain ⟨A2, c2, rfl, hr2, _⟩ := ho2.val
  have mg2 := mg.grows g2
  obtain ⟨b0, b1, b2⟩ := mg2.cells
  have bl := mg2.lt
  go_wp2_with fail
  refine (HG.out _ (by exact (Rd.grows ha (by exact bel2 g2 g01)))).mono ?_; rintro e w3 ⟨rfl, g3⟩
  clear b0 b1 b2 bl mg2
  have mt3 := MBox.grows (MBox.mk_ w2 (oM T).r (oM T).c (.slice A2 (oM T).l.length c2) 26) g3
  cases e0
  · obtain rfl : RES = none := HR.out
    (have zr := MBox.grows mr (w' := w3) (by exact bel2 g3 g2); obtain ⟨zr0, zr1, zr2⟩ := zr.cells; have zrf := zr.fz; have zrl := zr.lt; go_wp2_with fail; refine bodyPost_ret (v := .tuple #[.agg #[.int .i64 0, .int .i64 0, .slice none 0 0], .bool false]) ?_ rfl ?_; (simp [results, Try.results18, go_sem, zr0, zr1, zr2, zrf, zrl]); exact ⟨_, rfl, Own.nil _ _, by exact bel3 g3 g2 g01⟩)
  · cases T with
    | none =>
      obtain rfl : RES = none := HR.out
      (have zr := MBox.grows mr (w' := w3) (by exact bel2 g3 g2); obtain ⟨zr0, zr1, zr2⟩ := zr.cells; have zrf := zr.fz; have zrl := zr.lt; go_wp2_with fail; refine bodyPost_ret (v := .tuple #[.agg #[.int .i64 0, .int .i64 0, .slice none 0 0], .bool false]) ?_ rfl ?_; (simp [results, Try.results18, go_sem, zr0, zr1, zr2, zrf, zrl]); exact ⟨_, rfl, Own.nil _ _, by exact bel3 g3 g2 g01⟩)
    | some t =>
      obtain ⟨b0, b1, b2⟩ := (mg.grows (w' := w3) (by exact bel2 g3 g2)).cells
      obtain ⟨u0, u1, u2⟩ := (mu.grows (w' := w3) (by exact bel2 g3 g2)).cells
      have g13 : Grows w1 w3 := by exact bel2 g3 g2
      go_wp2_with fail
      refine (HM.out _ (by exact (Rd.grows hb (by exact bel2 g13 g01))) (by exact (Rd.grows ha (by exact bel2 g13 g01)))).mono ?_; rintro e w4 ⟨v4, rfl, ho4, g4⟩
      obtain ⟨A4, c4, rfl, hr4, _⟩ := ho4.val
      cases P with
      | none =>
        obtain rfl : RES = none := HR.out
        (have zr := MBox.grows mr (w' := w4) (by exact bel2 g4 g13); obtain ⟨zr0, zr1, zr2⟩ := zr.cells; have zrf := zr.fz; have zrl := zr.lt; go_wp2_with fail; refine bodyPost_ret (v := .tuple #[.agg #[.int .i64 0, .int .i64 0, .slice none 0 0], .bool false]) ?_ rfl ?_; (simp [results, Try.results18, go_sem, zr0, zr1, zr2, zrf, zrl]); exact ⟨_, rfl, Own.nil _ _, by exact bel3 g4 g13 g01⟩)
      | some p =>
        clear b0 b1 b2 u0 u1 u2
        have hp : p.l.length ≤ 576 := hpl
        have ht : t.l.length ≤ 576 := htl
        obtain ⟨t0, t1, t2⟩ := (mt3.grows (w' := w4) (by exact bel1 g4)).cells
        have tl := (mt3.grows (w' := w4) (by exact bel1 g4)).lt
        have hrt : Rd w4 A2 t.l := (Rd.grows hr2 (by exact bel2 g4 g3))
        go_wp2_with fail
        refine (HQ.out _ _ _ p t _ _ (by exact (Rd.grows hr4 (by exact bel0))) (by exact (Rd.grows hrt (by exact bel0))) (by omega) (by omega)).mono ?_; rintro e w5 ⟨v5, rfl, ho5, g5⟩
        obtain rfl : RES = mulO p t := HR.out
        clear HR
        generalize mulO p t = Q at *
        obtain ⟨A5, c5, rfl, _, _⟩ := ho5.val
        have hz4 : w.heap.size + 3 ≤ w4.heap.size := by have := HS1.out; have := Below.size g13; have := Below.size g4; omega
        (have zr := MBox.grows mr (w' := w5) (by exact bel3 g5 g4 g13); obtain ⟨zr0, zr1, zr2⟩ := zr.cells; have zrf := zr.fz; have zrl := zr.lt; go_wp2_with fail; refine bodyPost_ret (v := .tuple #[.agg #[.int .i64 (oM Q).r, .int .i64 (oM Q).c, .slice A5 (oM Q).l.length c5], .bool Q.isSome]) ?_ rfl ?_; (simp [results, Try.results18, go_sem, zr0, zr1, zr2, zrf, zrl]); exact ⟨_, rfl, by exact ownl ho5, by exact bel4 g5 g4 g13 g01⟩)

end
end Go.Proofs.Yticmopedbgoflaa
