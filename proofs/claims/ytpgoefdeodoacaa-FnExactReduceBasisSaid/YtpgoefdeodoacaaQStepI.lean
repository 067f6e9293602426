/- Contracts and lemmas, put together. -/
import Derived.Deep.RegionHeld3
import Derived.Test.YtpgoefdeodoacaaPkK
import Derived.Test.YtpgoefdeodoacaaPkL
import Derived.Test.YtpgoefdeodoacaaQBothI
import Derived.Test.YtpgoefdeodoacaaQRed
/- Contract: a step of the reduction, the program's. -/
namespace Go.Proofs.Ytpgoefdeodoacaa
set_option linter.unusedSimpArgs false
set_option linter.unusedVariables false
open Go.RowKit

theorem step_keep {W w : World} {b bk bm om br p : Nat} {u v : Value} {x y z t : Value} (h : SBox W b u v) (hk : W.cell? ⟨bk, 0, none⟩ = some x) (hbk : bk < W.heap.size) (hm : W.cell? ⟨bm, om, none⟩ = some y) (hbm : bm < W.heap.size) (h0 : W.cell? ⟨br, p, none⟩ = some z) (h1 : W.cell? ⟨br, p + 1, none⟩ = some t) (hbr : br < W.heap.size) (g : Grows W w) :
    w.cell? ⟨b, 0, none⟩ = some u ∧ w.cell? ⟨bk, 0, none⟩ = some x ∧ w.cell? ⟨bm, om, none⟩ = some y ∧ w.cell? ⟨br, p, none⟩ = some z ∧ w.cell? ⟨br, p + 1, none⟩ = some t :=
  ⟨(h.grows g).c0, (g.cell (p := ⟨bk, 0, none⟩) hbk).trans hk, (g.cell (p := ⟨bm, om, none⟩) hbm).trans hm, (g.cell (p := ⟨br, p, none⟩) hbr).trans h0, (g.cell (p := ⟨br, p + 1, none⟩) hbr).trans h1⟩
theorem WkF.putK {w : World} {B b R x : Nat} {s : LL} (h : WkF w B b R x s) (u : Value) : WkF (w.setCell ⟨x, 0, none⟩ u) B b R x s := by
  obtain ⟨A, U, V, ca, cu, cv, wk, n1, n2, n3, n4⟩ := h
  exact ⟨A, U, V, ca, cu, cv, ⟨wk.bx.of_block (Below.heap_setCell w ⟨x, 0, none⟩ u b n1.symm) (by simp), wk.oa.far (fun g h e => n2 (by rw [h]; exact congrArg some e)) u, wk.ou.far (fun g h e => n3 (by rw [h]; exact congrArg some e)) u, wk.ov.far (fun g h e => n4 (by rw [h]; exact congrArg some e)) u, wk.ab, wk.ub, wk.vb, wk.au, wk.av, wk.uv, wk.lo⟩, n1, n2, n3, n4⟩
theorem WkFO.bad {w : World} {B b R x : Nat} {o : Option LL} (h : WkFO w B b R x o) : w.cell? ⟨b, 9, none⟩ = some (.bool (!o.isSome)) ∧ b < w.heap.size := by
  cases o with
  | none =>
    obtain ⟨A, U, V, ca, cu, cv, a, u, v, wk⟩ := h.2 rfl
    exact ⟨wk.bx.c9, wk.bx.lt⟩
  | some s =>
    obtain ⟨A, U, V, ca, cu, cv, wk, _⟩ := h.1 s rfl
    exact ⟨wk.bx.c9, wk.bx.lt⟩
theorem kput {w : World} {bk : Nat} {K : Int} (h : w.cell? ⟨bk, 0, none⟩ = some (.int .i64 K)) (hf : w.frozen? ⟨bk, 0, none⟩ = false) (hl : bk < w.heap.size) (k : Int) : (w.setCell ⟨bk, 0, none⟩ (.int .i64 k)).cell? ⟨bk, 0, none⟩ = some (.int .i64 k) ∧ (w.setCell ⟨bk, 0, none⟩ (.int .i64 k)).frozen? ⟨bk, 0, none⟩ = false ∧ bk < (w.setCell ⟨bk, 0, none⟩ (.int .i64 k)).heap.size :=
  ⟨by simp [go_sem, h], by simp [go_sem, hf], by simp; exact hl⟩
/-- what a step answers -/
def StepRet (R B b bk : Nat) (o : Option RS) (w : World) (e : Ending) (w' : World) : Prop := e = .returned (.bool o.isSome) ∧ Below B w w' ∧ ∀ y, o = some y → WkF w' B b R bk y.1 ∧ w'.cell? ⟨bk, 0, none⟩ = some (.int .i64 y.2) ∧ w'.frozen? ⟨bk, 0, none⟩ = false ∧ bk < w'.heap.size
section
set_option maxHeartbeats 40000000
set_option maxRecDepth 100000
theorem step_c (R B b bk K : Nat) (s : LL) (mu : List (List Q2)) (sq : List Q2) (Am As : Option Addr) (cm cs : Nat) (w : World) (hR : R ≤ 24) (wf : WkF w B b R bk s) (ok : Ok2 R R s) (hK1 : 1 ≤ K) (hlt : K < R) (hbk : bk < w.heap.size) (hBk : B ≤ bk) (hck : w.cell? ⟨bk, 0, none⟩ = some (.int .i64 K)) (hfk : w.frozen? ⟨bk, 0, none⟩ = false)
    (hI1 : mu.length = R) (hI2 : sq.length = R) (hI3 : ∀ j, j < R → (mu.getD j []).length = j) (rdm : RdR RSQ w Am mu) (rds : RdQ w As sq) :
    Calls Try.prog 89 #[.pointer (some ⟨b, 0, none⟩), .agg #[.slice Am R cm, .slice As R cs], .pointer (some ⟨bk, 0, none⟩)] w (StepRet R B b bk (redS R (mu, sq) (s, K)) w) := by
  have hBw : B ≤ w.heap.size := by omega
  obtain ⟨w1, hw1⟩ : ∃ w1, w1 = w.alloc (.cells #[.slice Am R cm, .slice As R cs] 85) := ⟨_, rfl⟩
  have so : SBox w1 w.heap.size (.slice Am R cm) (.slice As R cs) := by rw [hw1]; exact SBox.new_ _ _ _ _ rfl
  have g01 : Grows w w1 := by rw [hw1]; exact bel0
  have hs1 := Below.size g01
  have HW1 := Lib.hid hw1
  obtain ⟨P, hP⟩ : ∃ P, K = P + 1 := ⟨K - 1, by omega⟩
  have HP := Lib.hid hP
  have k0 : IntKind.i64.wrap ((K : Int) - 1) = (P : Int) := by rw [show (K : Int) - 1 = (P : Int) by omega]; exact IntWalk.i64_in _ (by omega)
  have hck1 := (g01.cell (p := ⟨bk, 0, none⟩) hbk).trans hck
  have hfk1 := (g01.frozen (p := ⟨bk, 0, none⟩) hbk).trans hfk
  have hbk1 : bk < w1.heap.size := by omega
  obtain ⟨row, hrow⟩ : ∃ x, x = mu.getD K [] := ⟨_, rfl⟩
  have hI4 : row.length = K := by rw [hrow]; exact hI3 K hlt
  obtain ⟨bm, om, Ar, cr, rfl, hbm, hcm, rdr, _⟩ := (rdm.grows RSQ.good g01).rowQ K (by rw [hI1]; exact hlt)
  rw [← hrow] at hcm rdr
  rw [hI4] at hcm
  have HRW := Lib.hid hrow
  obtain ⟨RES, hRES⟩ : ∃ x, x = redS R (mu, sq) (s, K) := ⟨_, rfl⟩
  rw [← hRES]
  have HR := Lib.hid hRES
  have HOK := Lib.hid ok
  have wf1 := wf.grows g01
  have CIR := Lib.hid fun (q : Q2) W => iIsRatio_c q.1 q.2 W
  change RowKit.Hid (∀ (q : Q2) W, Calls Try.prog 117 #[.agg #[.int .i64 q.1, .int .i64 q.2]] W fun e w' => e = .returned (.bool (okQ q)) ∧ Grows W w') at CIR
  have CRQ := Lib.hid fun (q : Q2) W => iRoundQ_c q W
  have CIO := Lib.hid fun W h1 h2 => inOrder_c (mu, sq) R K (some ⟨bm, om, none⟩) As cm cs W hI1 hI2 hI3 hR (by omega) hlt h1 h2
  have rdm1 := rdm.grows RSQ.good g01
  have rds1 := rds.grows g01
  have HKR := Lib.hid (show (K : Int) < (R : Int) by omega)
  have HI4 := Lib.hid hI4
  clear hw1 hrow hRES ok wf hP rdm rds hfk hI1 hI2 hI3 hI4
  go_enter Try.func89, Try.ntmps89
  go_wp2_with fail
  clear hck
  rw [← HW1.out]
  go_loopw [7] (fun j wr => ∃ q : Nat, j = .int .i64 ((q : Int) - 1) ∧ q ≤ K ∧ fstJ row K = fstJ row q ∧ Grows w1 wr) (fun j _ => (intOf j + 1).toNat)
  case atStart => exact ⟨K, by rw [show (P : Int) = (K : Int) - 1 by (have := HP.out; omega)], Nat.le_refl _, rfl, by exact bel0⟩
  case round =>
    obtain ⟨q, rfl, hqK, hfq, hg⟩ := hrel
    have HFQ := Lib.hid hfq
    clear hfq
    have hsw := Below.size hg
    have ckr := (hg.cell (p := ⟨bk, 0, none⟩) hbk1).trans hck1
    have fkr := (hg.frozen (p := ⟨bk, 0, none⟩) hbk1).trans hfk1
    have sor := so.grows hg
    rcases q with _ | p
    · have e0 : ((0 : Nat) : Int) - 1 = -1 := rfl
      have HQ0 := Lib.hid (HFQ.out.trans (show fstJ row 0 = none from rfl))
      rw [e0]
      have sx := ext_is sor.c0
      have sy := ext_is sor.c1
      have kx := ext_is ckr
      have sl := sor.lt
      have hP := HP.out
      have HU := Lib.hid fun h => HR.out.trans (redS_unknown (R := R) (s := s) (mu := (mu, sq)) (k := K) (by simp only; rw [← HRW.out]; exact HQ0.out) h)
      have HGD := Lib.hid fun h => HR.out.trans (redS_good (R := R) (s := s) (mu := (mu, sq)) (k := K) (by simp only; rw [← HRW.out]; exact HQ0.out) h)
      have HSW := Lib.hid fun h h2 => HR.out.trans (redS_swap (R := R) (s := s) (mu := (mu, sq)) (k := K) (by simp only; rw [← HRW.out]; exact HQ0.out) h h2)
      have hc4 : ordS (mu, sq) K = -1 ∨ ordS (mu, sq) K = 0 ∨ ordS (mu, sq) K = 1 ∨ ordS (mu, sq) K = 2 := cmpQ_four _ _
      generalize ordS (mu, sq) K = C at *
      have hbk8 : bk < wr.heap.size := by omega
      clear hP
      have HGW : Grows w wr := by exact bel2 hg g01
      rcases hc4 with rfl | rfl | rfl | rfl
      · have hRES : RES = some (bothW R K P s, max 1 P) := (HSW.out (by omega) (by omega)).trans (by rw [show K - 1 = P by (have := HP.out; omega)])
        have HRE := Lib.hid hRES
        clear hRES
        go_wp2_with fail
        ((refine wp_region_ext (by kernel_rfl) (by kernel_rfl) ?_); (repeat (go_big_quiet_step ((go_at_call 166; with_reducible exact extC (CIO.out _ (rdm1.grows RSQ.good (Grows.trans hg (ext_grows _ _))) (rds1.grows (Grows.trans hg (ext_grows _ _)))))))); refine wpQuiet_nil ?_; rintro w9 ⟨w90, hw90⟩; have g9 := grows_of_ext hw90; clear hw90 w90)
        have ck9 := (g9.cell (p := ⟨bk, 0, none⟩) hbk8).trans ckr
        have fk9 := (g9.frozen (p := ⟨bk, 0, none⟩) hbk8).trans fkr
        have hs9 := Below.size g9
        have hb9 : bk < w9.heap.size := by omega
        have k9 := ext_is ck9
        have G9 : Grows w1 w9 := by exact bel2 g9 hg
        clear sx sy kx
        go_wp2_with fail
        ((refine wp_region_tail 9 (by kernel_rfl) (by kernel_rfl) ?_; simp only [List.take_succ_cons, List.take_zero, List.drop_succ_cons, List.drop_zero]); (repeat (go_big_quiet_step (fail))); refine wpQuiet_nil ?_; rintro wa ⟨wa0, hwa0⟩; have ga := grows_of_ext hwa0; clear hwa0 wa0)
        have cka := (ga.cell (p := ⟨bk, 0, none⟩) hb9).trans ck9
        have fka := (ga.frozen (p := ⟨bk, 0, none⟩) hb9).trans fk9
        have hba : bk < wa.heap.size := by have := Below.size ga; omega
        have GA : Grows w1 wa := by exact bel2 ga G9
        have CBS := bothSwpI_c R B b bk K P s wa hba hR HOK.out hlt (by have := HP.out; omega) (by have := HP.out; omega) (wf1.grows GA)
        have CBS' := Lib.hid CBS
        clear CBS k9
        go_wp2_with fail
        refine CBS'.out.mono ?_; rintro e wb ⟨rfl, wo, bb, hyb⟩
        obtain ⟨c9, cl⟩ := wo.bad
        have ckb : wb.cell? ⟨bk, 0, none⟩ = _ := (World.cell?_of_block hyb).trans cka
        have fkb : wb.frozen? ⟨bk, 0, none⟩ = _ := (World.frozen?_of_block hyb).trans fka
        have hsb := Below.size bb
        have hbb : bk < wb.heap.size := by omega
        have GB : Below B w wb := Below.trans (Below.mono (show Grows w wa by exact bel2 GA g01) hBw) bb
        have wkb := wo.1 _ rfl
        have hnb : b ≠ bk := by
          obtain ⟨A, U, V, ca, cu, cv, _, h, _⟩ := wkb
          exact h.symm
        clear hyb wo
        go_wp2_with fail
        all_goals
          go_ret
          rw [HRE.out]
          refine ⟨rfl, GB.setCell hBk _, fun y hy => ?_⟩
          cases hy
          first
            | (have e : max 1 P = P := by omega
               rw [e]
               exact ⟨wkb.putK _, kput ckb fkb hbb _⟩)
            | (have e : max 1 P = 1 := by omega
               rw [e]
               exact ⟨wkb.putK _, kput ckb fkb hbb _⟩)
      · have hRES : RES = some (s, K + 1) := HGD.out (by omega)
        have HRE := Lib.hid hRES
        clear hRES
        go_wp2_with fail
        ((refine wp_region_ext (by kernel_rfl) (by kernel_rfl) ?_); (repeat (go_big_quiet_step ((go_at_call 166; with_reducible exact extC (CIO.out _ (rdm1.grows RSQ.good (Grows.trans hg (ext_grows _ _))) (rds1.grows (Grows.trans hg (ext_grows _ _)))))))); refine wpQuiet_nil ?_; rintro w9 ⟨w90, hw90⟩; have g9 := grows_of_ext hw90; clear hw90 w90)
        have ck9 := (g9.cell (p := ⟨bk, 0, none⟩) hbk8).trans ckr
        have fk9 := (g9.frozen (p := ⟨bk, 0, none⟩) hbk8).trans fkr
        have hs9 := Below.size g9
        have hb9 : bk < w9.heap.size := by omega
        have G9 : Grows w1 w9 := by exact bel2 g9 hg
        clear sx sy kx
        go_wp2_with fail
        go_ret
        rw [HRE.out]
        refine ⟨rfl, ?_, fun y hy => ?_⟩
        · exact (Below.mono (show Grows w w9 by exact bel2 G9 g01) hBw).setCell hBk _
        · cases hy
          have hk1 : (K : Int) + 1 = ((K + 1 : Nat) : Int) := by omega
          rw [hk1]
          exact ⟨(wf1.grows G9).putK _, kput ck9 fk9 hb9 _⟩
      · have hRES : RES = some (s, K + 1) := HGD.out (by omega)
        have HRE := Lib.hid hRES
        clear hRES
        go_wp2_with fail
        ((refine wp_region_ext (by kernel_rfl) (by kernel_rfl) ?_); (repeat (go_big_quiet_step ((go_at_call 166; with_reducible exact extC (CIO.out _ (rdm1.grows RSQ.good (Grows.trans hg (ext_grows _ _))) (rds1.grows (Grows.trans hg (ext_grows _ _)))))))); refine wpQuiet_nil ?_; rintro w9 ⟨w90, hw90⟩; have g9 := grows_of_ext hw90; clear hw90 w90)
        have ck9 := (g9.cell (p := ⟨bk, 0, none⟩) hbk8).trans ckr
        have fk9 := (g9.frozen (p := ⟨bk, 0, none⟩) hbk8).trans fkr
        have hs9 := Below.size g9
        have hb9 : bk < w9.heap.size := by omega
        have G9 : Grows w1 w9 := by exact bel2 g9 hg
        clear sx sy kx
        go_wp2_with fail
        go_ret
        rw [HRE.out]
        refine ⟨rfl, ?_, fun y hy => ?_⟩
        · exact (Below.mono (show Grows w w9 by exact bel2 G9 g01) hBw).setCell hBk _
        · cases hy
          have hk1 : (K : Int) + 1 = ((K + 1 : Nat) : Int) := by omega
          rw [hk1]
          exact ⟨(wf1.grows G9).putK _, kput ck9 fk9 hb9 _⟩
      · obtain rfl : RES = none := HU.out rfl
        go_wp2_with fail
        ((refine wp_region_ext (by kernel_rfl) (by kernel_rfl) ?_); (repeat (go_big_quiet_step ((go_at_call 166; with_reducible exact extC (CIO.out _ (rdm1.grows RSQ.good (Grows.trans hg (ext_grows _ _))) (rds1.grows (Grows.trans hg (ext_grows _ _)))))))); refine wpQuiet_nil ?_; rintro w9 ⟨w90, hw90⟩; have g9 := grows_of_ext hw90; clear hw90 w90)
        clear sx sy kx
        go_wp2_with fail
        go_ret
        exact ⟨rfl, Below.mono (show Grows w w9 by exact bel3 g9 hg g01) hBw, fun y hy => by cases hy⟩
    · have e0 : ((p + 1 : Nat) : Int) - 1 = (p : Int) := by omega
      rw [e0]
      have hpr : p < row.length := by rw [HI4.out]; omega
      have hpi : (p : Int) < (K : Int) := by omega
      have hp0 : (0 : Int) ≤ (p : Int) := by omega
      have hKR := HKR.out
      obtain ⟨br, orr, rfl, hbr, y0, y1⟩ := (rdr.grows hg) p hpr
      have hcm8 := (hg.cell (p := ⟨bm, om + K, none⟩) hbm).trans hcm
      have HB1 := Lib.hid fun h => fstJ_bad (row := row) (j := p) h
      have HB2 := Lib.hid fun h h2 => fstJ_next (row := row) (j := p) h h2
      have HB3 := Lib.hid fun h h2 => fstJ_here (row := row) (j := p) h h2
      have C1 := CIR.out (nthQ row p)
      have C2 := Lib.hid fun W => CRQ.out (nthQ row p) W
      have k1 : IntKind.i64.wrap ((p : Int) - 1) = (p : Int) - 1 := IntWalk.i64_in _ (by omega)
      have HRN := Lib.hid fun h => round_num (q := nthQ row p) h
      have hR1 := Lib.hid fun (h : fstJ row K = some p) h2 => redS_bad (R := R) (s := s) (mu := (mu, sq)) (k := K) (j := p) (by simp only; rw [← HRW.out]; exact h) h2
      have hR2 := Lib.hid fun (h : fstJ row K = some p) h2 => redS_add (R := R) (s := s) (mu := (mu, sq)) (k := K) (j := p) (by simp only; rw [← HRW.out]; exact h) h2
      simp only at hR1 hR2
      rw [← HRW.out] at hR1 hR2
      generalize nthQ row p = qq at *
      have hbm8 : bm < wr.heap.size := by omega
      have hbk8 : bk < wr.heap.size := by omega
      go_wp2_with fail
      go_cut [8] (fun pp wx => ∃ g : Nat, pp = .pointer (some ⟨g, 0, none⟩) ∧ QBox wx g qq ∧ Grows wr wx)
      case first =>
        go_region_held3 (fun W => W.cell? ⟨w.heap.size, 0, none⟩ = some (.slice (some ⟨bm, om, none⟩) R cm) ∧ W.cell? ⟨bk, 0, none⟩ = some (.int .i64 K) ∧ W.cell? ⟨bm, om + K, none⟩ = some (.slice (some ⟨br, orr, none⟩) K cr) ∧ W.cell? ⟨br, orr + p * 2, none⟩ = some (.int .i64 qq.1) ∧ W.cell? ⟨br, orr + p * 2 + 1, none⟩ = some (.int .i64 qq.2)) (exact step_keep sor ckr hbk8 hcm8 hbm8 y0 y1 hbr (by exact bel0)) (fail)
        all_goals
          go_wp2_with fail
          go_meet
          exact ⟨_, rfl, (by first | exact (QBox.put (QBox.new_ _ (0, 0) _ rfl) qq).grows (by exact bel0) | exact (QBox.new_ _ qq _ rfl).grows (by exact bel0)), (by exact bel0)⟩
      case rest =>
        obtain ⟨g8, rfl, qb, gc⟩ := hcut
        obtain ⟨w8, rfl⟩ : ∃ x : World, x = wc := ⟨_, rfl⟩
        obtain ⟨q0, q1⟩ := qb.cells
        have ql := qb.lt
        have G8 : Grows w1 w8 := by exact bel2 gc hg
        have hs8 := Below.size gc
        cases hok : okQ qq
        · have HT := Lib.hid (HFQ.out.trans (HB1.out hok))
          obtain rfl : RES = none := HR.out.trans (hR1 HT.out hok)
          rw [hok] at C1
          have C1' := Lib.hid C1
          clear C1 hok hR1 hR2
          go_wp2_with fail
          refine (C1'.out _).mono ?_; rintro e w9 ⟨rfl, g9⟩
          go_wp2_with fail
          go_ret
          exact ⟨rfl, Below.mono (show Grows w w9 by exact bel3 g9 G8 g01) hBw, fun y hy => by cases hy⟩
        · rw [hok] at C1
          have C1' := Lib.hid C1
          by_cases hz : roundQ qq = 0
          · have HT := Lib.hid (HFQ.out.trans (HB2.out hok hz))
            have C2' := C2.out
            rw [hz] at C2'
            have C22 := Lib.hid C2'
            clear C1 C2' hok hR1 hR2 hz
            go_wp2_with fail
            refine (C1'.out _).mono ?_; rintro e w9 ⟨rfl, g9⟩
            obtain ⟨z0, z1⟩ := (qb.grows g9).cells
            have zl := (qb.grows g9).lt
            clear q0 q1 ql
            go_wp2_with fail
            refine (C22.out _).mono ?_; rintro e wa ⟨rfl, ga⟩
            go_wp2_with fail
            go_round
            case rel => exact ⟨p, by go_num, by omega, HT.out, by exact bel3 ga g9 G8⟩
            case measure => first | (simp [intOf]; done) | (simp [intOf]; omega)
          · have HT := Lib.hid (HFQ.out.trans (HB3.out hok hz))
            have hRES := HR.out.trans (hR2 HT.out hok)
            have hrn := HRN.out hok
            clear C1 hok hR1 hR2 HRN
            generalize roundQ qq = rq at *
            have hnb := (isNum_iff rq).1 hrn
            have hnn : isNum (-rq) = true := (isNum_iff _).2 (by omega)
            have kn : IntKind.i64.wrap (-rq) = -rq := IntWalk.i64_in _ (by omega)
            have hbi : bk < w8.heap.size := by omega
            have CBA := Lib.hid fun W hb wf => bothAddI_c R B b bk K p (-rq) s W hb hR HOK.out hlt (by omega) (by omega) hnn wf
            generalize bothA R K p (-rq) s = o at *
            have HRE := Lib.hid hRES
            clear hRES hnn hrn
            go_wp2_with fail
            refine (C1'.out _).mono ?_; rintro e w9 ⟨rfl, g9⟩
            obtain ⟨z0, z1⟩ := (qb.grows g9).cells
            have zl := (qb.grows g9).lt
            clear q0 q1 ql
            go_wp2_with fail
            refine (C2.out _).mono ?_; rintro e wa ⟨rfl, ga⟩
            have GA : Grows w1 wa := by exact bel3 ga g9 G8
            have cka := (GA.cell (p := ⟨bk, 0, none⟩) hbk1).trans hck1
            have fka := (GA.frozen (p := ⟨bk, 0, none⟩) hbk1).trans hfk1
            have hba : bk < wa.heap.size := by have := Below.size GA; omega
            clear z0 z1 zl
            go_wp2_with fail
            refine (CBA.out _ hba (wf1.grows GA)).mono ?_; rintro e wb ⟨rfl, wo, bb, hyb⟩
            obtain ⟨c9, cl⟩ := wo.bad
            have ckb : wb.cell? ⟨bk, 0, none⟩ = _ := (World.cell?_of_block hyb).trans cka
            have fkb : wb.frozen? ⟨bk, 0, none⟩ = _ := (World.frozen?_of_block hyb).trans fka
            have hsb := Below.size bb
            have hbb : bk < wb.heap.size := by omega
            have GB : Below B w wb := Below.trans (Below.mono (show Grows w wa by exact bel2 GA g01) hBw) bb
            clear hyb
            cases o with
            | none =>
              obtain rfl : RES = none := HRE.out
              go_wp2_with fail
              go_ret
              exact ⟨rfl, GB, fun y hy => by cases hy⟩
            | some s' =>
              obtain rfl : RES = some (s', K) := HRE.out
              go_wp2_with fail
              go_ret
              exact ⟨rfl, GB, fun y hy => by cases hy; exact ⟨wo.1 s' rfl, ckb, fkb, hbb⟩⟩
end
end Go.Proofs.Ytpgoefdeodoacaa
