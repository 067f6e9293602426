/- Contracts and lemmas, put together. -/
import Derived.Test.YtfilbjbogggaoaaGreatPkNS
import Derived.Test.YtfilbjbogggaoaaGreatPkTB
import Derived.Test.YtfilbjbogggaoaaGreatPkTC
/- Contracts: the search of short vectors cell by cell, the reference's. -/
namespace Go.Proofs.YtfilbjbogggaoaaGreat
set_option linter.unusedSimpArgs false
set_option linter.unusedVariables false
open Go.RowKit
set_option linter.unusedVariables false

theorem PF.any {F : Option VS → Prop} {L : VS} (h : PF F L true) (L' : VS) : PF F L' true := by
  obtain ⟨r, h1, h2, _⟩ := h
  cases r with
  | none => exact PF.none_ h1 L'
  | some y => cases h2
theorem P2.fin {mu : List (List Q2)} {sq : List Q2} {i : Nat} {x : List Int} {left c : Q2} {d : Nat} {L : VS} (h : P2 mu sq i x left c d L true) (hc : c = cenQ mu x i (x.length - (i + 1))) : PF (TreeR mu sq (i + 1) x left) L true := by
  have h2 := h
  rcases h with ⟨_, _, h⟩ | ⟨rfl, h⟩ | ⟨rfl, h⟩
  · cases h
  · obtain ⟨sg, n, F, _, _, h3, hn⟩ := h2.dir (by omega) hc
    exact (hn L true h3.bad_).done
  · exact h
/-- what a search gives -/
def STRet (mu : List (List Q2)) (sq : List Q2) (k : Nat) (x : List Int) (left : Q2) (w : World) (e : Ending) (w' : World) : Prop :=
  ∃ (L : VS) (A : Option Addr) (c : Nat) (vs : List Value) (bad : Bool), e = .returned (.tuple #[.slice A L.length c, .bool (!bad)]) ∧ PF (TreeR mu sq k x left) L bad ∧ RowsO w' w.heap.size (.slice A L.length c) vs L ∧ L.length ≤ 4000 * k + 1 ∧ Grows w w'
section
set_option maxHeartbeats 8000000
set_option maxRecDepth 100000
theorem sTreeZ_c (mu : List (List Q2)) (sq : List Q2) (R : Nat) (u v : Value) (Ax : Option Addr) (cx : Nat) (x : List Int) (left : Q2) (w : World) (hx : x.length = R) (hR : R ≤ 24) (ox : Rd w Ax x) :
    Calls Tryz.prog 102 #[u, v, .int .i64 (-1), .slice Ax R cx, .agg #[.int .i64 left.1, .int .i64 left.2]] w (STRet mu sq 0 x left w) := by
  have HX := Lib.hid hx
  have rdx := ox
  clear hx
  go_enter Tryz.func102, Tryz.ntmps102
  go_wp2_with (at_builtin; refine wpList_app rfl (.tmp 25) (.tmp 26) rfl _ w.heap.size _ [] (by rfl) (Own.new_ _ (by simp) (by simp)) Ax x R cx (by rfl) HX.out (by exact (Rd.grows rdx (by exact bel0))) (by simp; have := HX.out; omega) (by simp; omega) ?_; intro v2 w2 ho2 hg2 hv2; rw [List.nil_append] at ho2; obtain ⟨A2, c2, rfl, _, _⟩ := ho2.val; have ho2 : Own w2 w.heap.size (.slice A2 x.length c2) x := ho2)
  have g2 : Grows w w2 := Below.trans (show Grows w (w.alloc (.cells #[.int .i64 left.1, .int .i64 left.2] 79)) by exact bel0) (Below.mono (Below.trans (show Below (w.heap.size + 1) _ ((w.alloc (.cells #[.int .i64 left.1, .int .i64 left.2] 79)).alloc (.cells #[] 3)) from (Below.refl _ _).alloc (by simp) _) ((Below.refl _ _).grown hg2 (by simp) (fun k hk => by have := World.ownsRow.lt (Own.new_ (B := w.heap.size + 1) (w.alloc (.cells #[.int .i64 left.1, .int .i64 left.2] 79)) (by simp) (by simp)) k hk; omega))) (by omega))
  go_ret2
  exact ⟨[x], _, _, _, false, rfl, tree_zero, RowsO.lit w2 ho2 (Below.size g2), by simp, by exact bel1 g2⟩
/-- what a later level gives -/
def SIH (mu : List (List Q2)) (sq : List Q2) (wK : World) (R : Nat) (u v : Value) (i : Nat) : Prop :=
  ∀ (x : List Int) (left : Q2) (Ax : Option Addr) (cx : Nat) (w : World), x.length = R → Rd w Ax x → Grows wK w →
    Calls Tryz.prog 102 #[u, v, .int .i64 ((i : Int) - 1), .slice Ax R cx, .agg #[.int .i64 left.1, .int .i64 left.2]] w (STRet mu sq i x left w)
/-- what lies in memory within a level -/
structure SI (w : World) (left c : Q2) (L : VS) (A : Option Addr) (co : Nat) (vs : List Value) (wr : World) : Prop where
  rows : RowsO wr w.heap.size (.slice A L.length co) vs L
  gr : Grows w wr
  lq : QBox wr w.heap.size left
  cq : QBox wr (w.heap.size + 1) c
  far : ∀ g, (Value.slice A L.length co).ownBlock = some g → g ≠ w.heap.size ∧ g ≠ w.heap.size + 1
theorem SI.grows {w wr w' : World} {left c : Q2} {L : VS} {A : Option Addr} {co : Nat} {vs : List Value} (h : SI w left c L A co vs wr) (g : Grows wr w') : SI w left c L A co vs w' :=
  ⟨h.rows.grows g, by exact bel2 g h.gr, h.lq.grows g, h.cq.grows g, h.far⟩
theorem SI.next {w W W3 : World} {left c : Q2} {L M : VS} {A A3 : Option Addr} {co co3 : Nat} {vs us : List Value} (h : SI w left c L A co vs W)
    (ho : RowsO W3 w.heap.size (.slice A3 (L ++ M).length co3) (vs ++ us) (L ++ M)) (hg : W.grownBy W3 (Value.slice A L.length co).ownBlock) (hv : (Value.slice A3 (L ++ M).length co3).ownBlock = (Value.slice A L.length co).ownBlock ∨ ∃ g, (Value.slice A3 (L ++ M).length co3).ownBlock = some g ∧ W.heap.size ≤ g) : SI w left c (L ++ M) A3 co3 (vs ++ us) W3 := by
  have hlo : ∀ g, (Value.slice A L.length co).ownBlock = some g → w.heap.size ≤ g := fun g e => (h.rows.own.lt e).1
  have mvg : Mv (fun g => (Value.slice A L.length co).ownBlock = some g) W W3 := Mv.by1 hg fun g e => e
  have l1 := h.lq.lt
  have l2 := h.cq.lt
  have m : Mv (fun _ => False) w W3 := (Mv.of_grows h.gr).app hg hlo
  exact ⟨ho, m.below (Nat.le_refl _) (fun g h => h.elim), h.lq.mv mvg (fun e => (h.far _ e).1 rfl), h.cq.mv mvg (fun e => (h.far _ e).2 rfl), fun g e => by
    rcases hv with hv | ⟨g', hv, hle⟩
    · rw [hv] at e; exact h.far g e
    · rw [hv] at e; cases e; omega⟩
theorem cenQ_nextS (mu : List (List Q2)) (x : List Int) {i K : Nat} (h : i + 1 ≤ K) : cenQ mu x i (K + 1 - (i + 1)) = addQ (cenQ mu x i (K - (i + 1))) (mulQ (wholeQ (nth x K)) (nthQ (mu.getD K []) i)) := by
  rw [cenQ_next mu x h, mulQ_comm]
theorem tree_keepS {W : World} {bl gy bs fs : Nat} {left yq z : Q2} (h1 : QBox W bl left) (h2 : QBox W gy yq) (h4 : W.cell? ⟨bs, fs, none⟩ = some (.int .i64 z.1)) (h5 : W.cell? ⟨bs, fs + 1, none⟩ = some (.int .i64 z.2)) :
    W.cell? ⟨bl, 0, none⟩ = some (.int .i64 left.1) ∧ W.cell? ⟨bl, 1, none⟩ = some (.int .i64 left.2) ∧ W.cell? ⟨gy, 0, none⟩ = some (.int .i64 yq.1) ∧ W.cell? ⟨gy, 1, none⟩ = some (.int .i64 yq.2) ∧ W.cell? ⟨bs, fs, none⟩ = some (.int .i64 z.1) ∧ W.cell? ⟨bs, fs + 1, none⟩ = some (.int .i64 z.2) := ⟨h1.c0, h1.c1, h2.c0, h2.c1, h4, h5⟩
theorem sTreeS_c (mu : List (List Q2)) (sq : List Q2) (wK : World) (R i : Nat) (Am As : Option Addr) (cm cs : Nat) (hI : AccI R (mu, sq)) (hR : R ≤ 24) (hi : i < R) (hm : RdR RSQ wK Am mu) (hs : RdQ wK As sq)
    (IH : SIH mu sq wK R (.slice Am R cm) (.slice As R cs) i)
    (x : List Int) (left : Q2) (Ax : Option Addr) (cx : Nat) (w : World) (hx : x.length = R) (ox : Rd w Ax x) (hg : Grows wK w) :
    Calls Tryz.prog 102 #[.slice Am R cm, .slice As R cs, .int .i64 i, .slice Ax R cx, .agg #[.int .i64 left.1, .int .i64 left.2]] w (STRet mu sq (i + 1) x left w) := by
  obtain ⟨w2, hw2⟩ : ∃ w2, w2 = (w.alloc (.cells #[.int .i64 left.1, .int .i64 left.2] 79)) := ⟨_, rfl⟩
  have qbl2 : QBox w2 w.heap.size left := by rw [hw2]; exact QBox.new_ _ _ _ rfl
  have g02 : Grows w w2 := by rw [hw2]; exact bel0
  have hs2 : w2.heap.size = w.heap.size + 1 := by rw [hw2]; simp
  have HW2 := Lib.hid hw2
  have HX := Lib.hid hx
  have HI := Lib.hid hI
  have HIH := Lib.hid IH
  have hi24 : (i : Int) < 24 := by omega
  have gK2 : Grows wK w2 := by exact bel2 g02 hg
  have ox2 := ox.grows g02
  have oxw := ox
  clear hw2 hx hI IH ox
  go_enter Tryz.func102, Tryz.ntmps102
  go_upto_region 3 with fail
  rw [← HW2.out]
  go_wp2_with fail
  go_loopw [13] (fun k wr => ∃ (K : Nat), k = .int .i64 K ∧ i + 1 ≤ K ∧ K ≤ R ∧ QBox wr (w.heap.size + 1) (cenQ mu x i (K - (i + 1))) ∧ Grows w2 wr) (fun k _ => R - (intOf k).toNat)
  case atStart => exact ⟨i + 1, by first | rfl | (simp; done) | go_num, Nat.le_refl _, by omega, by rw [Nat.sub_self]; exact QBox.new_ w2 (0, 1) 79 hs2, by exact bel0⟩
  case round =>
    obtain ⟨K, rfl, hK1, hK, qb, hgr⟩ := hrel
    have gwr : Grows w wr := by exact bel2 hgr g02
    have gKr : Grows wK wr := by exact bel2 hgr gK2
    have hsr := Below.size hgr
    have oxr := ox2.grows hgr
    by_cases hlt : K < R
    · have hlt' : (K : Int) < (R : Int) := by omega
      have hiK : (i : Int) < (K : Int) := by omega
      have HNX := Lib.hid (cenQ_nextS mu x hK1)
      have hml : K < mu.length := by have := HI.out.l1; simp only at this; omega
      have hrl : (mu.getD K []).length = K := HI.out.row K hlt
      obtain ⟨bm, fm, Aj, cj, rfl, hbm, m0, hrj, hcj⟩ := (hm.grows RSQ.good gKr).rowQ K hml
      rw [hrl] at m0 hcj
      obtain ⟨bj, fj, rfl, hbj, j0, j1⟩ := hrj.at_ i (by rw [hrl]; omega)
      obtain ⟨bx, fx, rfl, hbx, x0⟩ := oxr K (by rw [HX.out]; exact hlt)
      generalize nthQ (mu.getD K []) i = z at *
      generalize nth x K = y at *
      generalize cenQ mu x i (K - (i + 1)) = cc at *
      generalize mu.getD K [] = row at *
      have CM0 : ∀ W, Calls Tryz.prog 144 #[.agg #[.int .i64 y, .int .i64 1], .agg #[.int .i64 z.1, .int .i64 z.2]] W (QRet (mulQ (wholeQ y) z) W) := fun W => sMultiplyRatios_c (wholeQ y) z W
      have CA0 := fun W => sAddRatios_c cc (mulQ (wholeQ y) z) W
      generalize addQ cc (mulQ (wholeQ y) z) = nx at *
      generalize mulQ (wholeQ y) z = p at *
      have CM := Lib.hid CM0
      have CA := Lib.hid CA0
      clear CM0 CA0
      have q0e := ext_is qb.c0
      have q1e := ext_is qb.c1
      have m0e := ext_is m0
      have j0e := ext_is j0
      have j1e := ext_is j1
      have x0e := ext_is x0
      go_wp2_with fail
      ((refine wp_region_tail 15 (by kernel_rfl) (by kernel_rfl) ?_; simp only [List.take_succ_cons, List.take_zero, List.drop_succ_cons, List.drop_zero]); (repeat (go_big_quiet_step ((first | (go_at_call 144; with_reducible exact extC (CM.out _)) | (go_at_call 142; with_reducible exact extC (CA.out _)))))); refine wpQuiet_nil ?_; rintro wc ⟨wc0, hwc0⟩; have gc := grows_of_ext hwc0; clear hwc0 wc0)
      have qbc := qb.grows gc
      obtain ⟨q0, q1⟩ := qbc.cells
      have qf := qbc.fz
      have qlc := qbc.lt
      clear q0e q1e m0e j0e j1e x0e
      go_wp2_with fail
      go_round
      case rel => exact ⟨K + 1, by go_num, by omega, by omega, by rw [HNX.out]; exact qbc.put _, by exact bel2 gc hgr⟩
      case measure => simp [intOf]; omega
    · have hKR : R = K := by omega
      subst hKR
      obtain ⟨c, hc⟩ : ∃ c, c = cenQ mu x i (R - (i + 1)) := ⟨_, rfl⟩
      rw [← hc] at qb
      have hc' : c = cenQ mu x i (x.length - (i + 1)) := by rw [HX.out]; exact hc
      have HC := Lib.hid hc'
      have qlr := qbl2.grows hgr
      clear hc hc' qbl2 hlt
      obtain ⟨w3, rfl⟩ : ∃ x : World, x = wr := ⟨_, rfl⟩
      obtain ⟨q0, q1⟩ := qb.cells
      have ql := qb.lt
      have CN := Lib.hid fun W => sNeg_c c W
      have CR := Lib.hid fun W => sRoundQ_c (negQ c) W
      have hrb := roundQ_bd (negQ c)
      have HN2 := Lib.hid fun d L bad (h : P2 mu sq i x left c d L bad) hd => P2.dir h hd HC.out
      have HFN := Lib.hid fun d L (h : P2 mu sq i x left c d L true) => P2.fin h HC.out
      have HP0 := Lib.hid (show P2 mu sq i x left c 0 [] false from .inl ⟨rfl, rfl, rfl⟩)
      go_wp2_with fail
      refine (CN.out _).mono ?_; rintro e w5 ⟨rfl, g5⟩
      have hs5 := Below.size g5
      (try simp at hs5)
      clear q0 q1 ql
      go_wp2_with fail
      refine (CR.out _).mono ?_; rintro e w6 ⟨rfl, g6⟩
      have hs6 := Below.size g6
      go_wp2_with fail
      obtain ⟨rs, hrs⟩ : ∃ rs, rs = roundQ (negQ c) := ⟨_, rfl⟩
      rw [← hrs] at hrb ⊢
      have HRS := Lib.hid hrs
      clear hrs CN CR
      have g36 : Grows w3 w6 := by exact bel2 g6 g5
      have h36 := Below.size g36
      have si0 : SI w left c [] (some ⟨w3.heap.size, 0, none⟩) 0 [] w6 :=
        ⟨((RowsO.new_ w3 rfl (by omega)).grows (w' := w5) (by exact bel1 g5)).grows g6, by exact bel2 g36 gwr, qlr.grows g36, qb.grows g36, fun g hg => by simp [Value.ownBlock] at hg; have := qb.lt; omega⟩
      clear qb qlr hgr gwr gKr hsr g5 g6
      have hil : i < sq.length := by have := HI.out.l2; simp only at this; omega
      have hiR : (i : Int) < (R : Int) := by omega
      go_loopw [14, 16] (fun s14 s16 wr => ∃ (d : Nat) (L : VS) (A : Option Addr) (co : Nat) (vs : List Value), s14 = .slice A L.length co ∧ s16 = .int .i64 d ∧ d ≤ 2 ∧ L.length ≤ 4000 * (i + 1) + 1 ∧ P2 mu sq i x left c d L false ∧ SI w left c L A co vs wr) (fun _ j _ => 2 - (intOf j).toNat)
      case atStart => exact ⟨0, [], _, _, _, by first | rfl | (simp; done), by first | rfl | (simp; done), by omega, by simp, HP0.out, si0⟩
      case round =>
      clear si0
      obtain ⟨d, L, A, co, vs, rfl, rfl, hd, hL, hP, si⟩ := hrel
      by_cases hd2 : d = 2
      · subst hd2
        have HDONE := Lib.hid hP.done
        go_wp2_with fail
        go_ret2
        exact ⟨L, A, co, vs, false, rfl, HDONE.out, si.rows, hL, si.gr⟩
      obtain ⟨sg, n, F, hsg, hn, h3, hnx⟩ := HN2.out d L false hP (by omega)
      rw [← HRS.out] at hn
      rcases (show d = 0 ∨ d = 1 by omega) with rfl | rfl
      --LOOPS
      · subst hsg
        have hn0 : n = rs := by rw [hn]; simp
        clear hn
        subst hn0
        go_wp2_with fail
        obtain ⟨w7, rfl⟩ : ∃ x : World, x = wr := ⟨_, rfl⟩
        go_loopw [14, 17] (fun s14 s17 wr => ∃ (n : Int) (L : VS) (A : Option Addr) (co : Nat) (vs : List Value), s14 = .slice A L.length co ∧ s17 = .int .i64 n ∧ -400000001 ≤ n ∧ n ≤ 400000001 ∧ L.length ≤ 4000 * (i + 1) + 1 ∧ P3 (fun n q o => TreeR mu sq i (x.set i n) q o) (restQ left c (nthQ sq i)) (-1) F n L false ∧ SI w left c L A co vs wr) (fun _ j _ => (400000003 - (-1) * intOf j).toNat)
        case atStart => exact ⟨_, L, A, co, vs, rfl, by first | rfl | go_num, by omega, by omega, hL, h3, si⟩
        case round =>
          clear h3 si
          obtain ⟨n, L, A, co, vs, rfl, rfl, hn1, hn2, hL, h3, si⟩ := hrel
          obtain ⟨w8, rfl⟩ : ∃ x : World, x = wr := ⟨_, rfl⟩
          have CA0 : ∀ W, Calls Tryz.prog 142 #[.agg #[.int .i64 n, .int .i64 1], .agg #[.int .i64 c.1, .int .i64 c.2]] W (QRet (addQ (wholeQ n) c) W) := fun W => sAddRatios_c (wholeQ n) c W
          obtain ⟨yq, hyq⟩ : ∃ q, q = addQ (wholeQ n) c := ⟨_, rfl⟩
          rw [← hyq] at CA0
          have CA := Lib.hid CA0
          have HYQ := Lib.hid hyq
          clear CA0 hyq
          obtain ⟨q0, q1⟩ := si.cq.cells
          have ql := si.cq.lt
          go_wp2_with fail
          refine (CA.out _).mono ?_; rintro e w9 ⟨rfl, g9⟩
          clear q0 q1 ql
          obtain ⟨w10, hw10⟩ : ∃ W, W = w9.alloc (.cells #[.int .i64 yq.1, .int .i64 yq.2] 79) := ⟨_, rfl⟩
          have qy : QBox w10 w9.heap.size yq := by rw [hw10]; exact QBox.new_ _ _ _ rfl
          have g910 : Grows w9 w10 := by rw [hw10]; exact bel0
          have HW10 := Lib.hid hw10
          have g810 : Grows w8 w10 := by exact bel2 g910 g9
          have si10 := si.grows g810
          have gK10 : Grows wK w10 := by exact bel3 g810 si.gr hg
          obtain ⟨bs, fs, rfl, hbs, z0, z1⟩ := (hs.grows gK10).at_ i hil
          obtain ⟨z, hz⟩ : ∃ z, z = nthQ sq i := ⟨_, rfl⟩
          rw [← hz] at z0 z1
          have HZS := Lib.hid hz
          have CM1 := fun W => sMultiplyRatios_c yq yq W
          have CM2 := fun W => sMultiplyRatios_c (mulQ yq yq) z W
          have CG0 := fun W => sNeg_c (mulQ (mulQ yq yq) z) W
          have CS0 := fun W => sAddRatios_c left (negQ (mulQ (mulQ yq yq) z)) W
          obtain ⟨rq, hrq⟩ : ∃ q, q = addQ left (negQ (mulQ (mulQ yq yq) z)) := ⟨_, rfl⟩
          have HRQ := Lib.hid (show rq = restQ left c (nthQ sq i) n by rw [hrq, ← HZS.out, HYQ.out]; rfl)
          rw [← hrq] at CS0
          generalize negQ (mulQ (mulQ yq yq) z) = y4 at *
          generalize mulQ (mulQ yq yq) z = y3 at *
          generalize mulQ yq yq = y2 at *
          have CM1' := Lib.hid CM1
          have CM2' := Lib.hid CM2
          have CG' := Lib.hid CG0
          have CS' := Lib.hid CS0
          have HK := Lib.hid fun W (g : Grows w10 W) => tree_keepS (si10.lq.grows g) (qy.grows g) ((g.cell (p := ⟨bs, fs + i * 2, none⟩) hbs).trans z0) ((g.cell (p := ⟨bs, fs + i * 2 + 1, none⟩) hbs).trans z1)
          clear CM1 CM2 CG0 CS0 hrq hz CA z0 z1 hw10 g9 g910
          go_upto_region 15 with fail
          rw [← HW10.out]
          go_cut [19] from 64 to 118 (fun s19 wx => ∃ gr : Nat, s19 = .pointer (some ⟨gr, 0, none⟩) ∧ QBox wx gr rq ∧ Grows w10 wx)
          case first =>
            go_region_held3 (fun W => W.cell? ⟨w.heap.size, 0, none⟩ = some (.int .i64 left.1) ∧ W.cell? ⟨w.heap.size, 1, none⟩ = some (.int .i64 left.2) ∧ W.cell? ⟨w9.heap.size, 0, none⟩ = some (.int .i64 yq.1) ∧ W.cell? ⟨w9.heap.size, 1, none⟩ = some (.int .i64 yq.2) ∧ W.cell? ⟨bs, fs + i * 2, none⟩ = some (.int .i64 z.1) ∧ W.cell? ⟨bs, fs + i * 2 + 1, none⟩ = some (.int .i64 z.2)) (exact HK.out _ (by first | exact bel4 g14 g13 g12 g11 | exact bel3 g13 g12 g11 | exact bel2 g12 g11 | exact bel1 g11 | exact bel0))
              (first
               | (go_at_call 144; (with_reducible refine (CM1'.out _).mono ?_); rintro e w11 ⟨rfl, g11⟩; have z11 := Below.size g11; (try simp at z11); (try (have q := (QBox.new_ w10 (0, 0) 79 rfl).grows (w' := w11) (Grows.trans (show Grows _ _ from (Below.refl _ _).drew) g11))))
               | (go_at_call 144; (with_reducible refine (CM2'.out _).mono ?_); rintro e w12 ⟨rfl, g12⟩; have z12 := Below.size g12; (try simp at z12); (first | (replace q := q.grows g12) | (have q := QBox.grows (QBox.new_ w11 (0, 0) 79 rfl) g12) | skip))
               | (go_at_call 143; (with_reducible refine (CG'.out _).mono ?_); rintro e w13 ⟨rfl, g13⟩; have z13 := Below.size g13; (try simp at z13); (first | (replace q := q.grows g13) | (have q := QBox.grows (QBox.new_ w12 (0, 0) 79 rfl) g13) | skip))
               | (go_at_call 142; (with_reducible refine (CS'.out _).mono ?_); rintro e w14 ⟨rfl, g14⟩; have z14 := Below.size g14; (try simp at z14); (first | (replace q := q.grows g14) | (have q := QBox.grows (QBox.new_ w13 (0, 0) 79 rfl) g14) | skip); (try (obtain ⟨q0, q1⟩ := q.cells; have qf := q.fz; have ql := q.lt))))
            all_goals
              go_wp2_with fail
              go_meet
              exact ⟨_, rfl, by first | exact q.put _ | exact QBox.new_ _ _ _ rfl | exact (QBox.new_ _ (0, 0) _ rfl).put _, by exact bel4 g14 g13 g12 g11⟩
          case rest =>
            obtain ⟨gr, rfl, qr, hg11⟩ := hcut
            obtain ⟨w11, rfl⟩ : ∃ x : World, x = wc := ⟨_, rfl⟩
            have si11 := si10.grows hg11
            have CI0 := fun W => sIsRatio_c rq.1 rq.2 W
            change ∀ W, Calls Tryz.prog 76 #[.agg #[.int .i64 rq.1, .int .i64 rq.2]] W (fun e w' => e = .returned (.bool (okQ rq)) ∧ Grows W w') at CI0
            clear si si10 HK CM1' CM2' CG' CS' HYQ HZS qy hg11 gK10 hbs g810
            obtain ⟨r0, r1⟩ := qr.cells
            have rl := qr.lt
            cases hok : okQ rq
            · rw [hok] at CI0
              have CI := Lib.hid CI0
              have HF := Lib.hid (HFN.out _ L (hnx L _ (h3.full (.inl (by rw [← HRQ.out]; exact hok)))))
              clear CI0 hok
              go_wp2_with fail
              refine (CI.out _).mono ?_; rintro e w12 ⟨rfl, g12⟩
              have si12 := si11.grows g12
              clear r0 r1 rl
              go_wp2_with fail
              go_ret2
              exact ⟨L, A, co, vs, true, rfl, HF.out, si12.rows, hL, si12.gr⟩
            · rw [hok] at CI0
              have CI := Lib.hid CI0
              have HOK := Lib.hid (show okQ (restQ left c (nthQ sq i) n) = true by rw [← HRQ.out]; exact hok)
              clear CI0 hok
              by_cases hlen : 4000 < L.length
              · have hlen' : (4000 : Int) < (L.length : Int) := by omega
                have HF := Lib.hid (HFN.out _ L (hnx L _ (h3.full (.inr hlen))))
                go_wp2_with fail
                refine (CI.out _).mono ?_; rintro e w12 ⟨rfl, g12⟩
                have si12 := si11.grows g12
                clear r0 r1 rl
                go_wp2_with fail
                go_ret2
                exact ⟨L, A, co, vs, true, rfl, HF.out, si12.rows, hL, si12.gr⟩
              · have hlen' : ¬ (4000 : Int) < (L.length : Int) := by omega
                go_wp2_with fail
                refine (CI.out _).mono ?_; rintro e w12 ⟨rfl, g12⟩
                have si12 := si11.grows g12
                have qr12 := qr.grows g12
                clear r0 r1 rl
                obtain ⟨r0, r1⟩ := qr12.cells
                have rl := qr12.lt
                by_cases hneg : rq.1 < 0
                · have HF := Lib.hid (hnx L _ (h3.stop HOK.out (by omega) (by rw [← HRQ.out]; exact hneg)))
                  go_wp2_with fail
                  go_round
                  case rel => exact ⟨0 + 1, L, A, co, vs, rfl, by first | rfl | go_num, by omega, hL, HF.out, si12⟩
                  case measure => simp [intOf]
                · have rdx := oxw.grows si12.gr
                  obtain ⟨_, _, _, hnlo, hnhi, _⟩ := restQ_parts HOK.out
                  have hwn : IntKind.i64.wrap (n - 1) = n - 1 := IntWalk.i64_in _ (by omega)
                  have hwn2 : IntKind.i64.wrap (n - 1 + 2 * 0) = n - 1 + 2 * 0 := IntWalk.i64_in _ (by omega)
                  have hwi : IntKind.i64.wrap ((i : Int) - 1) = (i : Int) - 1 := IntWalk.i64_in _ (by omega)
                  have HST := Lib.hid fun M bad2 h => h3.step (M := M) (bad := bad2) HOK.out (by omega) (by rw [← HRQ.out]; omega) h
                  have zw12 := Below.size si12.gr
                  have zq12 := qr12.lt
                  clear si11 qr h3
                  go_upto_region 21 with (at_builtin; refine wpList_app rfl (.tmp 91) (.tmp 92) rfl _ w12.heap.size _ [] (by rfl) (Own.new_ _ (by simp) (by simp)) Ax x R cx (by rfl) HX.out (by exact (Rd.grows rdx (by exact bel0))) (by simp; have := HX.out; omega) (by simp) ?_; intro v13 w13 ho13 hg13 hv13; rw [List.nil_append] at ho13; have g13 : Grows w12 w13 := Below.trans (show Grows w12 (w12.alloc (.cells #[] 3)) by exact bel0) (below_app (Own.new_ w12 rfl (Nat.le_refl _)) (by simp) hg13); obtain ⟨gx, c13, hv, hgx1, hgx2⟩ := Own.form ho13 (by rw [HX.out]; omega); rw [HX.out] at hv; subst hv; have hx0 := ho13.cell i (by rw [HX.out]; exact hi); have hxf := ho13.free i; clear hg13 hv13)
                  clear r0 r1 rl hx0 hxf rdx
                  obtain ⟨w14, hw14⟩ : ∃ W, W = w13.setCell ⟨gx, i, none⟩ (.int .i64 n) := ⟨_, rfl⟩
                  have g1214 : Grows w12 w14 := by rw [hw14]; exact Below.setCell g13 (by simp only; omega) _
                  have ho14 : Own w14 w12.heap.size (.slice (some ⟨gx, 0, none⟩) R c13) (x.set i n) := by
                    rw [hw14]
                    have h5 : Own w13 w12.heap.size (.slice (some ⟨gx, 0, none⟩) R c13) x := ho13
                    exact Own.put1 h5 HX.out i n
                  have rd14 := ho14.rd_
                  rw [← hw14]
                  have si14 := si12.grows g1214
                  have qr14 := qr12.grows g1214
                  have CP := Lib.hid (HIH.out (x.set i n) rq (some ⟨gx, 0, none⟩) c13 w14 (by simp; exact HX.out) rd14 (by exact bel3 g1214 si12.gr hg))
                  clear ho13 ho14 rd14 hw14 g13 hgx1 hgx2 si12 qr12 g1214
                  obtain ⟨r0, r1⟩ := qr14.cells
                  have rl := qr14.lt
                  go_wp2_with fail
                  refine CP.out.mono ?_; rintro e w15 ⟨M, A2, c2, us, bad2, rfl, hPF, rows2, hM, g15⟩
                  have hs15 := Below.size g15
                  have si15 := si14.grows g15
                  rw [HRQ.out] at hPF
                  have HP4 := Lib.hid (HST.out M bad2 hPF)
                  clear hPF r0 r1 rl CP
                  cases bad2
                  rotate_left
                  · have HF := Lib.hid (HFN.out _ L (hnx L _ (HP4.out.bad_.any L)))
                    go_wp2_with fail
                    go_ret2
                    exact ⟨L, A, co, vs, true, rfl, HF.out, si15.rows, hL, si15.gr⟩
                  · have hro1 : ∀ g, (Value.slice A L.length co).ownBlock = some g → g < w14.heap.size := fun g e => (si14.rows.own.lt e).2
                    have hro2 : ∀ (k : Nat) (u : Value), vs[k]? = some u → ∀ g, u.ownBlock = some g → g < w14.heap.size := fun k u hk g e => (si14.rows.lt hk e).2
                    have hLM : L.length + M.length ≤ 4000 * (i + 1) + 1 := by omega
                    have zw14 := Below.size si14.gr
                    have hro := si15.rows
                    go_wp2_with (at_builtin; refine wpList_appOn rfl (.tmp 111) (.tmp 112) rfl _ w.heap.size w14.heap.size _ vs us L M A2 c2 (by rfl) (by rfl) hro rows2 (by omega) hro1 hro2 (by omega) (by omega) ?_; intro v16 w16 ho16 hg16 hv16; obtain ⟨A4, c4, rfl, _, _⟩ := ho16.val; have si16 := si15.next ho16 hg16 hv16)
                    go_round
                    case rel => exact ⟨n + (-1), L ++ M, A4, c4, vs ++ us, by first | rfl | rw [List.length_append], by first | rfl | go_num | (congr 1; omega), by omega, by omega, by rw [List.length_append]; exact hLM, HP4.out, si16⟩
                    case measure => first | (simp [intOf]; omega) | (simp [intOf]; done)
      · subst hsg
        have hn1 : IntKind.i64.wrap (rs + 1) = rs + 1 := IntWalk.i64_in _ (by omega)
        have hn0 : n = rs + 1 := by rw [hn]; simp
        rw [show ((1 : Nat) : Int) = 1 from rfl]
        clear hn
        subst hn0
        go_wp2_with fail
        obtain ⟨w7, rfl⟩ : ∃ x : World, x = wr := ⟨_, rfl⟩
        go_loopw [14, 17] (fun s14 s17 wr => ∃ (n : Int) (L : VS) (A : Option Addr) (co : Nat) (vs : List Value), s14 = .slice A L.length co ∧ s17 = .int .i64 n ∧ -400000001 ≤ n ∧ n ≤ 400000001 ∧ L.length ≤ 4000 * (i + 1) + 1 ∧ P3 (fun n q o => TreeR mu sq i (x.set i n) q o) (restQ left c (nthQ sq i)) 1 F n L false ∧ SI w left c L A co vs wr) (fun _ j _ => (400000003 - 1 * intOf j).toNat)
        case atStart => exact ⟨_, L, A, co, vs, rfl, by first | rfl | go_num, by omega, by omega, hL, h3, si⟩
        case round =>
          clear h3 si
          obtain ⟨n, L, A, co, vs, rfl, rfl, hn1, hn2, hL, h3, si⟩ := hrel
          obtain ⟨w8, rfl⟩ : ∃ x : World, x = wr := ⟨_, rfl⟩
          have CA0 : ∀ W, Calls Tryz.prog 142 #[.agg #[.int .i64 n, .int .i64 1], .agg #[.int .i64 c.1, .int .i64 c.2]] W (QRet (addQ (wholeQ n) c) W) := fun W => sAddRatios_c (wholeQ n) c W
          obtain ⟨yq, hyq⟩ : ∃ q, q = addQ (wholeQ n) c := ⟨_, rfl⟩
          rw [← hyq] at CA0
          have CA := Lib.hid CA0
          have HYQ := Lib.hid hyq
          clear CA0 hyq
          obtain ⟨q0, q1⟩ := si.cq.cells
          have ql := si.cq.lt
          go_wp2_with fail
          refine (CA.out _).mono ?_; rintro e w9 ⟨rfl, g9⟩
          clear q0 q1 ql
          obtain ⟨w10, hw10⟩ : ∃ W, W = w9.alloc (.cells #[.int .i64 yq.1, .int .i64 yq.2] 79) := ⟨_, rfl⟩
          have qy : QBox w10 w9.heap.size yq := by rw [hw10]; exact QBox.new_ _ _ _ rfl
          have g910 : Grows w9 w10 := by rw [hw10]; exact bel0
          have HW10 := Lib.hid hw10
          have g810 : Grows w8 w10 := by exact bel2 g910 g9
          have si10 := si.grows g810
          have gK10 : Grows wK w10 := by exact bel3 g810 si.gr hg
          obtain ⟨bs, fs, rfl, hbs, z0, z1⟩ := (hs.grows gK10).at_ i hil
          obtain ⟨z, hz⟩ : ∃ z, z = nthQ sq i := ⟨_, rfl⟩
          rw [← hz] at z0 z1
          have HZS := Lib.hid hz
          have CM1 := fun W => sMultiplyRatios_c yq yq W
          have CM2 := fun W => sMultiplyRatios_c (mulQ yq yq) z W
          have CG0 := fun W => sNeg_c (mulQ (mulQ yq yq) z) W
          have CS0 := fun W => sAddRatios_c left (negQ (mulQ (mulQ yq yq) z)) W
          obtain ⟨rq, hrq⟩ : ∃ q, q = addQ left (negQ (mulQ (mulQ yq yq) z)) := ⟨_, rfl⟩
          have HRQ := Lib.hid (show rq = restQ left c (nthQ sq i) n by rw [hrq, ← HZS.out, HYQ.out]; rfl)
          rw [← hrq] at CS0
          generalize negQ (mulQ (mulQ yq yq) z) = y4 at *
          generalize mulQ (mulQ yq yq) z = y3 at *
          generalize mulQ yq yq = y2 at *
          have CM1' := Lib.hid CM1
          have CM2' := Lib.hid CM2
          have CG' := Lib.hid CG0
          have CS' := Lib.hid CS0
          have HK := Lib.hid fun W (g : Grows w10 W) => tree_keepS (si10.lq.grows g) (qy.grows g) ((g.cell (p := ⟨bs, fs + i * 2, none⟩) hbs).trans z0) ((g.cell (p := ⟨bs, fs + i * 2 + 1, none⟩) hbs).trans z1)
          clear CM1 CM2 CG0 CS0 hrq hz CA z0 z1 hw10 g9 g910
          go_upto_region 15 with fail
          rw [← HW10.out]
          go_cut [19] from 64 to 118 (fun s19 wx => ∃ gr : Nat, s19 = .pointer (some ⟨gr, 0, none⟩) ∧ QBox wx gr rq ∧ Grows w10 wx)
          case first =>
            go_region_held3 (fun W => W.cell? ⟨w.heap.size, 0, none⟩ = some (.int .i64 left.1) ∧ W.cell? ⟨w.heap.size, 1, none⟩ = some (.int .i64 left.2) ∧ W.cell? ⟨w9.heap.size, 0, none⟩ = some (.int .i64 yq.1) ∧ W.cell? ⟨w9.heap.size, 1, none⟩ = some (.int .i64 yq.2) ∧ W.cell? ⟨bs, fs + i * 2, none⟩ = some (.int .i64 z.1) ∧ W.cell? ⟨bs, fs + i * 2 + 1, none⟩ = some (.int .i64 z.2)) (exact HK.out _ (by first | exact bel4 g14 g13 g12 g11 | exact bel3 g13 g12 g11 | exact bel2 g12 g11 | exact bel1 g11 | exact bel0))
              (first
               | (go_at_call 144; (with_reducible refine (CM1'.out _).mono ?_); rintro e w11 ⟨rfl, g11⟩; have z11 := Below.size g11; (try simp at z11); (try (have q := (QBox.new_ w10 (0, 0) 79 rfl).grows (w' := w11) (Grows.trans (show Grows _ _ from (Below.refl _ _).drew) g11))))
               | (go_at_call 144; (with_reducible refine (CM2'.out _).mono ?_); rintro e w12 ⟨rfl, g12⟩; have z12 := Below.size g12; (try simp at z12); (first | (replace q := q.grows g12) | (have q := QBox.grows (QBox.new_ w11 (0, 0) 79 rfl) g12) | skip))
               | (go_at_call 143; (with_reducible refine (CG'.out _).mono ?_); rintro e w13 ⟨rfl, g13⟩; have z13 := Below.size g13; (try simp at z13); (first | (replace q := q.grows g13) | (have q := QBox.grows (QBox.new_ w12 (0, 0) 79 rfl) g13) | skip))
               | (go_at_call 142; (with_reducible refine (CS'.out _).mono ?_); rintro e w14 ⟨rfl, g14⟩; have z14 := Below.size g14; (try simp at z14); (first | (replace q := q.grows g14) | (have q := QBox.grows (QBox.new_ w13 (0, 0) 79 rfl) g14) | skip); (try (obtain ⟨q0, q1⟩ := q.cells; have qf := q.fz; have ql := q.lt))))
            all_goals
              go_wp2_with fail
              go_meet
              exact ⟨_, rfl, by first | exact q.put _ | exact QBox.new_ _ _ _ rfl | exact (QBox.new_ _ (0, 0) _ rfl).put _, by exact bel4 g14 g13 g12 g11⟩
          case rest =>
            obtain ⟨gr, rfl, qr, hg11⟩ := hcut
            obtain ⟨w11, rfl⟩ : ∃ x : World, x = wc := ⟨_, rfl⟩
            have si11 := si10.grows hg11
            have CI0 := fun W => sIsRatio_c rq.1 rq.2 W
            change ∀ W, Calls Tryz.prog 76 #[.agg #[.int .i64 rq.1, .int .i64 rq.2]] W (fun e w' => e = .returned (.bool (okQ rq)) ∧ Grows W w') at CI0
            clear si si10 HK CM1' CM2' CG' CS' HYQ HZS qy hg11 gK10 hbs g810
            obtain ⟨r0, r1⟩ := qr.cells
            have rl := qr.lt
            cases hok : okQ rq
            · rw [hok] at CI0
              have CI := Lib.hid CI0
              have HF := Lib.hid (HFN.out _ L (hnx L _ (h3.full (.inl (by rw [← HRQ.out]; exact hok)))))
              clear CI0 hok
              go_wp2_with fail
              refine (CI.out _).mono ?_; rintro e w12 ⟨rfl, g12⟩
              have si12 := si11.grows g12
              clear r0 r1 rl
              go_wp2_with fail
              go_ret2
              exact ⟨L, A, co, vs, true, rfl, HF.out, si12.rows, hL, si12.gr⟩
            · rw [hok] at CI0
              have CI := Lib.hid CI0
              have HOK := Lib.hid (show okQ (restQ left c (nthQ sq i) n) = true by rw [← HRQ.out]; exact hok)
              clear CI0 hok
              by_cases hlen : 4000 < L.length
              · have hlen' : (4000 : Int) < (L.length : Int) := by omega
                have HF := Lib.hid (HFN.out _ L (hnx L _ (h3.full (.inr hlen))))
                go_wp2_with fail
                refine (CI.out _).mono ?_; rintro e w12 ⟨rfl, g12⟩
                have si12 := si11.grows g12
                clear r0 r1 rl
                go_wp2_with fail
                go_ret2
                exact ⟨L, A, co, vs, true, rfl, HF.out, si12.rows, hL, si12.gr⟩
              · have hlen' : ¬ (4000 : Int) < (L.length : Int) := by omega
                go_wp2_with fail
                refine (CI.out _).mono ?_; rintro e w12 ⟨rfl, g12⟩
                have si12 := si11.grows g12
                have qr12 := qr.grows g12
                clear r0 r1 rl
                obtain ⟨r0, r1⟩ := qr12.cells
                have rl := qr12.lt
                by_cases hneg : rq.1 < 0
                · have HF := Lib.hid (hnx L _ (h3.stop HOK.out (by omega) (by rw [← HRQ.out]; exact hneg)))
                  go_wp2_with fail
                  go_round
                  case rel => exact ⟨1 + 1, L, A, co, vs, rfl, by first | rfl | go_num, by omega, hL, HF.out, si12⟩
                  case measure => simp [intOf]
                · have rdx := oxw.grows si12.gr
                  obtain ⟨_, _, _, hnlo, hnhi, _⟩ := restQ_parts HOK.out
                  have hwn : IntKind.i64.wrap (n - 1) = n - 1 := IntWalk.i64_in _ (by omega)
                  have hwn2 : IntKind.i64.wrap (n - 1 + 2 * 1) = n - 1 + 2 * 1 := IntWalk.i64_in _ (by omega)
                  have hwi : IntKind.i64.wrap ((i : Int) - 1) = (i : Int) - 1 := IntWalk.i64_in _ (by omega)
                  have HST := Lib.hid fun M bad2 h => h3.step (M := M) (bad := bad2) HOK.out (by omega) (by rw [← HRQ.out]; omega) h
                  have zw12 := Below.size si12.gr
                  have zq12 := qr12.lt
                  clear si11 qr h3
                  go_upto_region 21 with (at_builtin; refine wpList_app rfl (.tmp 91) (.tmp 92) rfl _ w12.heap.size _ [] (by rfl) (Own.new_ _ (by simp) (by simp)) Ax x R cx (by rfl) HX.out (by exact (Rd.grows rdx (by exact bel0))) (by simp; have := HX.out; omega) (by simp) ?_; intro v13 w13 ho13 hg13 hv13; rw [List.nil_append] at ho13; have g13 : Grows w12 w13 := Below.trans (show Grows w12 (w12.alloc (.cells #[] 3)) by exact bel0) (below_app (Own.new_ w12 rfl (Nat.le_refl _)) (by simp) hg13); obtain ⟨gx, c13, hv, hgx1, hgx2⟩ := Own.form ho13 (by rw [HX.out]; omega); rw [HX.out] at hv; subst hv; have hx0 := ho13.cell i (by rw [HX.out]; exact hi); have hxf := ho13.free i; clear hg13 hv13)
                  clear r0 r1 rl hx0 hxf rdx
                  obtain ⟨w14, hw14⟩ : ∃ W, W = w13.setCell ⟨gx, i, none⟩ (.int .i64 n) := ⟨_, rfl⟩
                  have g1214 : Grows w12 w14 := by rw [hw14]; exact Below.setCell g13 (by simp only; omega) _
                  have ho14 : Own w14 w12.heap.size (.slice (some ⟨gx, 0, none⟩) R c13) (x.set i n) := by
                    rw [hw14]
                    have h5 : Own w13 w12.heap.size (.slice (some ⟨gx, 0, none⟩) R c13) x := ho13
                    exact Own.put1 h5 HX.out i n
                  have rd14 := ho14.rd_
                  rw [← hw14]
                  have si14 := si12.grows g1214
                  have qr14 := qr12.grows g1214
                  have CP := Lib.hid (HIH.out (x.set i n) rq (some ⟨gx, 0, none⟩) c13 w14 (by simp; exact HX.out) rd14 (by exact bel3 g1214 si12.gr hg))
                  clear ho13 ho14 rd14 hw14 g13 hgx1 hgx2 si12 qr12 g1214
                  obtain ⟨r0, r1⟩ := qr14.cells
                  have rl := qr14.lt
                  go_wp2_with fail
                  refine CP.out.mono ?_; rintro e w15 ⟨M, A2, c2, us, bad2, rfl, hPF, rows2, hM, g15⟩
                  have hs15 := Below.size g15
                  have si15 := si14.grows g15
                  rw [HRQ.out] at hPF
                  have HP4 := Lib.hid (HST.out M bad2 hPF)
                  clear hPF r0 r1 rl CP
                  cases bad2
                  rotate_left
                  · have HF := Lib.hid (HFN.out _ L (hnx L _ (HP4.out.bad_.any L)))
                    go_wp2_with fail
                    go_ret2
                    exact ⟨L, A, co, vs, true, rfl, HF.out, si15.rows, hL, si15.gr⟩
                  · have hro1 : ∀ g, (Value.slice A L.length co).ownBlock = some g → g < w14.heap.size := fun g e => (si14.rows.own.lt e).2
                    have hro2 : ∀ (k : Nat) (u : Value), vs[k]? = some u → ∀ g, u.ownBlock = some g → g < w14.heap.size := fun k u hk g e => (si14.rows.lt hk e).2
                    have hLM : L.length + M.length ≤ 4000 * (i + 1) + 1 := by omega
                    have zw14 := Below.size si14.gr
                    have hro := si15.rows
                    go_wp2_with (at_builtin; refine wpList_appOn rfl (.tmp 111) (.tmp 112) rfl _ w.heap.size w14.heap.size _ vs us L M A2 c2 (by rfl) (by rfl) hro rows2 (by omega) hro1 hro2 (by omega) (by omega) ?_; intro v16 w16 ho16 hg16 hv16; obtain ⟨A4, c4, rfl, _, _⟩ := ho16.val; have si16 := si15.next ho16 hg16 hv16)
                    go_round
                    case rel => exact ⟨n + 1, L ++ M, A4, c4, vs ++ us, by first | rfl | rw [List.length_append], by first | rfl | go_num | (congr 1; omega), by omega, by omega, by rw [List.length_append]; exact hLM, HP4.out, si16⟩
                    case measure => first | (simp [intOf]; omega) | (simp [intOf]; done)
      --ENDLOOPS
end
end Go.Proofs.YtfilbjbogggaoaaGreat

/- Contract: the short vectors by the search, the program's. -/
namespace Go.Proofs.YtfilbjbogggaoaaGreat
set_option linter.unusedSimpArgs false
set_option linter.unusedVariables false
open Go.RowKit
set_option linter.unusedVariables false

/-- a new variable of the search -/
theorem TBox.new_ (w : World) (u v x : Value) (R : Nat) (bad : Bool) (t : TypeId) : TBox (w.alloc (.cells #[u, v, .int .i64 R, x, .bool bad] t)) w.heap.size u v R x bad :=
  ⟨by simp, by simp [go_sem], by simp [go_sem], by simp [go_sem], by simp [go_sem], by simp [go_sem], fun o => by simp [go_sem]⟩
theorem step_makeI {ops : Array Oper} {o : Oper} {a : Act} {K : Act → World → Prop} {Q : Exit → Act → World → Prop} {E : Prop} (hgd : o.guard = none) (l c : Operand)
    (ho : o.op = Op.makeSlice 24 l c) (w : World) (n : Nat) (hl : a.eval l = .int .i64 n) (hc : a.eval c = .int .i64 n) (hn : n ≤ 1048576)
    (h : ∀ w', Own w' w.heap.size (.slice (some ⟨w.heap.size, 0, none⟩) n n) (List.replicate n 0) → Grows w w' → K (a.put o.dst (.slice (some ⟨w.heap.size, 0, none⟩) n n)) w') :
    if Region.wanted o (yielded ops a.tmps) = true then Oper.wp Tryz.prog o a w K Q else E := by
  have hw : Region.wanted o (yielded ops a.tmps) = true := by simp [Region.wanted, hgd]
  rw [if_pos hw]
  obtain ⟨i0, hi0, hz0, hz1, hz2⟩ := info_parts info_int
  obtain ⟨w', hrun, r1, r2⟩ := run_make_full (P := Tryz.prog) w w.heap.size 24 3 i0 (.int .i64 0) 1 Tryz.underlying24 hi0 hz0 hz1 .i64 .i64 n (by rw [hz2]; omega) (by unfold maxLen; omega) (Nat.le_refl _)
  unfold Oper.wp
  simp [execOp, ho, hl, hc, hrun, Result.andThen]
  refine h w' ?_ ((Below.refl _ _).grown r2 (Nat.le_refl _) (by simp))
  unfold Own
  rw [List.length_replicate, List.map_replicate]
  rw [show (Value.int IntKind.i64 0).cells = #[Value.int IntKind.i64 0] from rfl, Nat.mul_one, toList_madeCells_one] at r1
  exact r1
section
set_option maxHeartbeats 8000000
set_option maxRecDepth 100000
theorem placeAll_c (mu : List (List Q2)) (sq : List Q2) (wK : World) (b R : Nat) (Am As : Option Addr) (cm cs : Nat) (Ax : Option Addr) (cx : Nat) (hI : AccI R (mu, sq)) (hR : R ≤ 24) (hm : RdR RSQ wK Am mu) (hs : RdQ wK As sq) (hb : wK.heap.size ≤ b) (hxb : ∀ g, (Value.slice Ax R cx).ownBlock = some g → g ≠ b) :
    ∀ k, k ≤ R → PIH mu sq wK b R (.slice Am R cm) (.slice As R cs) (.slice Ax R cx) k
  | 0, _ => fun x left w hx _ hg tb ox => placeZ_c mu sq wK b R (.slice Am R cm) (.slice As R cs) Ax cx x left w hx hR hg tb ox
  | i + 1, hk => fun x left w hx hz hg tb ox => by
    have e : (((i + 1 : Nat) : Int) - 1) = (i : Int) := by omega
    rw [e]
    exact placeS_c mu sq wK b R i Am As cm cs Ax cx hI hR (by omega) hm hs hb hxb (placeAll_c mu sq wK b R Am As cm cs Ax cx hI hR hm hs hb hxb i (by omega)) x left w hx hz hg tb ox
theorem iSbt_c (r c b : Int) (A : Option Addr) (l : List Int) (n cap : Nat) (w : World) (hn : l.length = n) (hcap : n ≤ cap) (hcap2 : cap ≤ 9223372036854775807) (ha : Rd w A l) (hl : n ≤ 1099511627776) :
    Calls Tryz.prog 13 #[.agg #[.int .i64 r, .int .i64 c, .slice A n cap], .int .i64 b] w (RowsRet (sbtO ⟨r, c, l⟩ b) w) := by
  have CD := fun W h => iIsDefX_c r c A l n cap W hn hcap hcap2 h hl
  have CV := Lib.hid fun (A' : Option Addr) (x : List Int) (c' : Nat) W h h' (hx : x.length ≤ 1099511627776) => iValueAt_c r c A A' l x n x.length cap c' W hn rfl h h' hl hx
  obtain ⟨w1, hw1⟩ : ∃ w1, w1 = w.alloc (.cells #[.int .i64 r, .int .i64 c, .slice A n cap] 26) := ⟨_, rfl⟩
  have ma : MBox w1 w.heap.size r c (.slice A n cap) := by rw [hw1]; exact MBox.mk_ _ _ _ _ _
  have HG : Grows w w1 := by rw [hw1]; exact bel0
  have HS1 : w1.heap.size = w.heap.size + 1 := by rw [hw1]; simp
  have HW1 := Lib.hid hw1
  have ha1 := ha.grows HG
  obtain ⟨RES, hRES⟩ : ∃ x, x = sbtO ⟨r, c, l⟩ b := ⟨_, rfl⟩
  rw [← hRES]
  have HR := Lib.hid hRES
  obtain ⟨D, hD⟩ : ∃ x, x = isDef r c l := ⟨_, rfl⟩
  rw [← hD] at CD
  have CD' := Lib.hid CD
  clear hw1 CD hRES
  cases D
  · obtain rfl : RES = none := HR.out.trans (sbtO_no1 hD.symm)
    clear hD
    go_enter Tryz.func13, Tryz.ntmps13
    go_wp2_with fail
    rw [← HW1.out]
    have ma_0 := ma.c0; have ma_1 := ma.c1; have ma_2 := ma.c2; have ma_l := ma.lt; have ma_f := ma.fz
    refine (CD'.out _ (by exact Rd.grows ha1 (by exact bel0))).mono ?_; rintro e w2 ⟨rfl, g_w2⟩
    have s_w2 := Below.size g_w2; (try simp at s_w2)
    clear ma_0 ma_1 ma_2 ma_l ma_f
    replace ma := ma.grows (w' := w2) (by exact bel1 g_w2)
    have ma_0 := ma.c0; have ma_1 := ma.c1; have ma_2 := ma.c2; have ma_l := ma.lt; have ma_f := ma.fz
    replace ha1 := ha1.grows (w' := w2) (by exact bel1 g_w2)
    replace HG : Grows w w2 := by exact bel2 g_w2 HG
    have h_w2 := Below.size HG
    go_wp2_with fail
    go_ret2
    exact ⟨_, [], rfl, RowsO.new_ _ rfl (by omega), by exact bel1 HG⟩
  · by_cases hb0 : b < 0
    · obtain rfl : RES = none := HR.out.trans (sbtO_no2 (by cases h : inB b 0 10000; rfl; have := (inB_iff _ _ _).1 h; omega))
      clear hD
      go_enter Tryz.func13, Tryz.ntmps13
      go_wp2_with fail
      rw [← HW1.out]
      have ma_0 := ma.c0; have ma_1 := ma.c1; have ma_2 := ma.c2; have ma_l := ma.lt; have ma_f := ma.fz
      refine (CD'.out _ (by exact Rd.grows ha1 (by exact bel0))).mono ?_; rintro e w2 ⟨rfl, g_w2⟩
      have s_w2 := Below.size g_w2; (try simp at s_w2)
      clear ma_0 ma_1 ma_2 ma_l ma_f
      replace ma := ma.grows (w' := w2) (by exact bel1 g_w2)
      have ma_0 := ma.c0; have ma_1 := ma.c1; have ma_2 := ma.c2; have ma_l := ma.lt; have ma_f := ma.fz
      replace ha1 := ha1.grows (w' := w2) (by exact bel1 g_w2)
      replace HG : Grows w w2 := by exact bel2 g_w2 HG
      have h_w2 := Below.size HG
      go_wp2_with fail
      go_ret2
      exact ⟨_, [], rfl, RowsO.new_ _ rfl (by omega), by exact bel1 HG⟩
    · by_cases hb1 : 10000 < b
      · obtain rfl : RES = none := HR.out.trans (sbtO_no2 (by cases h : inB b 0 10000; rfl; have := (inB_iff _ _ _).1 h; omega))
        clear hD
        go_enter Tryz.func13, Tryz.ntmps13
        go_wp2_with fail
        rw [← HW1.out]
        have ma_0 := ma.c0; have ma_1 := ma.c1; have ma_2 := ma.c2; have ma_l := ma.lt; have ma_f := ma.fz
        refine (CD'.out _ (by exact Rd.grows ha1 (by exact bel0))).mono ?_; rintro e w2 ⟨rfl, g_w2⟩
        have s_w2 := Below.size g_w2; (try simp at s_w2)
        clear ma_0 ma_1 ma_2 ma_l ma_f
        replace ma := ma.grows (w' := w2) (by exact bel1 g_w2)
        have ma_0 := ma.c0; have ma_1 := ma.c1; have ma_2 := ma.c2; have ma_l := ma.lt; have ma_f := ma.fz
        replace ha1 := ha1.grows (w' := w2) (by exact bel1 g_w2)
        replace HG : Grows w w2 := by exact bel2 g_w2 HG
        have h_w2 := Below.size HG
        go_wp2_with fail
        go_ret2
        exact ⟨_, [], rfl, RowsO.new_ _ rfl (by omega), by exact bel1 HG⟩
      · obtain ⟨hm, R, rfl, rfl, hR6, hll, hnum⟩ := isSq_nat (isDef_sq hD.symm)
        have HDEF := Lib.hid (show isDef R R l = true from hD.symm)
        have HR2 := Lib.hid (HR.out.trans (sbtO_yes hD.symm ((inB_iff b 0 10000).2 (by omega))))
        have CA0 := fun W h => (iAcc_c R A l n cap W hn hll (by omega) h).mono fun _ _ h => accRet_out h
        obtain ⟨SO, hSO⟩ : ∃ x, x = accF R l R := ⟨_, rfl⟩
        rw [← hSO] at CA0
        have HSO := Lib.hid hSO
        have CA := Lib.hid CA0
        clear hD hm hSO CA0 HR hnum
        cases SO with
        | none =>
          obtain rfl : RES = none := HR2.out.trans (by rw [← HSO.out]; rfl)
          go_enter Tryz.func13, Tryz.ntmps13
          go_wp2_with fail
          rw [← HW1.out]
          have ma_0 := ma.c0; have ma_1 := ma.c1; have ma_2 := ma.c2; have ma_l := ma.lt; have ma_f := ma.fz
          refine (CD'.out _ (by exact Rd.grows ha1 (by exact bel0))).mono ?_; rintro e w2 ⟨rfl, g_w2⟩
          have s_w2 := Below.size g_w2; (try simp at s_w2)
          clear ma_0 ma_1 ma_2 ma_l ma_f
          replace ma := ma.grows (w' := w2) (by exact bel1 g_w2)
          have ma_0 := ma.c0; have ma_1 := ma.c1; have ma_2 := ma.c2; have ma_l := ma.lt; have ma_f := ma.fz
          replace ha1 := ha1.grows (w' := w2) (by exact bel1 g_w2)
          replace HG : Grows w w2 := by exact bel2 g_w2 HG
          have h_w2 := Below.size HG
          go_wp2_with fail
          refine (CA.out _ (by exact Rd.grows ha1 (by exact bel0))).mono ?_; rintro e w5 ⟨Am, cm, As, cs, rfl, _, _, g_w5⟩
          have s_w5 := Below.size g_w5; (try simp at s_w5)
          clear ma_0 ma_1 ma_2 ma_l ma_f
          replace ma := ma.grows (w' := w5) (by exact bel1 g_w5)
          have ma_0 := ma.c0; have ma_1 := ma.c1; have ma_2 := ma.c2; have ma_l := ma.lt; have ma_f := ma.fz
          replace ha1 := ha1.grows (w' := w5) (by exact bel1 g_w5)
          replace HG : Grows w w5 := by exact bel2 g_w5 HG
          have h_w5 := Below.size HG
          go_wp2_with fail
          go_ret2
          exact ⟨_, [], rfl, RowsO.new_ _ (by first | rfl | simp) (by first | omega | (simp; omega)), by exact bel1 HG⟩
        | some s =>
          have hI := accF_inv HSO.out.symm
          have HR3 := Lib.hid (show RES = (treeO s.1 s.2 R (List.replicate R 0) (b, 1)).map fun rows => putsK [] (shL ⟨R, R, l⟩ b rows) from HR2.out.trans (by rw [← HSO.out]; rfl))
          have hl1 : s.1.length = R := hI.l1
          have hl2 : s.2.length = R := hI.l2
          have HI := Lib.hid hI
          clear hI HR2
          go_enter Tryz.func13, Tryz.ntmps13
          go_wp2_with fail
          rw [← HW1.out]
          have ma_0 := ma.c0; have ma_1 := ma.c1; have ma_2 := ma.c2; have ma_l := ma.lt; have ma_f := ma.fz
          refine (CD'.out _ (by exact Rd.grows ha1 (by exact bel0))).mono ?_; rintro e w2 ⟨rfl, g_w2⟩
          have s_w2 := Below.size g_w2; (try simp at s_w2)
          clear ma_0 ma_1 ma_2 ma_l ma_f
          replace ma := ma.grows (w' := w2) (by exact bel1 g_w2)
          have ma_0 := ma.c0; have ma_1 := ma.c1; have ma_2 := ma.c2; have ma_l := ma.lt; have ma_f := ma.fz
          replace ha1 := ha1.grows (w' := w2) (by exact bel1 g_w2)
          replace HG : Grows w w2 := by exact bel2 g_w2 HG
          have h_w2 := Below.size HG
          go_wp2_with fail
          refine (CA.out _ (by exact Rd.grows ha1 (by exact bel0))).mono ?_; rintro e w5 ⟨Am, cm, As, cs, rfl, hrm, hrs, g_w5⟩
          have s_w5 := Below.size g_w5; (try simp at s_w5)
          clear ma_0 ma_1 ma_2 ma_l ma_f
          replace ma := ma.grows (w' := w5) (by exact bel1 g_w5)
          have ma_0 := ma.c0; have ma_1 := ma.c1; have ma_2 := ma.c2; have ma_l := ma.lt; have ma_f := ma.fz
          replace ha1 := ha1.grows (w' := w5) (by exact bel1 g_w5)
          replace HG : Grows w w5 := by exact bel2 g_w5 HG
          have h_w5 := Below.size HG
          have eo : oA (some s) = s := rfl
          rw [eo] at hrm hrs ⊢
          rw [hl1, hl2]
          simp only [Option.isSome_some]
          obtain ⟨w6, hw6⟩ : ∃ W, W = w5.alloc (.cells #[.slice Am R cm, .slice As R cs] 71) := ⟨_, rfl⟩
          have sb6 : SBox w6 w5.heap.size (.slice Am R cm) (.slice As R cs) := by rw [hw6]; exact SBox.new_ _ _ _ _ rfl
          have g56 : Grows w5 w6 := by rw [hw6]; exact bel0
          have HW6 := Lib.hid hw6
          have hrm6 := hrm.grows RSQ.good g56
          have hrs6 := hrs.grows g56
          clear hw6 hrm hrs CD' CA eo
          have s_w6 := Below.size g56; (try simp at s_w6)
          clear ma_0 ma_1 ma_2 ma_l ma_f
          replace ma := ma.grows (w' := w6) (by exact bel1 g56)
          have ma_0 := ma.c0; have ma_1 := ma.c1; have ma_2 := ma.c2; have ma_l := ma.lt; have ma_f := ma.fz
          replace ha1 := ha1.grows (w' := w6) (by exact bel1 g56)
          replace HG : Grows w w6 := by exact bel2 g56 HG
          have h_w6 := Below.size HG
          go_upto_region 6 with fail
          rw [← HW6.out]
          have mm6 := ma.cells
          go_wp2_with fail
          (refine wp_region_heldL (fun W => W.cell? ⟨w5.heap.size, 0, none⟩ = some (.slice Am R cm) ∧ W.cell? ⟨w5.heap.size, 1, none⟩ = some (.slice As R cs) ∧ W.cell? ⟨w.heap.size, 0, none⟩ = some (.int .i64 R)) (by kernel_rfl) (by ((try dsimp only); (first | exact ⟨sb6.c0, sb6.c1, ma.c0⟩ | exact ⟨(sb6.grows (by exact bel1 g7)).c0, (sb6.grows (by exact bel1 g7)).c1, (ma.grows (by exact bel1 g7)).c0⟩))) (fun hHeld => ?_); refine heldL_take (i := 0) (v := _) (by rfl) (by kernel_rfl) (by kernel_rfl) (by kernel_rfl) (fun _ _ _ h => h) (Or.inl ⟨by rfl, fun wS hSw => by ((try dsimp only at hSw); go_simp; (try with_reducible rfl))⟩) (by assumption) ?_; simp only [Act.put, List.setIfInBounds_toArray, List.set_cons_zero, List.set_cons_succ]; refine heldL_take (i := 1) (v := _) (by rfl) (by kernel_rfl) (by kernel_rfl) (by kernel_rfl) (fun _ _ _ h => h) (Or.inl ⟨by rfl, fun wS hSw => by ((try dsimp only at hSw); go_simp; (try with_reducible rfl))⟩) (by assumption) ?_; simp only [Act.put, List.setIfInBounds_toArray, List.set_cons_zero, List.set_cons_succ]; refine heldL_take (i := 2) (v := _) (by rfl) (by kernel_rfl) (by kernel_rfl) (by kernel_rfl) (fun _ _ _ h => h) (Or.inl ⟨by rfl, fun wS hSw => by ((try dsimp only at hSw); go_simp; (try with_reducible rfl))⟩) (by assumption) ?_; simp only [Act.put, List.setIfInBounds_toArray, List.set_cons_zero, List.set_cons_succ]; refine heldL_take (i := 3) (v := _) (by rfl) (by kernel_rfl) (by kernel_rfl) (by kernel_rfl) (fun _ _ _ h => h) (Or.inl ⟨by rfl, fun wS hSw => by ((try dsimp only at hSw); go_simp; (try with_reducible rfl))⟩) (by assumption) ?_; simp only [Act.put, List.setIfInBounds_toArray, List.set_cons_zero, List.set_cons_succ]; refine heldL_take (i := 4) (v := _) (by rfl) (by kernel_rfl) (by kernel_rfl) (by kernel_rfl) (fun _ _ _ h => h) (Or.inl ⟨by rfl, fun wS hSw => by ((try dsimp only at hSw); go_simp; (try with_reducible rfl))⟩) (by assumption) ?_; simp only [Act.put, List.setIfInBounds_toArray, List.set_cons_zero, List.set_cons_succ]; refine heldL_step (i := 5) (by kernel_rfl) (by rfl) (fun K hK => ?_); (refine step_makeI rfl (.tmp 39) (.tmp 39) rfl _ R (by rfl) (by rfl) (by omega) ?_; intro w7 hx7 g7; have hx7 : Own w7 w6.heap.size (.slice (some ⟨w6.heap.size, 0, none⟩) R R) (List.replicate R 0) := hx7; have g7 : Grows w6 w7 := Grows.trans (show Grows w6 _ by exact bel0) g7) ; refine hK.out _ _ (by ((try dsimp only); (first | exact ⟨sb6.c0, sb6.c1, ma.c0⟩ | exact ⟨(sb6.grows (by exact bel1 g7)).c0, (sb6.grows (by exact bel1 g7)).c1, (ma.grows (by exact bel1 g7)).c0⟩))) (fun hHeld => ?_); clear hK K; (try simp only [Act.put, List.setIfInBounds_toArray, List.set_cons_zero, List.set_cons_succ]); refine heldL_take (i := 6) (v := _) (by rfl) (by kernel_rfl) (by kernel_rfl) (by kernel_rfl) (fun _ _ _ h => h) (Or.inl ⟨by rfl, fun wS hSw => by ((try dsimp only at hSw); go_simp; (try with_reducible rfl))⟩) (by assumption) ?_; simp only [Act.put, List.setIfInBounds_toArray, List.set_cons_zero, List.set_cons_succ]; refine heldL_step (i := 7) (by kernel_rfl) (by rfl) (fun K hK => ?_); go_simp; refine hK.out _ _ (by ((try dsimp only); (first | exact ⟨sb6.c0, sb6.c1, ma.c0⟩ | exact ⟨(sb6.grows (by exact bel1 g7)).c0, (sb6.grows (by exact bel1 g7)).c1, (ma.grows (by exact bel1 g7)).c0⟩))) (fun hHeld => ?_); clear hK K; (try simp only [Act.put, List.setIfInBounds_toArray, List.set_cons_zero, List.set_cons_succ]); refine heldL_take (i := 8) (v := _) (by rfl) (by kernel_rfl) (by kernel_rfl) (by kernel_rfl) (fun _ _ _ h => h) (Or.inl ⟨by rfl, fun wS hSw => by ((try dsimp only at hSw); go_simp; (try with_reducible rfl))⟩) (by assumption) ?_; simp only [Act.put, List.setIfInBounds_toArray, List.set_cons_zero, List.set_cons_succ]; refine wpAnyH_done (by kernel_rfl) ?_ _; refine NoPanic.normal ?_)
          have hs67 := Below.size g7
          obtain ⟨w8, hw8⟩ : ∃ W, W = w7.alloc (.cells #[.slice Am R cm, .slice As R cs, .int .i64 R, .slice (some ⟨w6.heap.size, 0, none⟩) R R, .bool false] 76) := ⟨_, rfl⟩
          have tb8 : TBox w8 w7.heap.size (.slice Am R cm) (.slice As R cs) R (.slice (some ⟨w6.heap.size, 0, none⟩) R R) false := by rw [hw8]; exact TBox.new_ _ _ _ _ _ _ _
          have ox8 : Own w8 w6.heap.size (.slice (some ⟨w6.heap.size, 0, none⟩) R R) (List.replicate R 0) := by rw [hw8]; exact hx7.alloc _
          have g78 : Grows w7 w8 := by rw [hw8]; exact bel0
          have HW8 := Lib.hid hw8
          have hs78 := Below.size g78
          have g68 : Grows w6 w8 := by exact bel2 g78 g7
          have ma8 := ma.grows (w' := w8) g68
          have hx7l := (World.ownsRow.lt hx7 w6.heap.size (by simp [Value.ownBlock])).2
          have hbm := ma.lt
          have hIH := placeAll_c s.1 s.2 w6 w7.heap.size R Am As cm cs (some ⟨w6.heap.size, 0, none⟩) R HI.out (by omega) hrm6 hrs6 hs67 (fun g hg => by simp [Value.ownBlock] at hg; omega) R (Nat.le_refl R)
          have CP := Lib.hid fun W (g : Grows w8 W) => hIH (List.replicate R 0) (wholeQ b) W (by simp) (fun t ht => by rw [nth_replicate]) (by exact bel2 g g68) (tb8.grows g) (ox8.grows g)
          have CW := Lib.hid fun W => whole_c b W
          have hwR : IntKind.i64.wrap ((R : Int) - 1) = (R : Int) - 1 := IntWalk.i64_in _ (by omega)
          have HG8 : Grows w w8 := by exact bel2 g68 HG
          clear hw8 hIH hx7 g78 g7 sb6 mm6 ma_0 ma_1 ma_2 ma_l ma_f
          go_upto_region 7 with fail
          rw [← HW8.out]
          go_wp2_with fail
          (refine wp_region_heldL (fun W => W.cell? ⟨w.heap.size, 0, none⟩ = some (.int .i64 R)) (by kernel_rfl) (by ((try dsimp only); (first | exact mm10.c0 | exact (ma8.grows (by exact bel1 g9)).c0 | exact (ma8.grows (by exact bel0)).c0))) (fun hHeld => ?_); refine heldL_take (i := 0) (v := _) (by rfl) (by kernel_rfl) (by kernel_rfl) (by kernel_rfl) (fun _ _ _ h => h) (Or.inl ⟨by rfl, fun wS hSw => by ((try dsimp only at hSw); go_simp; (try with_reducible rfl))⟩) (by assumption) ?_; simp only [Act.put, List.setIfInBounds_toArray, List.set_cons_zero, List.set_cons_succ]; refine heldL_take (i := 1) (v := _) (by rfl) (by kernel_rfl) (by kernel_rfl) (by kernel_rfl) (fun _ _ _ h => h) (Or.inl ⟨by rfl, fun wS hSw => by ((try dsimp only at hSw); go_simp; (try with_reducible rfl))⟩) (by assumption) ?_; simp only [Act.put, List.setIfInBounds_toArray, List.set_cons_zero, List.set_cons_succ]; refine heldL_take (i := 2) (v := _) (by rfl) (by kernel_rfl) (by kernel_rfl) (by kernel_rfl) (fun _ _ _ h => h) (Or.inl ⟨by rfl, fun wS hSw => by ((try dsimp only at hSw); go_simp; (try with_reducible rfl))⟩) (by assumption) ?_; simp only [Act.put, List.setIfInBounds_toArray, List.set_cons_zero, List.set_cons_succ]; refine heldL_take (i := 3) (v := _) (by rfl) (by kernel_rfl) (by kernel_rfl) (by kernel_rfl) (fun _ _ _ h => h) (Or.inl ⟨by rfl, fun wS hSw => by ((try dsimp only at hSw); go_simp; (try with_reducible rfl))⟩) (by assumption) ?_; simp only [Act.put, List.setIfInBounds_toArray, List.set_cons_zero, List.set_cons_succ]; refine heldL_take (i := 4) (v := _) (by rfl) (by kernel_rfl) (by kernel_rfl) (by kernel_rfl) (fun _ _ _ h => h) (Or.inl ⟨by rfl, fun wS hSw => by ((try dsimp only at hSw); go_simp; (try with_reducible rfl))⟩) (by assumption) ?_; simp only [Act.put, List.setIfInBounds_toArray, List.set_cons_zero, List.set_cons_succ]; refine heldL_step (i := 5) (by kernel_rfl) (by rfl) (fun K hK => ?_); go_simp; (refine (CW.out _).mono ?_; rintro e w9 ⟨rfl, g9⟩; have g89 : Grows w8 w9 := by exact bel1 g9) ; (try (go_wp2_with fail)); refine hK.out _ _ (by ((try dsimp only); (first | exact mm10.c0 | exact (ma8.grows (by exact bel1 g9)).c0 | exact (ma8.grows (by exact bel0)).c0))) (fun hHeld => ?_); clear hK K; (try simp only [Act.put, List.setIfInBounds_toArray, List.set_cons_zero, List.set_cons_succ]); refine heldL_step (i := 6) (by kernel_rfl) (by rfl) (fun K hK => ?_); go_simp; (refine (CP.out w9 g89).mono ?_; rintro e w10 ⟨rows, A4, c4, vs, bad, rfl, hPF, o10, hLl, tb10, _, mv10⟩; have mm10 : MBox w10 w.heap.size R R (.slice A n cap) := (ma8.grows g89).mv mv10 (fun h => by rcases h with h | h; (· omega); (· simp [Value.ownBlock] at h; omega))) ; (try (go_wp2_with fail)); refine hK.out _ _ (by ((try dsimp only); (first | exact mm10.c0 | exact (ma8.grows (by exact bel1 g9)).c0 | exact (ma8.grows (by exact bel0)).c0))) (fun hHeld => ?_); clear hK K; (try simp only [Act.put, List.setIfInBounds_toArray, List.set_cons_zero, List.set_cons_succ]); refine heldL_take (i := 7) (v := _) (by rfl) (by kernel_rfl) (by kernel_rfl) (by kernel_rfl) (fun _ _ _ h => h) (Or.inl ⟨by rfl, fun wS hSw => by ((try dsimp only at hSw); go_simp; (try with_reducible rfl))⟩) (by assumption) ?_; simp only [Act.put, List.setIfInBounds_toArray, List.set_cons_zero, List.set_cons_succ]; refine wpAnyH_done (by kernel_rfl) ?_ _; refine NoPanic.normal ?_)
          have HG10 : Grows w w10 := Mv.below ((Mv.of_grows (show Grows w w9 by exact bel2 g89 HG8)).trans mv10) (Nat.le_refl _) fun g h => by
            rcases h with h | h
            · omega
            · simp [Value.ownBlock] at h; omega
          have ha10 := ha.grows HG10
          have hs9 := Below.size g89
          have hs10 := mv10.size
          have hs3 : w.heap.size ≤ w9.heap.size := by omega
          have c4b := tb10.c4
          have c4l := tb10.lt
          have hb4 : rows.length ≤ 24001 := by omega
          have hTR := PF.tree hPF
          have ma10 := mm10
          clear CP CW ma8 tb8 ox8 g68 g89 mm10 tb10 mv10 hrm6 hrs6 g9 g56 ma ha1 HG8 HW8 HW6 HW1
          cases bad
          rotate_left
          · obtain rfl : RES = none := HR3.out.trans (by rw [show treeO s.1 s.2 R (List.replicate R 0) (b, 1) = none from hTR]; rfl)
            go_wp2_with fail
            go_ret2
            exact ⟨_, [], rfl, RowsO.new_ _ rfl (by omega), by exact bel1 HG10⟩
          · have hRES : RES = some (putsK [] (shL ⟨R, R, l⟩ b rows)) := HR3.out.trans (by rw [show treeO s.1 s.2 R (List.replicate R 0) (b, 1) = some rows from hTR]; rfl)
            have HFL := Lib.hid fun (v : List Int) (hv : v ∈ rows) => show v.length = R from by
              obtain ⟨o, h1, h2, h3⟩ := hPF
              cases o with
              | none => cases h2
              | some y =>
                obtain rfl := h3 y rfl
                have := (h1.cells hv).1
                rwa [List.length_replicate] at this
            subst hRES
            clear hTR hPF HR3 HSO HI
            go_wp2_with fail
            go_loopw [10, 58] (fun o i wr => ∃ (I : Nat), i = .int .i64 I ∧ I ≤ rows.length ∧ OwnS wr w10.heap.size o (selV ⟨R, R, l⟩ b vs rows I) ∧ Grows w10 wr) (fun _ i _ => rows.length - (intOf i).toNat)
            case atStart => exact ⟨0, rfl, Nat.zero_le _, OwnS.new_ _ rfl (Nat.le_refl _), by exact bel0⟩
            case round =>
              obtain ⟨I, rfl, hI, ho, hg⟩ := hrel
              have hsw := Below.size hg
              by_cases hlt : I < rows.length
              · have i1 : (I : Int) < (rows.length : Int) := by omega
                obtain ⟨b8, o8, A5, c5, rfl, hb8, hc8, hr5, he5, how5⟩ := (o10.grows hg).cellAt hlt
                have hxl : (rows.getD I []).length ≤ 6 := by rw [HFL.out _ (rowsD_mem hlt)]; exact hR6
                have ma2 := ma10.grows (w' := wr) (by exact bel1 hg)
                obtain ⟨m0, m1, m2⟩ := ma2.cells
                have HN0 := Lib.hid fun h => selV_none (g := ⟨R, R, l⟩) (b := b) (vs := vs) (rows := rows) (i := I) h
                have HN1 := Lib.hid fun k h => selV_some (g := ⟨R, R, l⟩) (b := b) (vs := vs) (rows := rows) (i := I) (k := k) h
                have hsl := selV_len (g := ⟨R, R, l⟩) (b := b) (vs := vs) (rows := rows) (i := I)
                rw [he5] at HN1
                have CP := Lib.hid fun W h => posFirst_c A5 (rows.getD I []) (rows.getD I []).length c5 W rfl h (by omega)
                have CW := Lib.hid fun W h h' => CV.out A5 (rows.getD I []) c5 W h h' (by omega)
                have K1 := Lib.hid fun h => HN0.out (shK_no1 (g := ⟨R, R, l⟩) (b := b) h)
                have K2 := Lib.hid fun h => HN0.out (shK_no2 (g := ⟨R, R, l⟩) (b := b) h)
                have K3 := Lib.hid fun h => HN0.out (shK_no3 (g := ⟨R, R, l⟩) (b := b) h)
                have K4 := Lib.hid fun h1 h2 h3 => HN1.out _ (shK_yes (g := ⟨R, R, l⟩) (b := b) h1 h2 h3)
                have K5 := Lib.hid fun h1 h2 => val_pos (g := l) (x := rows.getD I []) HDEF.out h1 (posV_some h2)
                simp only at K1 K2 K3 K4 K5
                clear HN0 HN1 he5
                have haw := ha10.grows (w' := wr) (by exact bel1 hg)
                generalize vVal R R l (rows.getD I []) = V at *
                generalize vOk R R l (rows.getD I []) = OK at *
                generalize posV (rows.getD I []) = PV at *
                generalize rows.getD I [] = x at *
                generalize selV ⟨R, R, l⟩ b vs rows I = S at *
                have hr5' : Rd wr A5 x := hr5
                cases PV
                · have HNX := Lib.hid (K1.out rfl)
                  clear K1 K2 K3 K4 K5
                  go_wp2_with fail
                  refine (CP.out _ (by exact (Rd.grows hr5' (by exact bel0)))).mono ?_; rintro e w5 ⟨rfl, rfl⟩
                  go_wp2_with fail
                  go_round
                  case rel => exact ⟨I + 1, by go_num, by omega, by rw [HNX.out]; exact ho, hg⟩
                  case measure => simp [intOf]; omega
                · cases OK
                  · have HNX := Lib.hid (K2.out rfl)
                    clear K1 K2 K3 K4 K5
                    go_wp2_with fail
                    refine (CP.out _ (by exact (Rd.grows hr5' (by exact bel0)))).mono ?_; rintro e w5 ⟨rfl, rfl⟩
                    go_wp2_with fail
                    refine (CW.out _ (by exact (Rd.grows haw (by exact bel0))) (by exact (Rd.grows hr5' (by exact bel0)))).mono ?_; rintro e w6 ⟨rfl, g6⟩
                    go_wp2_with fail
                    go_round
                    case rel => exact ⟨I + 1, by go_num, by omega, by rw [HNX.out]; exact ho.grows g6, by exact bel2 g6 hg⟩
                    case measure => simp [intOf]; omega
                  · have hV := K5.out rfl rfl
                    by_cases hVb : V ≤ b
                    · have HNX := Lib.hid (K4.out rfl rfl hVb)
                      clear K1 K2 K3 K4 K5
                      go_wp2_with fail
                      refine (CP.out _ (by exact (Rd.grows hr5' (by exact bel0)))).mono ?_; rintro e w5 ⟨rfl, rfl⟩
                      go_wp2_with fail
                      refine (CW.out _ (by exact (Rd.grows haw (by exact bel0))) (by exact (Rd.grows hr5' (by exact bel0)))).mono ?_; rintro e w6 ⟨rfl, g6⟩
                      have ho6 := ho.grows g6
                      have hs6' := Below.size g6
                      obtain ⟨A9, c9, rfl⟩ := ho6.val
                      have hSL : S.length + 1 ≤ 1099511627776 := by omega
                      go_wp2_with (at_builtin; refine wpList_appS1 rfl (.tmp 81) (.tmp 85) rfl _ _ V rfl w10.heap.size _ S (by rfl) ho6 (by first | rfl | (simp [go_sem]; done) | (simp; rfl)) hSL (by omega) ?_; intro v7 w7 ho7 hg7 hv7)
                      obtain ⟨A10, c10, rfl⟩ := ho7.val
                      have g7 : Below w10.heap.size w6 w7 := (Below.refl _ _).grown hg7 (by omega) fun k hk => (World.ownsRow.lt ho6 k hk).1
                      clear hg7 hv7
                      go_wp2_with fail
                      go_round
                      case rel => exact ⟨I + 1, by go_num, by omega, by rw [HNX.out]; exact ho7, Below.trans (show Grows w10 w6 by exact bel2 g6 hg) g7⟩
                      case measure => simp [intOf]; omega
                    · have HNX := Lib.hid (K3.out hVb)
                      clear K1 K2 K3 K4 K5
                      go_wp2_with fail
                      refine (CP.out _ (by exact (Rd.grows hr5' (by exact bel0)))).mono ?_; rintro e w5 ⟨rfl, rfl⟩
                      go_wp2_with fail
                      refine (CW.out _ (by exact (Rd.grows haw (by exact bel0))) (by exact (Rd.grows hr5' (by exact bel0)))).mono ?_; rintro e w6 ⟨rfl, g6⟩
                      go_wp2_with fail
                      go_round
                      case rel => exact ⟨I + 1, by go_num, by omega, by rw [HNX.out]; exact ho.grows g6, by exact bel2 g6 hg⟩
                      case measure => simp [intOf]; omega
              · obtain rfl : I = rows.length := by omega
                have hok := o10.grows hg
                have hSR := selV_rows (g := ⟨R, R, l⟩) (b := b) (i := rows.length) hok (Nat.le_refl _)
                have hSK := keys_of (selV_snd (g := ⟨R, R, l⟩) (b := b) (vs := vs) (rows := rows) (i := rows.length) (Nat.le_refl _))
                rw [shL_all] at hSR hSK
                have hSB := selV_len (g := ⟨R, R, l⟩) (b := b) (vs := vs) (rows := rows) (i := rows.length)
                have hSO := Lib.hid fun q hq gg hgg => selV_own (g := ⟨R, R, l⟩) (b := b) (i := rows.length) o10 (Nat.le_refl _) (q := q) hq (gg := gg) hgg
                have hSN : ∀ q ∈ selV ⟨R, R, l⟩ b vs rows rows.length, -1000000 ≤ q.2 ∧ q.2 ≤ 1000000 := fun q hq => by
                  obtain ⟨j, _, _, k, hk, e⟩ := selV_mem hq
                  obtain ⟨rfl, h2, h3, h4⟩ := shK_some hk
                  have := val_pos HDEF.out h2 (posV_some h4)
                  rw [e]
                  simp only at *
                  omega
                have hSX : ∀ x ∈ rowsK (shL ⟨R, R, l⟩ b rows), x.length ≤ 1024 := fun x hx => by
                  obtain ⟨k, hk, rfl⟩ := List.mem_map.1 hx
                  rw [HFL.out _ (shL_mem hk).1]
                  omega
                have CI := Lib.hid (ivo_c _ _ _ w9.heap.size wr (ho.less (by omega)) hSR (fun i hi bb hbb e => by
                  have h1 := hSO.out _ (by rw [nthS_get _ _ hi]; exact List.getElem_mem _) bb hbb
                  have h2 := (World.ownsRow.lt ho bb e).1
                  omega) (fun i hi => hSN _ (by rw [nthS_get _ _ hi]; exact List.getElem_mem _)) hSX (by omega) (by omega))
                rw [hSK] at CI
                clear hSR hSK hSO hSN hSX
                obtain ⟨A9, c9, rfl⟩ := ho.val
                go_wp2_with fail
                refine CI.out.mono ?_; rintro e w9 ⟨v9, vs9, rfl, o9, g9⟩
                go_wp2_with fail
                go_ret2
                exact ⟨_, _, rfl, o9.less (by omega), Below.trans HG10 (Below.trans (show Below w.heap.size w10 wr from Below.mono hg (by omega)) (Below.mono g9 (by omega)))⟩
end
end Go.Proofs.YtfilbjbogggaoaaGreat

/- Contract: the short vectors by the search, the reference's. -/
namespace Go.Proofs.YtfilbjbogggaoaaGreat
set_option linter.unusedSimpArgs false
set_option linter.unusedVariables false
open Go.RowKit
set_option linter.unusedVariables false

section
set_option maxHeartbeats 8000000
set_option maxRecDepth 100000
theorem sTreeAll_c (mu : List (List Q2)) (sq : List Q2) (wK : World) (R : Nat) (Am As : Option Addr) (cm cs : Nat) (hI : AccI R (mu, sq)) (hR : R ≤ 24) (hm : RdR RSQ wK Am mu) (hs : RdQ wK As sq) :
    ∀ k, k ≤ R → SIH mu sq wK R (.slice Am R cm) (.slice As R cs) k
  | 0, _ => fun x left Ax cx w hx ox _ => sTreeZ_c mu sq R (.slice Am R cm) (.slice As R cs) Ax cx x left w hx hR ox
  | i + 1, hk => fun x left Ax cx w hx ox hg => by
    have e : (((i + 1 : Nat) : Int) - 1) = (i : Int) := by omega
    rw [e]
    exact sTreeS_c mu sq wK R i Am As cm cs hI hR (by omega) hm hs (sTreeAll_c mu sq wK R Am As cm cs hI hR hm hs i (by omega)) x left Ax cx w hx ox hg
theorem sSbt_c (r c b : Int) (A : Option Addr) (l : List Int) (n cap : Nat) (w : World) (hn : l.length = n) (hcap : n ≤ cap) (hcap2 : cap ≤ 9223372036854775807) (ha : Rd w A l) (hl : n ≤ 1099511627776) :
    Calls Tryz.prog 32 #[.agg #[.int .i64 r, .int .i64 c, .slice A n cap], .int .i64 b] w (RowsGet (sbtO ⟨r, c, l⟩ b) w) := by
  have CD := fun W h => sIsDefX_c r c A l n cap W hn hcap hcap2 h hl
  have CV := Lib.hid fun (A' : Option Addr) (x : List Int) (c' : Nat) W h h' (hx : x.length ≤ 1099511627776) => sValueAt_c r c A A' l x n x.length cap c' W hn rfl h h' hl hx
  have CB0 := fun W => l1In_c b 0 10000 W
  obtain ⟨w1, hw1⟩ : ∃ w1, w1 = w.alloc (.cells #[.int .i64 r, .int .i64 c, .slice A n cap] 26) := ⟨_, rfl⟩
  have ma : MBox w1 w.heap.size r c (.slice A n cap) := by rw [hw1]; exact MBox.mk_ _ _ _ _ _
  have HG : Grows w w1 := by rw [hw1]; exact bel0
  have HS1 : w1.heap.size = w.heap.size + 1 := by rw [hw1]; simp
  have HW1 := Lib.hid hw1
  have ha1 := ha.grows HG
  obtain ⟨RES, hRES⟩ : ∃ x, x = sbtO ⟨r, c, l⟩ b := ⟨_, rfl⟩
  rw [← hRES]
  have HR := Lib.hid hRES
  obtain ⟨D, hD⟩ : ∃ x, x = isDef r c l := ⟨_, rfl⟩
  rw [← hD] at CD
  have CD' := Lib.hid CD
  clear hw1 CD hRES
  cases D
  · obtain rfl : RES = none := HR.out.trans (sbtO_no1 hD.symm)
    clear hD CB0
    go_enter Tryz.func32, Tryz.ntmps32
    go_wp2_with fail
    rw [← HW1.out]
    have ma_0 := ma.c0; have ma_1 := ma.c1; have ma_2 := ma.c2; have ma_l := ma.lt; have ma_f := ma.fz
    refine (CD'.out _ (by exact Rd.grows ha1 (by exact bel0))).mono ?_; rintro e w2 ⟨rfl, g_w2⟩
    have s_w2 := Below.size g_w2; (try simp at s_w2)
    clear ma_0 ma_1 ma_2 ma_l ma_f
    replace ma := ma.grows (w' := w2) (by exact bel1 g_w2)
    have ma_0 := ma.c0; have ma_1 := ma.c1; have ma_2 := ma.c2; have ma_l := ma.lt; have ma_f := ma.fz
    replace ha1 := ha1.grows (w' := w2) (by exact bel1 g_w2)
    replace HG : Grows w w2 := by exact bel2 g_w2 HG
    have h_w2 := Below.size HG
    go_wp2_with fail
    go_ret2
    exact ⟨_, _, rfl, rdR_nil _ _, by exact bel1 HG⟩
  · cases hB : inB b 0 10000
    · obtain rfl : RES = none := HR.out.trans (sbtO_no2 hB)
      rw [hB] at CB0
      have CB := Lib.hid CB0
      clear hD CB0 hB
      go_enter Tryz.func32, Tryz.ntmps32
      go_wp2_with fail
      rw [← HW1.out]
      have ma_0 := ma.c0; have ma_1 := ma.c1; have ma_2 := ma.c2; have ma_l := ma.lt; have ma_f := ma.fz
      refine (CD'.out _ (by exact Rd.grows ha1 (by exact bel0))).mono ?_; rintro e w2 ⟨rfl, g_w2⟩
      have s_w2 := Below.size g_w2; (try simp at s_w2)
      clear ma_0 ma_1 ma_2 ma_l ma_f
      replace ma := ma.grows (w' := w2) (by exact bel1 g_w2)
      have ma_0 := ma.c0; have ma_1 := ma.c1; have ma_2 := ma.c2; have ma_l := ma.lt; have ma_f := ma.fz
      replace ha1 := ha1.grows (w' := w2) (by exact bel1 g_w2)
      replace HG : Grows w w2 := by exact bel2 g_w2 HG
      have h_w2 := Below.size HG
      go_wp2_with fail
      refine (CB.out _).mono ?_; rintro e w3 ⟨rfl, rfl⟩
      go_wp2_with fail
      go_ret2
      exact ⟨_, _, rfl, rdR_nil _ _, by exact bel1 HG⟩
    · obtain ⟨hb0, hb1⟩ := (inB_iff _ _ _).1 hB
      obtain ⟨hm, R, rfl, rfl, hR6, hll, hnum⟩ := isSq_nat (isDef_sq hD.symm)
      have HDEF := Lib.hid (show isDef R R l = true from hD.symm)
      have HR2 := Lib.hid (HR.out.trans (sbtO_yes hD.symm hB))
      rw [hB] at CB0
      have CB := Lib.hid CB0
      have CA0 := fun W h => (sAcc_c R A l n cap W hn hll (by omega) h).mono fun _ _ h => muRet_out h
      obtain ⟨SO, hSO⟩ : ∃ x, x = accF R l R := ⟨_, rfl⟩
      rw [← hSO] at CA0
      have HSO := Lib.hid hSO
      have CA := Lib.hid CA0
      clear hD hm hSO CA0 HR hnum CB0 hB
      cases SO with
      | none =>
        obtain rfl : RES = none := HR2.out.trans (by rw [← HSO.out]; rfl)
        go_enter Tryz.func32, Tryz.ntmps32
        go_wp2_with fail
        rw [← HW1.out]
        have ma_0 := ma.c0; have ma_1 := ma.c1; have ma_2 := ma.c2; have ma_l := ma.lt; have ma_f := ma.fz
        refine (CD'.out _ (by exact Rd.grows ha1 (by exact bel0))).mono ?_; rintro e w2 ⟨rfl, g_w2⟩
        have s_w2 := Below.size g_w2; (try simp at s_w2)
        clear ma_0 ma_1 ma_2 ma_l ma_f
        replace ma := ma.grows (w' := w2) (by exact bel1 g_w2)
        have ma_0 := ma.c0; have ma_1 := ma.c1; have ma_2 := ma.c2; have ma_l := ma.lt; have ma_f := ma.fz
        replace ha1 := ha1.grows (w' := w2) (by exact bel1 g_w2)
        replace HG : Grows w w2 := by exact bel2 g_w2 HG
        have h_w2 := Below.size HG
        go_wp2_with fail
        refine (CB.out _).mono ?_; rintro e w3 ⟨rfl, rfl⟩
        go_wp2_with fail
        refine (CA.out _ (by exact Rd.grows ha1 (by exact bel0))).mono ?_; rintro e w5 ⟨Am, cm, As, cs, mu, sq, rfl, _, _, _, g_w5⟩
        have s_w5 := Below.size g_w5; (try simp at s_w5)
        clear ma_0 ma_1 ma_2 ma_l ma_f
        replace ma := ma.grows (w' := w5) (by exact bel1 g_w5)
        have ma_0 := ma.c0; have ma_1 := ma.c1; have ma_2 := ma.c2; have ma_l := ma.lt; have ma_f := ma.fz
        replace ha1 := ha1.grows (w' := w5) (by exact bel1 g_w5)
        replace HG : Grows w w5 := by exact bel2 g_w5 HG
        have h_w5 := Below.size HG
        go_wp2_with fail
        go_ret2
        exact ⟨_, _, rfl, rdR_nil _ _, by exact bel1 HG⟩
      | some s =>
        have hI := accF_inv HSO.out.symm
        have HR3 := Lib.hid (show RES = (treeO s.1 s.2 R (List.replicate R 0) (b, 1)).map fun rows => putsK [] (shL ⟨R, R, l⟩ b rows) from HR2.out.trans (by rw [← HSO.out]; rfl))
        have hl1 : s.1.length = R := hI.l1
        have hl2 : s.2.length = R := hI.l2
        have HI := Lib.hid hI
        clear hI HR2
        go_enter Tryz.func32, Tryz.ntmps32
        go_wp2_with fail
        rw [← HW1.out]
        have ma_0 := ma.c0; have ma_1 := ma.c1; have ma_2 := ma.c2; have ma_l := ma.lt; have ma_f := ma.fz
        refine (CD'.out _ (by exact Rd.grows ha1 (by exact bel0))).mono ?_; rintro e w2 ⟨rfl, g_w2⟩
        have s_w2 := Below.size g_w2; (try simp at s_w2)
        clear ma_0 ma_1 ma_2 ma_l ma_f
        replace ma := ma.grows (w' := w2) (by exact bel1 g_w2)
        have ma_0 := ma.c0; have ma_1 := ma.c1; have ma_2 := ma.c2; have ma_l := ma.lt; have ma_f := ma.fz
        replace ha1 := ha1.grows (w' := w2) (by exact bel1 g_w2)
        replace HG : Grows w w2 := by exact bel2 g_w2 HG
        have h_w2 := Below.size HG
        go_wp2_with fail
        refine (CB.out _).mono ?_; rintro e w3 ⟨rfl, rfl⟩
        go_wp2_with fail
        refine (CA.out _ (by exact Rd.grows ha1 (by exact bel0))).mono ?_; rintro e w5 ⟨Am, cm, As, cs, mu, sq, rfl, hrm, hrs, heq, g_w5⟩
        have s_w5 := Below.size g_w5; (try simp at s_w5)
        clear ma_0 ma_1 ma_2 ma_l ma_f
        replace ma := ma.grows (w' := w5) (by exact bel1 g_w5)
        have ma_0 := ma.c0; have ma_1 := ma.c1; have ma_2 := ma.c2; have ma_l := ma.lt; have ma_f := ma.fz
        replace ha1 := ha1.grows (w' := w5) (by exact bel1 g_w5)
        replace HG : Grows w w5 := by exact bel2 g_w5 HG
        have h_w5 := Below.size HG
        obtain rfl := heq s rfl
        simp only at hl1 hl2
        rw [hl1, hl2]
        simp only [Option.isSome_some]
        clear CD' CA CB heq
        have hbm := ma.lt
        have CP0 := sTreeAll_c mu sq w5 R Am As cm cs HI.out (by omega) hrm hrs R (Nat.le_refl R)
        have CP := Lib.hid fun Ax cx W hx (g : Grows w5 W) => CP0 (List.replicate R 0) (wholeQ b) Ax cx W (by simp) hx g
        have hwR : IntKind.i64.wrap ((R : Int) - 1) = (R : Int) - 1 := IntWalk.i64_in _ (by omega)
        clear CP0
        go_upto_region 6 with fail
        (refine wp_region_heldL (fun W => W.cell? ⟨w.heap.size, 0, none⟩ = some (.int .i64 R)) (by kernel_rfl) (by ((try dsimp only); (first | exact mm10.c0 | exact (ma.grows (by exact bel1 g7)).c0 | exact ma.c0 | exact (ma.grows (by exact bel0)).c0))) (fun hHeld => ?_); refine heldL_take (i := 0) (v := _) (by rfl) (by kernel_rfl) (by kernel_rfl) (by kernel_rfl) (fun _ _ _ h => h) (Or.inl ⟨by rfl, fun wS hSw => by ((try dsimp only at hSw); go_simp; (try with_reducible rfl))⟩) (by assumption) ?_; simp only [Act.put, List.setIfInBounds_toArray, List.set_cons_zero, List.set_cons_succ]; refine heldL_take (i := 1) (v := _) (by rfl) (by kernel_rfl) (by kernel_rfl) (by kernel_rfl) (fun _ _ _ h => h) (Or.inl ⟨by rfl, fun wS hSw => by ((try dsimp only at hSw); go_simp; (try with_reducible rfl))⟩) (by assumption) ?_; simp only [Act.put, List.setIfInBounds_toArray, List.set_cons_zero, List.set_cons_succ]; refine heldL_take (i := 2) (v := _) (by rfl) (by kernel_rfl) (by kernel_rfl) (by kernel_rfl) (fun _ _ _ h => h) (Or.inl ⟨by rfl, fun wS hSw => by ((try dsimp only at hSw); go_simp; (try with_reducible rfl))⟩) (by assumption) ?_; simp only [Act.put, List.setIfInBounds_toArray, List.set_cons_zero, List.set_cons_succ]; refine heldL_take (i := 3) (v := _) (by rfl) (by kernel_rfl) (by kernel_rfl) (by kernel_rfl) (fun _ _ _ h => h) (Or.inl ⟨by rfl, fun wS hSw => by ((try dsimp only at hSw); go_simp; (try with_reducible rfl))⟩) (by assumption) ?_; simp only [Act.put, List.setIfInBounds_toArray, List.set_cons_zero, List.set_cons_succ]; refine heldL_take (i := 4) (v := _) (by rfl) (by kernel_rfl) (by kernel_rfl) (by kernel_rfl) (fun _ _ _ h => h) (Or.inl ⟨by rfl, fun wS hSw => by ((try dsimp only at hSw); go_simp; (try with_reducible rfl))⟩) (by assumption) ?_; simp only [Act.put, List.setIfInBounds_toArray, List.set_cons_zero, List.set_cons_succ]; refine heldL_take (i := 5) (v := _) (by rfl) (by kernel_rfl) (by kernel_rfl) (by kernel_rfl) (fun _ _ _ h => h) (Or.inl ⟨by rfl, fun wS hSw => by ((try dsimp only at hSw); go_simp; (try with_reducible rfl))⟩) (by assumption) ?_; simp only [Act.put, List.setIfInBounds_toArray, List.set_cons_zero, List.set_cons_succ]; refine heldL_take (i := 6) (v := _) (by rfl) (by kernel_rfl) (by kernel_rfl) (by kernel_rfl) (fun _ _ _ h => h) (Or.inl ⟨by rfl, fun wS hSw => by ((try dsimp only at hSw); go_simp; (try with_reducible rfl))⟩) (by assumption) ?_; simp only [Act.put, List.setIfInBounds_toArray, List.set_cons_zero, List.set_cons_succ]; refine heldL_take (i := 8) (v := _) (by rfl) (by kernel_rfl) (by kernel_rfl) (by kernel_rfl) (fun _ _ _ h => h) (Or.inl ⟨by rfl, fun wS hSw => by ((try dsimp only at hSw); go_simp; (try with_reducible rfl))⟩) (by assumption) ?_; simp only [Act.put, List.setIfInBounds_toArray, List.set_cons_zero, List.set_cons_succ]; refine heldL_take (i := 9) (v := _) (by rfl) (by kernel_rfl) (by kernel_rfl) (by kernel_rfl) (fun _ _ _ h => h) (Or.inl ⟨by rfl, fun wS hSw => by ((try dsimp only at hSw); go_simp; (try with_reducible rfl))⟩) (by assumption) ?_; simp only [Act.put, List.setIfInBounds_toArray, List.set_cons_zero, List.set_cons_succ]; refine heldL_step (i := 7) (by kernel_rfl) (by rfl) (fun K hK => ?_); (refine step_makeI rfl (.tmp 41) (.tmp 41) rfl _ R (by rfl) (by rfl) (by omega) ?_; intro w7 hx7 g7; have hx7 : Own w7 w5.heap.size (.slice (some ⟨w5.heap.size, 0, none⟩) R R) (List.replicate R 0) := hx7; have g7 : Grows w5 w7 := Grows.trans (show Grows w5 _ by exact bel0) g7) ; refine hK.out _ _ (by ((try dsimp only); (first | exact mm10.c0 | exact (ma.grows (by exact bel1 g7)).c0 | exact ma.c0 | exact (ma.grows (by exact bel0)).c0))) (fun hHeld => ?_); clear hK K; (try simp only [Act.put, List.setIfInBounds_toArray, List.set_cons_zero, List.set_cons_succ]); refine heldL_step (i := 10) (by kernel_rfl) (by rfl) (fun K hK => ?_); go_simp; (refine (CP.out _ _ _ (by exact (Rd.grows hx7.rd_ (by exact bel0))) (by exact bel1 g7)).mono ?_; rintro e w10 ⟨rows, A4, c4, vs, bad, rfl, hPF, o10, hLl, g10⟩; have mm10 : MBox w10 w.heap.size R R (.slice A n cap) := (ma.grows g7).grows (by exact bel1 g10)) ; (try (go_wp2_with fail)); refine hK.out _ _ (by ((try dsimp only); (first | exact mm10.c0 | exact (ma.grows (by exact bel1 g7)).c0 | exact ma.c0 | exact (ma.grows (by exact bel0)).c0))) (fun hHeld => ?_); clear hK K; (try simp only [Act.put, List.setIfInBounds_toArray, List.set_cons_zero, List.set_cons_succ]); refine heldL_take (i := 11) (v := _) (by rfl) (by kernel_rfl) (by kernel_rfl) (by kernel_rfl) (fun _ _ _ h => h) (Or.inl ⟨by rfl, fun wS hSw => by ((try dsimp only at hSw); go_simp; (try with_reducible rfl))⟩) (by assumption) ?_; simp only [Act.put, List.setIfInBounds_toArray, List.set_cons_zero, List.set_cons_succ]; refine heldL_take (i := 12) (v := _) (by rfl) (by kernel_rfl) (by kernel_rfl) (by kernel_rfl) (fun _ _ _ h => h) (Or.inl ⟨by rfl, fun wS hSw => by ((try dsimp only at hSw); go_simp; (try with_reducible rfl))⟩) (by assumption) ?_; simp only [Act.put, List.setIfInBounds_toArray, List.set_cons_zero, List.set_cons_succ]; refine heldL_take (i := 13) (v := _) (by rfl) (by kernel_rfl) (by kernel_rfl) (by kernel_rfl) (fun _ _ _ h => h) (Or.inl ⟨by rfl, fun wS hSw => by ((try dsimp only at hSw); go_simp; (try with_reducible rfl))⟩) (by assumption) ?_; simp only [Act.put, List.setIfInBounds_toArray, List.set_cons_zero, List.set_cons_succ]; refine heldL_take (i := 14) (v := _) (by rfl) (by kernel_rfl) (by kernel_rfl) (by kernel_rfl) (fun _ _ _ h => h) (Or.inl ⟨by rfl, fun wS hSw => by ((try dsimp only at hSw); go_simp; (try with_reducible rfl))⟩) (by assumption) ?_; simp only [Act.put, List.setIfInBounds_toArray, List.set_cons_zero, List.set_cons_succ]; refine heldL_take (i := 15) (v := _) (by rfl) (by kernel_rfl) (by kernel_rfl) (by kernel_rfl) (fun _ _ _ h => h) (Or.inl ⟨by rfl, fun wS hSw => by ((try dsimp only at hSw); go_simp; (try with_reducible rfl))⟩) (by assumption) ?_; simp only [Act.put, List.setIfInBounds_toArray, List.set_cons_zero, List.set_cons_succ]; refine wpAnyH_done (by kernel_rfl) ?_ _; refine NoPanic.normal ?_)
        have HG10 : Grows w w10 := by exact bel3 g10 g7 HG
        have ha10 := ha.grows HG10
        have ma10 := mm10
        have hb4 : rows.length ≤ 24001 := by omega
        have hTR := PF.tree hPF
        clear CP ma_0 ma_1 ma_2 ma_l ma_f mm10 hrm hrs ma ha1 HW1 g7 g10 hx7
        cases bad
        rotate_left
        · obtain rfl : RES = none := HR3.out.trans (by rw [show treeO mu sq R (List.replicate R 0) (b, 1) = none from hTR]; rfl)
          go_wp2_with fail
          go_ret2
          exact ⟨_, _, rfl, rdR_nil _ _, by exact bel1 HG10⟩
        · have hRES : RES = some (putsK [] (shL ⟨R, R, l⟩ b rows)) := HR3.out.trans (by rw [show treeO mu sq R (List.replicate R 0) (b, 1) = some rows from hTR]; rfl)
          have hTT : TreeR mu sq R (List.replicate R 0) (b, 1) (some rows) := by
            obtain ⟨o, h1, h2, h3⟩ := hPF
            cases o with
            | none => cases h2
            | some y => obtain rfl := h3 y rfl; exact h1
          have HFL := Lib.hid fun (v : List Int) (hv : v ∈ rows) => show v.length = R from by
            have := (hTT.cells hv).1
            rwa [List.length_replicate] at this
          have HTB := Lib.hid fun (v : List Int) (hv : v ∈ rows) (ho : vOk R R l v = true) => tree_bound (s := (mu, sq)) HDEF.out HSO.out.symm hb0 hb1 (by simp) hTT hv ho
          rw [← shU_all] at hRES
          have HRES := Lib.hid hRES
          clear hTR hPF HR3 HSO HI hRES hTT
          simp only [Bool.not_false]
          go_wp2_with fail
          go_loopw [11, 12, 13] (fun o v i wr => ∃ (I : Nat) (A' : Option Addr) (c' : Nat) (B' : Option Addr) (d' : Nat), i = .int .i64 I ∧ I ≤ rows.length ∧ o = .slice A' (shU ⟨R, R, l⟩ b rows I).length c' ∧ v = .slice B' (shU ⟨R, R, l⟩ b rows I).length d' ∧ RdR RSI wr A' (rowsK (shU ⟨R, R, l⟩ b rows I)) ∧ Rd wr B' (keysK (shU ⟨R, R, l⟩ b rows I)) ∧ (shU ⟨R, R, l⟩ b rows I).length ≤ c' ∧ (shU ⟨R, R, l⟩ b rows I).length ≤ d' ∧ c' ≤ 9223372036854775807 ∧ d' ≤ 9223372036854775807 ∧ Grows w10 wr) (fun _ _ i _ => rows.length - (intOf i).toNat)
          case atStart => exact ⟨0, _, _, _, _, rfl, Nat.zero_le _, rfl, rfl, rdR_nil _ _, Rd.nil _ _, Nat.zero_le _, Nat.zero_le _, by decide, by decide, by exact bel0⟩
          case round =>
            obtain ⟨I, A5, c5, B5, d5, rfl, hI, rfl, rfl, hrA, hrB, hk1, hk2, hk3, hk4, hg5⟩ := hrel
            by_cases hlt : I < rows.length
            · have i1 : (I : Int) < (rows.length : Int) := by omega
              obtain ⟨b8, o8, A6, c6, rfl, hb8, hc8, hr6, he6, how6⟩ := (o10.grows hg5).cellAt hlt
              have hcap6 := how6.caps.2
              have hxl : (rows.getD I []).length = R := HFL.out _ (rowsD_mem hlt)
              have ma5 := ma10.grows hg5
              obtain ⟨m0, m1, m2⟩ := ma5.cells
              have x0 := ma5.ext.1; have x1 := ma5.ext.2.1; have x2 := ma5.ext.2.2; have x3 := ext_is hc8
              have ha5 := ha10.grows hg5
              have hUL := shU_len (g := ⟨R, R, l⟩) (b := b) (rows := rows) (i := I)
              have HUM := Lib.hid (show ∀ k ∈ shU ⟨R, R, l⟩ b rows I, k.2.length = (rows.getD I []).length from fun k hk => by rw [hxl]; exact HFL.out _ (shU_mem hk))
              have K1 := Lib.hid fun h => shU_none (g := ⟨R, R, l⟩) (b := b) hlt (shK_no1 (g := ⟨R, R, l⟩) (b := b) h)
              have K2 := Lib.hid fun h => shU_none (g := ⟨R, R, l⟩) (b := b) hlt (shK_no2 (g := ⟨R, R, l⟩) (b := b) h)
              have K3 := Lib.hid fun h => shU_none (g := ⟨R, R, l⟩) (b := b) hlt (shK_no3 (g := ⟨R, R, l⟩) (b := b) h)
              have K4 := Lib.hid fun h1 h2 h3 => shU_some (g := ⟨R, R, l⟩) (b := b) hlt (shK_yes (g := ⟨R, R, l⟩) (b := b) h1 h2 h3)
              have CP := Lib.hid fun W h => l20Pos_c A6 (rows.getD I []) (rows.getD I []).length c6 W rfl h (by omega)
              have CW := Lib.hid fun W h h' => CV.out A6 (rows.getD I []) c6 W h h' (by omega)
              simp only at K1 K2 K3 K4
              have CPT := Lib.hid fun z W h1 h2 h3 => l20Put_c (shU ⟨R, R, l⟩ b rows I) A5 B5 A6 (rows.getD I []) z (shU ⟨R, R, l⟩ b rows I).length c5 d5 (rows.getD I []).length c6 W rfl h1 h2 h3 rfl hcap6.1 HUM.out hk1 hk2 hk3 hk4 (by omega) (by omega)
              have HVB := Lib.hid fun h => HTB.out _ (rowsD_mem hlt) h
              have HPL := Lib.hid fun v => putK_length (shU ⟨R, R, l⟩ b rows I) v
              clear he6 how6 hxl
              generalize vVal R R l (rows.getD I []) = V at *
              generalize vOk R R l (rows.getD I []) = OK at *
              generalize posV (rows.getD I []) = PV at *
              generalize rows.getD I [] = x at *
              generalize shU ⟨R, R, l⟩ b rows I = S at *
              cases OK
              · have HNX := Lib.hid (K2.out rfl)
                clear K1 K2 K3 K4
                go_wp2_with fail
                ((refine wp_region_ext (by kernel_rfl) (by kernel_rfl) ?_); (repeat (go_big_quiet_step ((go_at_call 58; with_reducible exact extC (CW.out _ (Rd.ext ha5 _) (Rd.ext hr6 _)))))); refine wpQuiet_nil ?_; rintro w6 ⟨w60, hw60⟩; have g6 := grows_of_ext hw60; clear hw60 w60)
                go_wp2_with fail
                go_round
                case rel => exact ⟨I + 1, A5, c5, B5, d5, by go_num, by omega, by rw [HNX.out], by rw [HNX.out], by rw [HNX.out]; exact hrA.grows RSI.good g6, by rw [HNX.out]; exact hrB.grows g6, by rw [HNX.out]; exact hk1, by rw [HNX.out]; exact hk2, hk3, hk4, by exact bel2 g6 hg5⟩
                case measure => simp [intOf]; omega
              · have hVb : V ≤ b := HVB.out rfl
                cases PV
                · have HNX := Lib.hid (K1.out rfl)
                  clear K1 K2 K3 K4
                  go_wp2_with fail
                  ((refine wp_region_ext (by kernel_rfl) (by kernel_rfl) ?_); (repeat (go_big_quiet_step ((go_at_call 58; with_reducible exact extC (CW.out _ (Rd.ext ha5 _) (Rd.ext hr6 _)))))); refine wpQuiet_nil ?_; rintro w6 ⟨w60, hw60⟩; have g6 := grows_of_ext hw60; clear hw60 w60)
                  have hc9 : w6.cell? ⟨b8, o8 + I, none⟩ = some (.slice A6 x.length c6) := (g6.cell (p := ⟨b8, o8 + I, none⟩) hb8).trans hc8
                  go_wp2_with fail
                  refine (CP.out _ (by exact (Rd.grows hr6 (by exact bel1 g6)))).mono ?_; rintro e w7 ⟨rfl, rfl⟩
                  go_wp2_with fail
                  go_round
                  case rel => exact ⟨I + 1, A5, c5, B5, d5, by go_num, by omega, by rw [HNX.out], by rw [HNX.out], by rw [HNX.out]; exact hrA.grows RSI.good g6, by rw [HNX.out]; exact hrB.grows g6, by rw [HNX.out]; exact hk1, by rw [HNX.out]; exact hk2, hk3, hk4, by exact bel2 g6 hg5⟩
                  case measure => simp [intOf]; omega
                · have HNX := Lib.hid (K4.out rfl rfl hVb)
                  clear K1 K2 K3 K4
                  go_wp2_with fail
                  ((refine wp_region_ext (by kernel_rfl) (by kernel_rfl) ?_); (repeat (go_big_quiet_step ((go_at_call 58; with_reducible exact extC (CW.out _ (Rd.ext ha5 _) (Rd.ext hr6 _)))))); refine wpQuiet_nil ?_; rintro w6 ⟨w60, hw60⟩; have g6 := grows_of_ext hw60; clear hw60 w60)
                  have hc9 : w6.cell? ⟨b8, o8 + I, none⟩ = some (.slice A6 x.length c6) := (g6.cell (p := ⟨b8, o8 + I, none⟩) hb8).trans hc8
                  go_wp2_with fail
                  refine (CP.out _ (by exact (Rd.grows hr6 (by exact bel1 g6)))).mono ?_; rintro e w7 ⟨rfl, rfl⟩
                  go_wp2_with fail
                  refine (CPT.out _ _ (hrA.grows RSI.good g6) (hrB.grows g6) (by exact (Rd.grows hr6 (by exact bel1 g6)))).mono ?_; rintro e w8 ⟨A9, c9, B9, d9, rfl, q1, q2, q3, q4, q5, q6, g8⟩
                  go_wp2_with fail
                  go_round
                  case rel => exact ⟨I + 1, A9, c9, B9, d9, by go_num, by omega, by rw [HNX.out, HPL.out], by rw [HNX.out, HPL.out], by rw [HNX.out]; exact q1, by rw [HNX.out]; exact q2, by rw [HNX.out, HPL.out]; exact q3, by rw [HNX.out, HPL.out]; exact q4, q5, q6, by exact bel3 g8 g6 hg5⟩
                  case measure => simp [intOf]; omega
            · obtain rfl : I = rows.length := by omega
              obtain rfl : RES = some (shU ⟨R, R, l⟩ b rows rows.length) := HRES.out
              have HRL := rowsK_length (shU ⟨R, R, l⟩ b rows rows.length)
              have HRL' := Lib.hid HRL
              clear HRL
              go_wp2_with fail
              go_ret2
              exact ⟨A5, c5, by rw [show oRows (some (shU ⟨R, R, l⟩ b rows rows.length)) = rowsK (shU ⟨R, R, l⟩ b rows rows.length) from rfl, HRL'.out]; rfl, hrA, by exact bel2 hg5 HG10⟩
end
end Go.Proofs.YtfilbjbogggaoaaGreat

/- Plain: how many vectors the search finds at most, and how long they are. -/
namespace Go.Proofs.YtfilbjbogggaoaaGreat
set_option linter.unusedSimpArgs false
set_option linter.unusedVariables false
open Go.RowKit

theorem Swp.len {T : Int → Q2 → Option VS → Prop} {rest : Int → Q2} {st n : Int} {out : VS} {o : Option VS} {N : Nat} (hT : ∀ m q more, T m q (some more) → more.length ≤ N) (h : Swp T rest st n out o) {r : VS} (ho : o = some r) (hl : out.length ≤ 4000 + N) : r.length ≤ 4000 + N := by
  induction h with
  | bad => cases ho
  | stop => cases ho; exact hl
  | fail => cases ho
  | next _ h2 _ h4 _ ih =>
    have := hT _ _ _ h4
    exact ih ho (by rw [List.length_append]; omega)
theorem TreeR.len {mu : List (List Q2)} {sq : List Q2} : ∀ {k : Nat} {x : List Int} {left : Q2} {L : VS}, TreeR mu sq k x left (some L) → L.length ≤ 4000 * k + 1
  | 0, x, left, L, h => by
    unfold TreeR at h
    cases h
    simp
  | i + 1, x, left, L, h => by
    unfold TreeR at h
    obtain ⟨o1, h1, h2, h3⟩ := h
    cases o1 with
    | none => cases h2 rfl
    | some out =>
      have hT : ∀ (m : Int) (q : Q2) (more : VS), TreeR mu sq i (x.set i m) q (some more) → more.length ≤ 4000 * i + 1 := fun m q more h => TreeR.len h
      have a := Swp.len hT h1 rfl (by simp)
      have b := Swp.len hT (h3 out rfl) rfl a
      omega
theorem sbt_parts {g : MX} {b : Int} {s : List KV} (h : sbtO g b = some s) : ∃ (R : Nat) (L : VS), R ≤ 6 ∧ s = putsK [] (shL g b L) ∧ L.length ≤ 24001 ∧ ∀ v ∈ L, v.length = R := by
  unfold sbtO at h
  split at h
  · rename_i hh
    simp only [Bool.and_eq_true] at hh
    obtain ⟨_, R, e1, _, hR, _⟩ := isSq_nat (isDef_sq hh.1)
    obtain ⟨a, _, h2⟩ := Option.bind_eq_some_iff.1 h
    obtain ⟨L, h3, rfl⟩ := Option.map_eq_some_iff.1 h2
    have ht : TreeR a.1 a.2 g.r.toNat (List.replicate g.r.toNat 0) (b, 1) (some L) := by
      unfold treeO at h3
      split at h3
      · rename_i hx
        have := hx.choose_spec
        rwa [h3] at this
      · cases h3
    have hl := ht.len
    refine ⟨R, L, hR, rfl, by omega, fun v hv => ?_⟩
    have := (ht.cells hv).1
    rw [List.length_replicate] at this
    omega
  · cases h
theorem sbt_len (g : MX) (b : Int) : (oRows (sbtO g b)).length ≤ 24001 := by
  cases h : sbtO g b with
  | none => simp [oRows, rowsK]
  | some s =>
    show (rowsK s).length ≤ 24001
    rw [rowsK_length]
    obtain ⟨R, L, _, rfl, hl, _⟩ := sbt_parts h
    rw [(putsK_perm (l := []) (r := shL g b L)).length_eq, List.nil_append]
    unfold shL
    exact Nat.le_trans (List.length_filterMap_le _ _) hl
theorem sbt_row {g : MX} {b : Int} {s : List KV} (h : sbtO g b = some s) {k : KV} (hk : k ∈ s) : k.2.length ≤ 6 := by
  obtain ⟨R, L, hR, rfl, _, hv⟩ := sbt_parts h
  have hm : k ∈ shL g b L := by simpa using (putsK_perm (l := []) (r := shL g b L)).mem_iff.1 hk
  rw [hv _ (shL_mem hm).1]
  exact hR
end Go.Proofs.YtfilbjbogggaoaaGreat
