/- Contracts and lemmas, put together. -/
import Derived.Deep.RegionHeld3
import Derived.Test.YtbfkpfdkndnhkaaGreatPkB
import Derived.Test.YtbfkpfdkndnhkaaGreatPkD
import Derived.Test.YtbfkpfdkndnhkaaGreatPkTB
import Derived.Test.YtbfkpfdkndnhkaaGreatPkTC
/- Contracts: the search of short vectors cell by cell, the program's. -/
namespace Go.Proofs.YtbfkpfdkndnhkaaGreat
set_option linter.unusedSimpArgs false
set_option linter.unusedVariables false
open Go.RowKit
set_option linter.unusedVariables false

/-- the blocks that the search writes to: its variable and its cells -/
def TrS (b : Nat) (v : Value) (g : Nat) : Prop := g = b ∨ v.ownBlock = some g
/-- what a search gives -/
def PRet (mu : List (List Q2)) (sq : List Q2) (wK : World) (b R : Nat) (u v xv : Value) (k : Nat) (x : List Int) (left : Q2) (w : World) (e : Ending) (w' : World) : Prop :=
  ∃ (L : VS) (A : Option Addr) (c : Nat) (vs : List Value) (bad : Bool), e = .returned (.slice A L.length c) ∧ PF (TreeR mu sq k x left) L bad ∧ RowsO w' w.heap.size (.slice A L.length c) vs L ∧ L.length ≤ 4000 * k + 1 ∧ TBox w' b u v R xv bad ∧ Own w' wK.heap.size xv x ∧ Mv (TrS b xv) w w'
theorem RowsO.lit (w : World) {B : Nat} {u : Value} {z : List Int} (ho : Own w B u z) (hB : B ≤ w.heap.size) : RowsO (w.alloc (.cells #[u] 24)) B (.slice (some ⟨w.heap.size, 0, none⟩) 1 1) [u] [z] := by
  have key : ∀ (i : Nat) (u' : Value), [u][i]? = some u' → i = 0 ∧ u' = u := fun i u' h => by
    cases i with
    | zero => simp at h; exact ⟨rfl, h.symm⟩
    | succ i => simp at h
  refine ⟨rfl, ?_, fun i u' x h1 h2 => ?_, fun i u' h1 g hg => ?_, fun i j a a' h1 h2 hne => ?_⟩
  · have := World.ownsRow_lit (w := w) (base := B) (e := 24) (size := 1) #[u] 1 (by omega) (by simp [maxLen]) (by simp)
    simpa [OwnV] using this
  · obtain ⟨rfl, rfl⟩ := key i u' h1
    simp at h2
    subst h2
    exact ho.alloc _
  · obtain ⟨rfl, rfl⟩ := key i u' h1
    have := (World.ownsRow.lt ho g hg).2
    simp [Value.ownBlock]
    omega
  · obtain ⟨rfl, rfl⟩ := key i a h1
    obtain ⟨rfl, rfl⟩ := key j a' h2
    omega
section
set_option maxHeartbeats 8000000
set_option maxRecDepth 100000
theorem placeZ_c (mu : List (List Q2)) (sq : List Q2) (wK : World) (b R : Nat) (u v : Value) (Ax : Option Addr) (cx : Nat) (x : List Int) (left : Q2) (w : World) (hx : x.length = R) (hR : R ≤ 24) (hg : Grows wK w) (tb : TBox w b u v R (.slice Ax R cx) false) (ox : Own w wK.heap.size (.slice Ax R cx) x) :
    Calls Tryz.prog 25 #[.pointer (some ⟨b, 0, none⟩), .int .i64 (-1), .agg #[.int .i64 left.1, .int .i64 left.2]] w (PRet mu sq wK b R u v (.slice Ax R cx) 0 x left w) := by
  have hbl := tb.lt
  have c3 := tb.c3
  have HX := Lib.hid hx
  have rdx := ox.rd_
  clear hx
  go_enter Tryz.func25, Tryz.ntmps25
  go_wp2_with (at_builtin; refine wpList_app rfl (.tmp 18) (.tmp 22) rfl _ w.heap.size _ [] (by rfl) (Own.new_ _ (by simp) (by simp)) Ax x R cx (by rfl) HX.out (by exact (Rd.grows rdx (by exact bel0))) (by simp; have := HX.out; omega) (by simp; omega) ?_; intro v2 w2 ho2 hg2 hv2; rw [List.nil_append] at ho2; obtain ⟨A2, c2, rfl, _, _⟩ := ho2.val; have ho2 : Own w2 w.heap.size (.slice A2 x.length c2) x := ho2)
  have g2 : Grows w w2 := Below.trans (show Grows w (w.alloc (.cells #[.int .i64 left.1, .int .i64 left.2] 59)) by exact bel0) (Below.mono (Below.trans (show Below (w.heap.size + 1) _ ((w.alloc (.cells #[.int .i64 left.1, .int .i64 left.2] 59)).alloc (.cells #[] 3)) from (Below.refl _ _).alloc (by simp) _) ((Below.refl _ _).grown hg2 (by simp) (fun k hk => by have := World.ownsRow.lt (Own.new_ (B := w.heap.size + 1) (w.alloc (.cells #[.int .i64 left.1, .int .i64 left.2] 59)) (by simp) (by simp)) k hk; omega))) (by omega))
  go_ret
  refine ⟨[x], _, _, _, false, rfl, tree_zero, RowsO.lit w2 ho2 (Below.size g2), by simp, (tb.grows g2).grows (by exact bel0), (ox.grows g2).alloc _, .of_grows (by exact bel1 g2)⟩
/-- what a later level gives -/
def PIH (mu : List (List Q2)) (sq : List Q2) (wK : World) (b R : Nat) (u v xv : Value) (i : Nat) : Prop :=
  ∀ (x : List Int) (left : Q2) (w : World), x.length = R → (∀ t, t < i → nth x t = 0) → Grows wK w → TBox w b u v R xv false → Own w wK.heap.size xv x →
    Calls Tryz.prog 25 #[.pointer (some ⟨b, 0, none⟩), .int .i64 ((i : Int) - 1), .agg #[.int .i64 left.1, .int .i64 left.2]] w (PRet mu sq wK b R u v xv i x left w)
theorem cenQ_next (mu : List (List Q2)) (x : List Int) {i K : Nat} (h : i + 1 ≤ K) : cenQ mu x i (K + 1 - (i + 1)) = addQ (cenQ mu x i (K - (i + 1))) (mulQ (nthQ (mu.getD K []) i) (wholeQ (nth x K))) := by
  obtain ⟨t, rfl⟩ : ∃ t, K = i + 1 + t := ⟨K - (i + 1), by omega⟩
  rw [show i + 1 + t + 1 - (i + 1) = t + 1 from by omega, show i + 1 + t - (i + 1) = t from by omega, cenQ, mulQ_comm]
/-- what lies in memory within a level: the vectors found, the search's variable and cells, what is left, the center, the two steps -/
structure TI (wK w : World) (b R i gx cx : Nat) (u v : Value) (x : List Int) (left c : Q2) (cb gs : Nat) (L : VS) (A : Option Addr) (co : Nat) (vs : List Value) (bad : Bool) (y : Int) (wr : World) : Prop where
  rows : RowsO wr w.heap.size (.slice A L.length co) vs L
  box : TBox wr b u v R (.slice (some ⟨gx, 0, none⟩) R cx) bad
  own : Own wr wK.heap.size (.slice (some ⟨gx, 0, none⟩) R cx) (x.set i y)
  mv : Mv (TrS b (.slice (some ⟨gx, 0, none⟩) R cx)) w wr
  lq : QBox wr w.heap.size left
  cq : QBox wr cb c
  lt : Rd wr (some ⟨gs, 0, none⟩) [-1, 1]
  hc : w.heap.size < cb
  hg : w.heap.size < gs
  far : ∀ g, (Value.slice A L.length co).ownBlock = some g → g ≠ w.heap.size ∧ g ≠ cb ∧ g ≠ gs
section
variable {wK w wr w' : World} {b R i gx cx cb gs co : Nat} {u v : Value} {x : List Int} {left c : Q2} {L : VS} {A : Option Addr} {vs : List Value} {bad : Bool} {y : Int}
theorem TI.grows (h : TI wK w b R i gx cx u v x left c cb gs L A co vs bad y wr) (g : Grows wr w') : TI wK w b R i gx cx u v x left c cb gs L A co vs bad y w' :=
  ⟨h.rows.grows g, h.box.grows g, h.own.grows g, h.mv.right g, h.lq.grows g, h.cq.grows g, h.lt.grows g, h.hc, h.hg, h.far⟩
theorem QBox.far (h : QBox wr cb c) {p : Addr} (hp : p.block ≠ cb) (z : Value) : QBox (wr.setCell p z) cb c :=
  h.mv (S := fun g => g = p.block) (Mv.put (S := fun g => g = p.block) (Mv.refl wr) (p := p) (.inr rfl) z) (fun e => hp e.symm)
theorem Rd.far1 {l : List Int} (h : Rd wr (some ⟨gs, 0, none⟩) l) {p : Addr} (hp : p.block ≠ gs) (z : Value) : Rd (wr.setCell p z) (some ⟨gs, 0, none⟩) l := fun k hk => by
  obtain ⟨b, o, e, h1, h2⟩ := h k hk
  cases e
  have hm : Mv (fun g => g = p.block) wr (wr.setCell p z) := Mv.put (S := fun g => g = p.block) (Mv.refl wr) (p := p) (.inr rfl) z
  exact ⟨gs, 0, rfl, Nat.lt_of_lt_of_le h1 hm.size, (hm.cell (p := ⟨gs, 0 + k, none⟩) h1 (fun e => hp e.symm)).trans h2⟩
theorem TI.step0 (h : TI wK w b R i gx cx u v x left c cb gs L A co vs bad y wr) : wr.cell? ⟨gs, 0, none⟩ = some (.int .i64 (-1)) ∧ wr.cell? ⟨gs, 1, none⟩ = some (.int .i64 1) ∧ gs < wr.heap.size := by
  obtain ⟨b0, o0, e0, h0, c0⟩ := h.lt 0 (by simp)
  obtain ⟨b1, o1, e1, h1, c1⟩ := h.lt 1 (by simp)
  cases e0
  cases e1
  exact ⟨c0, c1, h0⟩
theorem TI.fail (h : TI wK w b R i gx cx u v x left c cb gs L A co vs bad y wr) (hb : b < w.heap.size) (hn : gx ≠ b) : TI wK w b R i gx cx u v x left c cb gs L A co vs true y (wr.setCell ⟨b, 4, none⟩ (.bool true)) :=
  ⟨h.rows.low hb _, h.box.put4 true, h.own.far (fun g hg => by simp [Value.ownBlock] at hg; show g ≠ b; omega) _, h.mv.put (.inr (.inl rfl)) _, h.lq.far (show b ≠ w.heap.size by omega) _, h.cq.far (show b ≠ cb by have := h.hc; omega) _, h.lt.far1 (show b ≠ gs by have := h.hg; omega) _, h.hc, h.hg, h.far⟩
theorem Own.put1 {w : World} {B g n cap : Nat} {l : List Int} (h : Own w B (.slice (some ⟨g, 0, none⟩) n cap) l) (hn : l.length = n) (i : Nat) (x : Int) : Own (w.setCell ⟨g, i, none⟩ (.int .i64 x)) B (.slice (some ⟨g, 0, none⟩) n cap) (l.set i x) := by
  subst hn; exact h.set _ _
theorem TI.cell (h : TI wK w b R i gx cx u v x left c cb gs L A co vs bad y wr) (hx : x.length = R) (hi : i < R) (hn : gx ≠ b) (hgw : gx < w.heap.size) (n : Int) : TI wK w b R i gx cx u v x left c cb gs L A co vs bad n (wr.setCell ⟨gx, i, none⟩ (.int .i64 n)) := by
  refine ⟨h.rows.low hgw _, h.box.far hn _, ?_, h.mv.put (.inr (.inr (by simp [Value.ownBlock]))) _, h.lq.far (show gx ≠ w.heap.size by omega) _, h.cq.far (show gx ≠ cb by have := h.hc; omega) _, h.lt.far1 (show gx ≠ gs by have := h.hg; omega) _, h.hc, h.hg, h.far⟩
  have := Own.put1 h.own (by simp; omega) i n
  rwa [List.set_set] at this
end
theorem Mv.app {S : Nat → Prop} {w w1 w2 : World} (h : Mv S w w1) {r : Option Nat} (g : w1.grownBy w2 r) (hr : ∀ k, r = some k → w.heap.size ≤ k) : Mv S w w2 :=
  ⟨g.os.trans h.os, g.tape.trans h.tape, g.output.trans h.output, Nat.le_trans h.size g.size, fun i hi hn => (g.block i (Nat.lt_of_lt_of_le hi h.size) (fun e => by have := hr i e.symm; omega)).trans (h.block i hi hn)⟩
theorem Rd.mv1 {S : Nat → Prop} {w w1 : World} {gs : Nat} {l : List Int} (h : Rd w (some ⟨gs, 0, none⟩) l) (m : Mv S w w1) (hS : ¬ S gs) : Rd w1 (some ⟨gs, 0, none⟩) l := fun k hk => by
  obtain ⟨b, o, e, h1, h2⟩ := h k hk
  cases e
  exact ⟨gs, 0, rfl, Nat.lt_of_lt_of_le h1 m.size, (m.cell (p := ⟨gs, 0 + k, none⟩) h1 hS).trans h2⟩
/-- behind a later level and the append of what it gives -/
theorem TI.next {wK w W W2 W3 : World} {b R i gx cx cb gs co co3 : Nat} {u v : Value} {x : List Int} {left c : Q2} {L M : VS} {A A3 : Option Addr} {vs us : List Value} {bad bad2 : Bool} {n : Int}
    (h : TI wK w b R i gx cx u v x left c cb gs L A co vs bad n W) (hb : b < w.heap.size) (hgx : gx < w.heap.size) (box2 : TBox W2 b u v R (.slice (some ⟨gx, 0, none⟩) R cx) bad2) (own2 : Own W2 wK.heap.size (.slice (some ⟨gx, 0, none⟩) R cx) (x.set i n)) (mv2 : Mv (TrS b (.slice (some ⟨gx, 0, none⟩) R cx)) W W2)
    (ho : RowsO W3 w.heap.size (.slice A3 (L ++ M).length co3) (vs ++ us) (L ++ M)) (hg : W2.grownBy W3 (Value.slice A L.length co).ownBlock) (hv : (Value.slice A3 (L ++ M).length co3).ownBlock = (Value.slice A L.length co).ownBlock ∨ ∃ g, (Value.slice A3 (L ++ M).length co3).ownBlock = some g ∧ W2.heap.size ≤ g) :
    TI wK w b R i gx cx u v x left c cb gs (L ++ M) A3 co3 (vs ++ us) bad2 n W3 := by
  have hlo : ∀ g, (Value.slice A L.length co).ownBlock = some g → w.heap.size ≤ g := fun g e => (h.rows.own.lt e).1
  have nts : ∀ g, w.heap.size ≤ g → ¬ TrS b (.slice (some ⟨gx, 0, none⟩) R cx) g := fun g hg h2 => by
    rcases h2 with h2 | h2
    · omega
    · simp [Value.ownBlock] at h2; omega
  have mvg : Mv (fun g => (Value.slice A L.length co).ownBlock = some g) W2 W3 := Mv.by1 hg fun g e => e
  have hc := h.hc
  have hgs := h.hg
  have l1 := h.lq.lt
  have l2 := h.cq.lt
  have l3 := h.step0.2.2
  have s2 := mv2.size
  exact ⟨ho, box2.mv mvg (fun e => by have := hlo _ e; omega), own2.mv mvg (fun g hg e => by simp [Value.ownBlock] at hg; have := hlo _ e; omega), (h.mv.trans mv2).app hg hlo,
    (h.lq.mv mv2 (nts _ (Nat.le_refl _))).mv mvg (fun e => (h.far _ e).1 rfl), (h.cq.mv mv2 (nts _ (by omega))).mv mvg (fun e => (h.far _ e).2.1 rfl), (h.lt.mv1 mv2 (nts _ (by omega))).mv1 mvg (fun e => (h.far _ e).2.2 rfl), hc, hgs, fun g e => by
      rcases hv with hv | ⟨g', hv, hle⟩
      · rw [hv] at e; exact h.far g e
      · rw [hv] at e; cases e; omega⟩
theorem tree_keep {W : World} {bl gy b bs fs : Nat} {left yq z : Q2} {u v : Value} {R : Nat} {xv : Value} {bad : Bool} (h1 : QBox W bl left) (h2 : QBox W gy yq) (h3 : TBox W b u v R xv bad) (h4 : W.cell? ⟨bs, fs, none⟩ = some (.int .i64 z.1)) (h5 : W.cell? ⟨bs, fs + 1, none⟩ = some (.int .i64 z.2)) :
    W.cell? ⟨bl, 0, none⟩ = some (.int .i64 left.1) ∧ W.cell? ⟨bl, 1, none⟩ = some (.int .i64 left.2) ∧ W.cell? ⟨gy, 0, none⟩ = some (.int .i64 yq.1) ∧ W.cell? ⟨gy, 1, none⟩ = some (.int .i64 yq.2) ∧ W.cell? ⟨b, 1, none⟩ = some v ∧ W.cell? ⟨bs, fs, none⟩ = some (.int .i64 z.1) ∧ W.cell? ⟨bs, fs + 1, none⟩ = some (.int .i64 z.2) := ⟨h1.c0, h1.c1, h2.c0, h2.c1, h3.c1, h4, h5⟩
theorem placeS_c (mu : List (List Q2)) (sq : List Q2) (wK : World) (b R i : Nat) (Am As : Option Addr) (cm cs : Nat) (Ax : Option Addr) (cx : Nat) (hI : AccI R (mu, sq)) (hR : R ≤ 24) (hi : i < R) (hm : RdR RSQ wK Am mu) (hs : RdQ wK As sq) (hb : wK.heap.size ≤ b) (hxb : ∀ g, (Value.slice Ax R cx).ownBlock = some g → g ≠ b)
    (IH : PIH mu sq wK b R (.slice Am R cm) (.slice As R cs) (.slice Ax R cx) i)
    (x : List Int) (left : Q2) (w : World) (hx : x.length = R) (hz : ∀ t, t < i + 1 → nth x t = 0) (hg : Grows wK w) (tb : TBox w b (.slice Am R cm) (.slice As R cs) R (.slice Ax R cx) false) (ox : Own w wK.heap.size (.slice Ax R cx) x) :
    Calls Tryz.prog 25 #[.pointer (some ⟨b, 0, none⟩), .int .i64 i, .agg #[.int .i64 left.1, .int .i64 left.2]] w (PRet mu sq wK b R (.slice Am R cm) (.slice As R cs) (.slice Ax R cx) (i + 1) x left w) := by
  obtain ⟨w1, hw1⟩ : ∃ w1, w1 = w.alloc (.cells #[.int .i64 left.1, .int .i64 left.2] 59) := ⟨_, rfl⟩
  have qbl : QBox w1 w.heap.size left := by rw [hw1]; exact QBox.new_ _ _ _ rfl
  have g01 : Grows w w1 := by rw [hw1]; exact bel0
  have hs1 : w1.heap.size = w.heap.size + 1 := by rw [hw1]; simp
  have HW1 := Lib.hid hw1
  obtain ⟨gx, rfl⟩ : ∃ gx, Ax = some ⟨gx, 0, none⟩ := by
    obtain ⟨g, c', e, _, _⟩ := Own.form ox (by omega)
    injection e with e1 _ _
    exact ⟨g, e1⟩
  have hgb : gx ≠ b := hxb gx (by simp [Value.ownBlock])
  have hgl := ox.lt
  have hbl := tb.lt
  have HX := Lib.hid hx
  have HI := Lib.hid hI
  have HIH := Lib.hid IH
  have HZ := Lib.hid hz
  have C0 := Lib.hid fun W => whole_c 0 W
  have hi24 : (i : Int) < 24 := by omega
  clear hw1 hx hI IH hz
  go_enter Tryz.func25, Tryz.ntmps25
  go_wp2_with fail
  rw [← HW1.out]
  refine (C0.out _).mono ?_; rintro e w2 ⟨rfl, g2⟩
  have hs2 := Below.size g2
  have g02 : Grows w w2 := by exact bel2 g2 g01
  have gK2 : Grows wK w2 := by exact bel2 g02 hg
  have qbl2 := qbl.grows g2
  have tb2 := tb.grows g02
  have ox2 := ox.grows g02
  clear qbl tb ox
  go_wp2_with fail
  go_loopw [8] (fun k wr => ∃ (K : Nat), k = .int .i64 K ∧ i + 1 ≤ K ∧ K ≤ R ∧ QBox wr w2.heap.size (cenQ mu x i (K - (i + 1))) ∧ Grows w2 wr) (fun k _ => R - (intOf k).toNat)
  case atStart => exact ⟨i + 1, by first | rfl | (simp; done) | go_num, Nat.le_refl _, by omega, by rw [Nat.sub_self]; exact QBox.new_ w2 (0, 1) 59 rfl, by exact bel0⟩
  case round =>
    obtain ⟨K, rfl, hK1, hK, qb, hgr⟩ := hrel
    have gwr : Grows w wr := by exact bel2 hgr g02
    have gKr : Grows wK wr := by exact bel2 hgr gK2
    have hsr := Below.size hgr
    have tbr := tb2.grows hgr
    have oxr := ox2.grows hgr
    have d2 := tbr.c2
    by_cases hlt : K < R
    · have hlt' : (K : Int) < (R : Int) := by omega
      have hiK : (i : Int) < (K : Int) := by omega
      have HNX := Lib.hid (cenQ_next mu x hK1)
      have hml : K < mu.length := by have := HI.out.l1; simp only at this; omega
      have hrl : (mu.getD K []).length = K := HI.out.row K hlt
      obtain ⟨bm, fm, Aj, cj, rfl, hbm, m0, hrj, hcj⟩ := (hm.grows RSQ.good gKr).rowQ K hml
      rw [hrl] at m0 hcj
      obtain ⟨bj, fj, rfl, hbj, j0, j1⟩ := hrj.at_ i (by rw [hrl]; omega)
      have x0 := oxr.cell K (by rw [HX.out]; exact hlt)
      have hbx := oxr.lt.2
      generalize nthQ (mu.getD K []) i = z at *
      generalize nth x K = y at *
      generalize cenQ mu x i (K - (i + 1)) = cc at *
      generalize mu.getD K [] = row at *
      have CW := Lib.hid fun W => whole_c y W
      have CM := Lib.hid fun W => iMultiplyRatios_c z (wholeQ y) W
      have CA := Lib.hid fun W => iAddRatios_c cc (mulQ z (wholeQ y)) W
      generalize addQ cc (mulQ z (wholeQ y)) = nx at *
      generalize mulQ z (wholeQ y) = p at *
      generalize wholeQ y = yq at *
      have e0 := ext_is tbr.c0
      have e3 := ext_is tbr.c3
      have q0e := ext_is qb.c0
      have q1e := ext_is qb.c1
      have m0e := ext_is m0
      have j0e := ext_is j0
      have j1e := ext_is j1
      have x0e := ext_is x0
      go_wp2_with fail
      ((refine wp_region_tail 22 (by kernel_rfl) (by kernel_rfl) ?_; simp only [List.take_succ_cons, List.take_zero, List.drop_succ_cons, List.drop_zero]); (repeat (go_big_quiet_step ((first | (go_at_call 26; with_reducible exact extC (CW.out _)) | (go_at_call 58; with_reducible exact extC (CM.out _)) | (go_at_call 61; with_reducible exact extC (CA.out _)))))); refine wpQuiet_nil ?_; rintro wc ⟨wc0, hwc0⟩; have gc := grows_of_ext hwc0; clear hwc0 wc0)
      have qbc := qb.grows gc
      obtain ⟨q0, q1⟩ := qbc.cells
      have qf := qbc.fz
      have qlc := qbc.lt
      clear e0 e3 q0e q1e m0e j0e j1e x0e
      go_wp2_with fail
      go_round
      case rel => exact ⟨K + 1, by go_num, by omega, by omega, by rw [HNX.out]; exact qbc.put _, by exact bel2 gc hgr⟩
      case measure => simp [intOf]; omega
    · have hKR : R = K := by omega
      subst hKR
      obtain ⟨c, hc⟩ : ∃ c, c = cenQ mu x i (R - (i + 1)) := ⟨_, rfl⟩
      rw [← hc] at qb
      have hc' : c = cenQ mu x i (x.length - (i + 1)) := by rw [HX.out]; exact hc
      have HC := Lib.hid hc'
      have CI0 := fun W => iIsRatio_c c.1 c.2 W
      change ∀ W, Calls Tryz.prog 59 #[.agg #[.int .i64 c.1, .int .i64 c.2]] W (fun e w' => e = .returned (.bool (okQ c)) ∧ Grows W w') at CI0
      have qlr := qbl2.grows hgr
      clear hc hc' tb2 ox2 qbl2 hlt
      obtain ⟨w3, rfl⟩ : ∃ x : World, x = wr := ⟨_, rfl⟩
      obtain ⟨q0, q1⟩ := qb.cells
      have ql := qb.lt
      cases hok : okQ c
      · rw [hok] at CI0
        have CI := Lib.hid CI0
        have HBAD := Lib.hid (tree_bad (mu := mu) (sq := sq) (i := i) (x := x) (left := left) (by rw [← HC.out]; exact hok) [])
        clear CI0 hok
        go_wp2_with fail
        refine (CI.out _).mono ?_; rintro e w4 ⟨rfl, g4⟩
        have tb4 := tbr.grows g4
        have ox4 := oxr.grows g4
        have hs4 := Below.size g4
        have d4 := tb4.c4
        have df := tb4.fz 4
        have dl := tb4.lt
        have gw4 : Grows w w4 := by exact bel2 g4 gwr
        clear q0 q1 ql d2
        go_wp2_with fail
        go_ret
        exact ⟨[], none, 0, [], true, rfl, HBAD.out, RowsO.nil _ _, by simp, tb4.put4 true, ox4.far (fun g hg => by simp [Value.ownBlock] at hg; show g ≠ b; omega) _, (Mv.of_grows gw4).put (.inr (.inl rfl)) _⟩
      · rw [hok] at CI0
        have CI := Lib.hid CI0
        have CN := Lib.hid fun W => iNeg_c c W
        have CR := Lib.hid fun W => iRoundQ_c (negQ c) W
        have hrb := roundQ_bd (negQ c)
        have HN2 := Lib.hid fun d L bad (h : P2 mu sq i x left c d L bad) hd => P2.dir h hd HC.out
        have HP0 := Lib.hid (show P2 mu sq i x left c 0 [] false from .inl ⟨rfl, rfl, rfl⟩)
        clear CI0 hok
        go_wp2_with fail
        refine (CI.out _).mono ?_; rintro e w4 ⟨rfl, g4⟩
        have qb4 := qb.grows g4
        have hs4 := Below.size g4
        have g3 : Grows w3 w4 := g4
        clear q0 q1 ql d2
        obtain ⟨q0, q1⟩ := qb4.cells
        have ql := qb4.lt
        go_wp2_with fail
        refine (CN.out _).mono ?_; rintro e w5 ⟨rfl, g5⟩
        have hs5 := Below.size g5
        (try simp at hs5)
        clear q0 q1 ql
        go_wp2_with fail
        refine (CR.out _).mono ?_; rintro e w6 ⟨rfl, g6⟩
        have hs6 := Below.size g6
        go_wp2_with fail
        obtain ⟨rs, hrs⟩ : ∃ rs, rs = roundQ (negQ c) := ⟨_, rfl⟩
        rw [← hrs] at hrb ⊢
        have HRS := Lib.hid hrs
        clear hrs CI CN CR
        have g36 : Grows w3 w6 := by exact bel3 g6 g5 g4
        have hcb : w.heap.size < w2.heap.size := by omega
        have h36 := Below.size g36
        have ti0 : TI wK w b R i gx cx (.slice Am R cm) (.slice As R cs) x left c w2.heap.size w6.heap.size [] (some ⟨w4.heap.size, 0, none⟩) 0 [] false 0 (w6.alloc (.cells #[.int .i64 (-1), .int .i64 1] 3)) := by
          have hset : x.set i 0 = x := by
            refine nth_ext (by simp) fun j hj => ?_
            rw [nth_set _ _ _ _ (by rw [HX.out]; omega)]
            by_cases e : j = i
            · rw [if_pos e, e, HZ.out i (by omega)]
            · rw [if_neg e]
          refine ⟨(((RowsO.new_ w4 rfl (by omega)).grows (w' := w5) (by exact bel1 g5)).grows g6).alloc _, (tbr.grows g36).grows (by exact bel0), by rw [hset]; exact (oxr.grows g36).alloc _, .of_grows (by exact bel2 g36 gwr), (qlr.grows g36).grows (by exact bel0), (qb.grows g36).grows (by exact bel0), fun k hk => ?_, by omega, by omega, fun g hg => by simp [Value.ownBlock] at hg; have := qb.lt; omega⟩
          match k with
          | 0 => exact ⟨w6.heap.size, 0, rfl, by simp, by simp [go_sem, nth]⟩
          | 1 => exact ⟨w6.heap.size, 0, rfl, by simp, by simp [go_sem, nth]⟩
          | k + 2 => simp at hk; omega
        clear tbr oxr qb qb4 qlr hgr gwr gKr hsr g4 g5 g6 g3
        go_loopw [9, 70] (fun s9 s70 wr => ∃ (d : Nat) (L : VS) (A : Option Addr) (co : Nat) (vs : List Value) (bad : Bool) (y : Int), s9 = .slice A L.length co ∧ s70 = .int .i64 d ∧ d ≤ 2 ∧ L.length ≤ 4000 * (i + 1) + 1 ∧ P2 mu sq i x left c d L bad ∧ TI wK w b R i gx cx (.slice Am R cm) (.slice As R cs) x left c w2.heap.size w6.heap.size L A co vs bad y wr) (fun _ j _ => 2 - (intOf j).toNat)
        case atStart => exact ⟨0, [], _, _, _, _, _, by first | rfl | (simp; done), rfl, by omega, by simp, HP0.out, ti0⟩
        case round =>
        clear ti0
        obtain ⟨d, L, A, co, vs, bad, y, rfl, rfl, hd, hL, hP, ti⟩ := hrel
        by_cases hd2 : d = 2
        · subst hd2
          have HDONE := Lib.hid hP.done
          have c3 := ti.box.c3
          have bl := ti.box.lt
          have xc := ti.own.cell i (by simp; have := HX.out; omega)
          have xf := ti.own.free i
          have xl := ti.own.lt.2
          have hiR : (i : Int) < (R : Int) := by omega
          have tz := ti.cell HX.out hi hgb hgl.2 0
          have hset : x.set i 0 = x := by
            refine nth_ext (by simp) fun j hj => ?_
            rw [nth_set _ _ _ _ (by rw [HX.out]; omega)]
            by_cases e : j = i
            · rw [if_pos e, e, HZ.out i (by omega)]
            · rw [if_neg e]
          have HSET := Lib.hid hset
          clear hset ti hP
          go_wp2_with fail
          go_ret
          exact ⟨L, A, co, vs, bad, rfl, HDONE.out, tz.rows, hL, tz.box, by have := tz.own; rwa [HSET.out] at this, tz.mv⟩
        obtain ⟨sg, n, F, hsg, hn, h3, hnx⟩ := HN2.out d L bad hP (by omega)
        rw [← HRS.out] at hn
        have hil : i < sq.length := by have := HI.out.l2; simp only at this; omega
        have hiR : (i : Int) < (R : Int) := by omega
        rcases (show d = 0 ∨ d = 1 by omega) with rfl | rfl
        --LOOPS
        · subst hsg
          have hn0 : n = rs := by rw [hn]; simp
          clear hn
          subst hn0
          obtain ⟨s0, s1, sl⟩ := ti.step0
          go_wp2_with fail
          obtain ⟨w7, rfl⟩ : ∃ x : World, x = wr := ⟨_, rfl⟩
          go_loopw [9, 13] (fun s9 s13 wr => ∃ (n : Int) (L : VS) (A : Option Addr) (co : Nat) (vs : List Value) (bad : Bool) (y : Int), s9 = .slice A L.length co ∧ s13 = .int .i64 n ∧ -400000001 ≤ n ∧ n ≤ 400000001 ∧ L.length ≤ 4000 * (i + 1) + 1 ∧ P3 (fun n q o => TreeR mu sq i (x.set i n) q o) (restQ left c (nthQ sq i)) (-1) F n L bad ∧ TI wK w b R i gx cx (.slice Am R cm) (.slice As R cs) x left c w2.heap.size w6.heap.size L A co vs bad y wr) (fun _ j _ => (400000003 - (-1) * intOf j).toNat)
          case atStart => exact ⟨_, L, A, co, vs, bad, y, rfl, rfl, by omega, by omega, hL, h3, ti⟩
          case round =>
            clear h3 ti s0 s1 sl
            obtain ⟨n, L, A, co, vs, bad, y, rfl, rfl, hn1, hn2, hL, h3, ti⟩ := hrel
            obtain ⟨w8, rfl⟩ : ∃ x : World, x = wr := ⟨_, rfl⟩
            have b4 := ti.box.c4
            have bl := ti.box.lt
            have bf := ti.box.fz 4
            cases bad
            rotate_left
            · have HF := Lib.hid (hnx _ _ h3.bad_)
              go_wp2_with fail
              go_round
              case rel => exact ⟨0 + 1, L, A, co, vs, true, y, rfl, by first | rfl | go_num, by omega, hL, HF.out, ti⟩
              case measure => simp [intOf]
            · by_cases hlen : 4000 < L.length
              · have hlen' : (4000 : Int) < (L.length : Int) := by omega
                have tf := ti.fail hbl hgb
                have HF := Lib.hid (hnx L _ (h3.full (.inr hlen)))
                go_wp2_with fail
                go_round
                case rel => exact ⟨0 + 1, L, A, co, vs, true, y, rfl, by first | rfl | go_num, by omega, hL, HF.out, tf⟩
                case measure => simp [intOf]
              · have hlen' : ¬ (4000 : Int) < (L.length : Int) := by omega
                have CW := Lib.hid fun W => whole_c n W
                have CA0 := fun W => iAddRatios_c (wholeQ n) c W
                obtain ⟨yq, hyq⟩ : ∃ q, q = addQ (wholeQ n) c := ⟨_, rfl⟩
                rw [← hyq] at CA0
                have CA := Lib.hid CA0
                have HYQ := Lib.hid hyq
                clear CA0 hyq
                go_upto_region 23 with fail
                go_cut [14] from 79 to 133 (fun s14 wx => ∃ gy : Nat, s14 = .pointer (some ⟨gy, 0, none⟩) ∧ QBox wx gy yq ∧ Grows w8 wx)
                case first =>
                  go_region_held3 (fun W => W.cell? ⟨w2.heap.size, 0, none⟩ = some (.int .i64 c.1) ∧ W.cell? ⟨w2.heap.size, 1, none⟩ = some (.int .i64 c.2)) ((refine QBox.cells (ti.cq.grows ?_); first | exact bel2 g11 g10 | exact bel1 g10 | exact bel0))
                    (first
                     | (go_at_call 26; refine (CW.out _).mono ?_; rintro e w10 ⟨rfl, g10⟩; have z10 := Below.size g10; (try simp at z10); (try (have q := (QBox.new_ w8 (0, 0) 59 rfl).grows (w' := w10) (Grows.trans (show Grows _ _ from (Below.refl _ _).drew) g10))))
                     | (go_at_call 61; refine (CA.out _).mono ?_; rintro e w11 ⟨rfl, g11⟩; have z11 := Below.size g11; (try simp at z11); (first | (replace q := q.grows g11) | (have q := QBox.grows (QBox.new_ w10 (0, 0) 59 rfl) g11) | skip); (try (obtain ⟨q0, q1⟩ := q.cells; have qf := q.fz; have ql := q.lt))))
                  all_goals
                    go_wp2_with fail
                    go_meet
                    exact ⟨_, rfl, by first | exact q.put _ | exact QBox.new_ _ _ _ rfl | exact (QBox.new_ _ (0, 0) _ rfl).put _, by exact bel2 g11 g10⟩
                case rest =>
                  obtain ⟨gy, rfl, qy, hg9⟩ := hcut
                  obtain ⟨w9, rfl⟩ : ∃ x : World, x = wc := ⟨_, rfl⟩
                  have ti9 := ti.grows hg9
                  have gK9 : Grows wK w9 := by
                    refine Mv.below (S := TrS b (.slice (some ⟨gx, 0, none⟩) R cx)) ((Mv.of_grows hg).trans ti9.mv) (Nat.le_refl _) fun g h => ?_
                    rcases h with h | h
                    · omega
                    · simp [Value.ownBlock] at h; omega
                  obtain ⟨bs, fs, rfl, hbs, z0, z1⟩ := (hs.grows gK9).at_ i hil
                  obtain ⟨z, hz⟩ : ∃ z, z = nthQ sq i := ⟨_, rfl⟩
                  rw [← hz] at z0 z1
                  have HZS := Lib.hid hz
                  have CM1 := fun W => iMultiplyRatios_c yq yq W
                  have CM2 := fun W => iMultiplyRatios_c (mulQ yq yq) z W
                  have CS0 := fun W => sub_c left (mulQ (mulQ yq yq) z) W
                  obtain ⟨rq, hrq⟩ : ∃ q, q = subQ left (mulQ (mulQ yq yq) z) := ⟨_, rfl⟩
                  have HRQ := Lib.hid (show rq = restQ left c (nthQ sq i) n by rw [hrq, ← HZS.out, HYQ.out]; rfl)
                  rw [← hrq] at CS0
                  generalize mulQ (mulQ yq yq) z = y3 at *
                  generalize mulQ yq yq = y2 at *
                  have CM1' := Lib.hid CM1
                  have CM2' := Lib.hid CM2
                  have CS' := Lib.hid CS0
                  have HK := Lib.hid fun W (g : Grows w9 W) => tree_keep (ti9.lq.grows g) (qy.grows g) (ti9.box.grows g) ((g.cell (p := ⟨bs, fs + i * 2, none⟩) hbs).trans z0) ((g.cell (p := ⟨bs, fs + i * 2 + 1, none⟩) hbs).trans z1)
                  clear CM1 CM2 CS0 hrq hz CW CA b4 bl bf z0 z1
                  go_upto_region 24 with fail
                  go_cut [15] from 79 to 133 (fun s15 wx => ∃ gr : Nat, s15 = .pointer (some ⟨gr, 0, none⟩) ∧ QBox wx gr rq ∧ w9.heap.size ≤ gr ∧ Grows w9 wx)
                  case first =>
                    go_region_held3 (fun W => W.cell? ⟨w.heap.size, 0, none⟩ = some (.int .i64 left.1) ∧ W.cell? ⟨w.heap.size, 1, none⟩ = some (.int .i64 left.2) ∧ W.cell? ⟨gy, 0, none⟩ = some (.int .i64 yq.1) ∧ W.cell? ⟨gy, 1, none⟩ = some (.int .i64 yq.2) ∧ W.cell? ⟨b, 1, none⟩ = some (.slice (some ⟨bs, fs, none⟩) R cs) ∧ W.cell? ⟨bs, fs + i * 2, none⟩ = some (.int .i64 z.1) ∧ W.cell? ⟨bs, fs + i * 2 + 1, none⟩ = some (.int .i64 z.2)) (exact HK.out _ (by first | exact bel3 g12 g11 g10 | exact bel2 g11 g10 | exact bel1 g10 | exact bel0))
                      (first
                       | (go_at_call 58; (with_reducible refine (CM1'.out _).mono ?_); rintro e w10 ⟨rfl, g10⟩; have z10 := Below.size g10; (try simp at z10); (try (have q := (QBox.new_ w9 (0, 0) 59 rfl).grows (w' := w10) (Grows.trans (show Grows _ _ from (Below.refl _ _).drew) g10))))
                       | (go_at_call 58; (with_reducible refine (CM2'.out _).mono ?_); rintro e w11 ⟨rfl, g11⟩; have z11 := Below.size g11; (try simp at z11); (first | (replace q := q.grows g11) | (have q := QBox.grows (QBox.new_ w10 (0, 0) 59 rfl) g11) | skip))
                       | (go_at_call 57; (with_reducible refine (CS'.out _).mono ?_); rintro e w12 ⟨rfl, g12⟩; have z12 := Below.size g12; (try simp at z12); (first | (replace q := q.grows g12) | (have q := QBox.grows (QBox.new_ w11 (0, 0) 59 rfl) g12) | skip); (try (obtain ⟨q0, q1⟩ := q.cells; have qf := q.fz; have ql := q.lt))))
                    all_goals
                      go_wp2_with fail
                      go_meet
                      exact ⟨_, rfl, by first | exact q.put _ | exact QBox.new_ _ _ _ rfl | exact (QBox.new_ _ (0, 0) _ rfl).put _, by first | omega | (simp; done) | (simp; omega), by exact bel3 g12 g11 g10⟩
                  case rest =>
                    obtain ⟨gr, rfl, qr, hgr9, hg10⟩ := hcut
                    obtain ⟨w10, rfl⟩ : ∃ x : World, x = wc := ⟨_, rfl⟩
                    have ti10 := ti9.grows hg10
                    have CI0 := fun W => iIsRatio_c rq.1 rq.2 W
                    change ∀ W, Calls Tryz.prog 59 #[.agg #[.int .i64 rq.1, .int .i64 rq.2]] W (fun e w' => e = .returned (.bool (okQ rq)) ∧ Grows W w') at CI0
                    have z9 := Below.size hg9
                    have zw8 := ti.mv.size
                    have hTS : ∀ g, TrS b (.slice (some ⟨gx, 0, none⟩) R cx) g → wK.heap.size ≤ g ∧ g < w.heap.size := fun g h => by
                      rcases h with h | h
                      · omega
                      · simp [Value.ownBlock] at h; omega
                    clear ti ti9 HK CM1' CM2' CS' HYQ HZS qy hg9 hg10 gK9 hbs
                    obtain ⟨r0, r1⟩ := qr.cells
                    have rl := qr.lt
                    cases hok : okQ rq
                    · rw [hok] at CI0
                      have CI := Lib.hid CI0
                      have HF := Lib.hid (hnx L _ (h3.full (.inl (by rw [← HRQ.out]; exact hok))))
                      clear CI0 hok
                      go_wp2_with fail
                      refine (CI.out _).mono ?_; rintro e w11 ⟨rfl, g11⟩
                      have ti11 := ti10.grows g11
                      have tf := ti11.fail hbl hgb
                      have b4 := ti11.box.c4
                      have bl := ti11.box.lt
                      have bf := ti11.box.fz 4
                      clear r0 r1 rl
                      go_wp2_with fail
                      go_round
                      case rel => exact ⟨0 + 1, L, A, co, vs, true, y, rfl, by first | rfl | go_num, by omega, hL, HF.out, tf⟩
                      case measure => simp [intOf]
                    · rw [hok] at CI0
                      have CI := Lib.hid CI0
                      have HOK := Lib.hid (show okQ (restQ left c (nthQ sq i) n) = true by rw [← HRQ.out]; exact hok)
                      clear CI0 hok
                      go_wp2_with fail
                      refine (CI.out _).mono ?_; rintro e w11 ⟨rfl, g11⟩
                      have ti11 := ti10.grows g11
                      have qr11 := qr.grows g11
                      clear r0 r1 rl
                      obtain ⟨r0, r1⟩ := qr11.cells
                      have rl := qr11.lt
                      by_cases hneg : rq.1 < 0
                      · have HF := Lib.hid (hnx L _ (h3.stop HOK.out (by omega) (by rw [← HRQ.out]; exact hneg)))
                        go_wp2_with fail
                        go_round
                        case rel => exact ⟨0 + 1, L, A, co, vs, false, y, rfl, by first | rfl | go_num, by omega, hL, HF.out, ti11⟩
                        case measure => simp [intOf]
                      · have b3 := ti11.box.c3
                        have bl := ti11.box.lt
                        have xc := ti11.own.cell i (by simp; have := HX.out; omega)
                        have xf := ti11.own.free i
                        have xl := ti11.own.lt.2
                        obtain ⟨w12, hw12⟩ : ∃ W, W = w11.setCell ⟨gx, i, none⟩ (.int .i64 n) := ⟨_, rfl⟩
                        have ti12 : TI wK w b R i gx cx (.slice Am R cm) (.slice (some ⟨bs, fs, none⟩) R cs) x left c w2.heap.size w6.heap.size L A co vs false n w12 := by rw [hw12]; exact ti11.cell HX.out hi hgb hgl.2 n
                        have qr12 : QBox w12 gr rq := by rw [hw12]; exact qr11.far (show gx ≠ gr by omega) _
                        have HW12 := Lib.hid hw12
                        have gK12 : Grows wK w12 := Mv.below ((Mv.of_grows hg).trans ti12.mv) (Nat.le_refl _) fun g h => (hTS g h).1
                        have CP := Lib.hid (HIH.out (x.set i n) rq w12 (by simp; exact HX.out) (fun t ht => by rw [nth_set _ _ _ _ (by rw [HX.out]; omega), if_neg (by omega)]; exact HZ.out t (by omega)) gK12 ti12.box ti12.own)
                        obtain ⟨_, _, _, hnlo, hnhi, _⟩ := restQ_parts HOK.out
                        have hwn : IntKind.i64.wrap (n + (-1)) = n + (-1) := IntWalk.i64_in _ (by omega)
                        have hwi : IntKind.i64.wrap ((i : Int) - 1) = (i : Int) - 1 := IntWalk.i64_in _ (by omega)
                        have HST := Lib.hid fun M bad2 h => h3.step (M := M) (bad := bad2) HOK.out (by omega) (by rw [← HRQ.out]; omega) h
                        have hTS1 : ∀ g, TrS b (.slice (some ⟨gx, 0, none⟩) R cx) g → g < w.heap.size := fun g h => (hTS g h).2
                        have zw12 := ti12.mv.size
                        clear hw12 hTS gK12 h3 ti10 ti11
                        go_upto_region 29 with fail
                        rw [← HW12.out]
                        clear r0 r1 rl b3 bl xc xf xl
                        obtain ⟨r0, r1⟩ := qr12.cells
                        have rl := qr12.lt
                        go_wp2_with fail
                        refine CP.out.mono ?_; rintro e w13 ⟨M, A2, c2, us, bad2, rfl, hPF, rows2, hM, box2, own2, mv2⟩
                        have hs13 := mv2.size
                        have hro := ti12.rows.mv mv2 hTS1
                        have hro1 : ∀ g, (Value.slice A L.length co).ownBlock = some g → g < w12.heap.size := fun g e => (ti12.rows.own.lt e).2
                        have hro2 : ∀ (k : Nat) (u : Value), vs[k]? = some u → ∀ g, u.ownBlock = some g → g < w12.heap.size := fun k u hk g e => (ti12.rows.lt hk e).2
                        have hLM : L.length + M.length ≤ 4000 * (i + 1) + 1 := by omega
                        rw [HRQ.out] at hPF
                        have HP4 := Lib.hid (HST.out M bad2 hPF)
                        have HNX4 := Lib.hid fun (W : World) (A3 : Option Addr) (co3 : Nat) ho hg hv => ti12.next (M := M) (us := us) (W3 := W) (A3 := A3) (co3 := co3) hbl hgl.2 box2 own2 mv2 ho hg hv
                        clear hPF r0 r1 rl
                        go_wp2_with (at_builtin; refine wpList_appOn rfl (.tmp 127) (.tmp 132) rfl _ w.heap.size w12.heap.size _ vs us L M A2 c2 (by rfl) (by rfl) hro rows2 (by omega) hro1 hro2 (by omega) (by omega) ?_; intro v14 w14 ho14 hg14 hv14; obtain ⟨A4, c4, rfl, _, _⟩ := ho14.val; have ti14 := HNX4.out _ _ _ ho14 hg14 hv14)
                        go_round
                        case rel => exact ⟨n + (-1), L ++ M, A4, c4, vs ++ us, bad2, n, by first | rfl | rw [List.length_append], by first | rfl | go_num, by omega, by omega, by rw [List.length_append]; exact hLM, HP4.out, ti14⟩
                        case measure => first | (simp [intOf]; omega) | (simp [intOf]; done)
        · subst hsg
          have hn1 : IntKind.i64.wrap (rs + 1) = rs + 1 := IntWalk.i64_in _ (by omega)
          have hn0 : n = rs + 1 := by rw [hn]; simp
          rw [show ((1 : Nat) : Int) = 1 from rfl]
          clear hn
          subst hn0
          obtain ⟨s0, s1, sl⟩ := ti.step0
          go_wp2_with fail
          obtain ⟨w7, rfl⟩ : ∃ x : World, x = wr := ⟨_, rfl⟩
          go_loopw [9, 13] (fun s9 s13 wr => ∃ (n : Int) (L : VS) (A : Option Addr) (co : Nat) (vs : List Value) (bad : Bool) (y : Int), s9 = .slice A L.length co ∧ s13 = .int .i64 n ∧ -400000001 ≤ n ∧ n ≤ 400000001 ∧ L.length ≤ 4000 * (i + 1) + 1 ∧ P3 (fun n q o => TreeR mu sq i (x.set i n) q o) (restQ left c (nthQ sq i)) 1 F n L bad ∧ TI wK w b R i gx cx (.slice Am R cm) (.slice As R cs) x left c w2.heap.size w6.heap.size L A co vs bad y wr) (fun _ j _ => (400000003 - 1 * intOf j).toNat)
          case atStart => exact ⟨_, L, A, co, vs, bad, y, rfl, rfl, by omega, by omega, hL, h3, ti⟩
          case round =>
            clear h3 ti s0 s1 sl
            obtain ⟨n, L, A, co, vs, bad, y, rfl, rfl, hn1, hn2, hL, h3, ti⟩ := hrel
            obtain ⟨w8, rfl⟩ : ∃ x : World, x = wr := ⟨_, rfl⟩
            have b4 := ti.box.c4
            have bl := ti.box.lt
            have bf := ti.box.fz 4
            cases bad
            rotate_left
            · have HF := Lib.hid (hnx _ _ h3.bad_)
              go_wp2_with fail
              go_round
              case rel => exact ⟨1 + 1, L, A, co, vs, true, y, rfl, by first | rfl | go_num, by omega, hL, HF.out, ti⟩
              case measure => simp [intOf]
            · by_cases hlen : 4000 < L.length
              · have hlen' : (4000 : Int) < (L.length : Int) := by omega
                have tf := ti.fail hbl hgb
                have HF := Lib.hid (hnx L _ (h3.full (.inr hlen)))
                go_wp2_with fail
                go_round
                case rel => exact ⟨1 + 1, L, A, co, vs, true, y, rfl, by first | rfl | go_num, by omega, hL, HF.out, tf⟩
                case measure => simp [intOf]
              · have hlen' : ¬ (4000 : Int) < (L.length : Int) := by omega
                have CW := Lib.hid fun W => whole_c n W
                have CA0 := fun W => iAddRatios_c (wholeQ n) c W
                obtain ⟨yq, hyq⟩ : ∃ q, q = addQ (wholeQ n) c := ⟨_, rfl⟩
                rw [← hyq] at CA0
                have CA := Lib.hid CA0
                have HYQ := Lib.hid hyq
                clear CA0 hyq
                go_upto_region 23 with fail
                go_cut [14] from 79 to 133 (fun s14 wx => ∃ gy : Nat, s14 = .pointer (some ⟨gy, 0, none⟩) ∧ QBox wx gy yq ∧ Grows w8 wx)
                case first =>
                  go_region_held3 (fun W => W.cell? ⟨w2.heap.size, 0, none⟩ = some (.int .i64 c.1) ∧ W.cell? ⟨w2.heap.size, 1, none⟩ = some (.int .i64 c.2)) ((refine QBox.cells (ti.cq.grows ?_); first | exact bel2 g11 g10 | exact bel1 g10 | exact bel0))
                    (first
                     | (go_at_call 26; refine (CW.out _).mono ?_; rintro e w10 ⟨rfl, g10⟩; have z10 := Below.size g10; (try simp at z10); (try (have q := (QBox.new_ w8 (0, 0) 59 rfl).grows (w' := w10) (Grows.trans (show Grows _ _ from (Below.refl _ _).drew) g10))))
                     | (go_at_call 61; refine (CA.out _).mono ?_; rintro e w11 ⟨rfl, g11⟩; have z11 := Below.size g11; (try simp at z11); (first | (replace q := q.grows g11) | (have q := QBox.grows (QBox.new_ w10 (0, 0) 59 rfl) g11) | skip); (try (obtain ⟨q0, q1⟩ := q.cells; have qf := q.fz; have ql := q.lt))))
                  all_goals
                    go_wp2_with fail
                    go_meet
                    exact ⟨_, rfl, by first | exact q.put _ | exact QBox.new_ _ _ _ rfl | exact (QBox.new_ _ (0, 0) _ rfl).put _, by exact bel2 g11 g10⟩
                case rest =>
                  obtain ⟨gy, rfl, qy, hg9⟩ := hcut
                  obtain ⟨w9, rfl⟩ : ∃ x : World, x = wc := ⟨_, rfl⟩
                  have ti9 := ti.grows hg9
                  have gK9 : Grows wK w9 := by
                    refine Mv.below (S := TrS b (.slice (some ⟨gx, 0, none⟩) R cx)) ((Mv.of_grows hg).trans ti9.mv) (Nat.le_refl _) fun g h => ?_
                    rcases h with h | h
                    · omega
                    · simp [Value.ownBlock] at h; omega
                  obtain ⟨bs, fs, rfl, hbs, z0, z1⟩ := (hs.grows gK9).at_ i hil
                  obtain ⟨z, hz⟩ : ∃ z, z = nthQ sq i := ⟨_, rfl⟩
                  rw [← hz] at z0 z1
                  have HZS := Lib.hid hz
                  have CM1 := fun W => iMultiplyRatios_c yq yq W
                  have CM2 := fun W => iMultiplyRatios_c (mulQ yq yq) z W
                  have CS0 := fun W => sub_c left (mulQ (mulQ yq yq) z) W
                  obtain ⟨rq, hrq⟩ : ∃ q, q = subQ left (mulQ (mulQ yq yq) z) := ⟨_, rfl⟩
                  have HRQ := Lib.hid (show rq = restQ left c (nthQ sq i) n by rw [hrq, ← HZS.out, HYQ.out]; rfl)
                  rw [← hrq] at CS0
                  generalize mulQ (mulQ yq yq) z = y3 at *
                  generalize mulQ yq yq = y2 at *
                  have CM1' := Lib.hid CM1
                  have CM2' := Lib.hid CM2
                  have CS' := Lib.hid CS0
                  have HK := Lib.hid fun W (g : Grows w9 W) => tree_keep (ti9.lq.grows g) (qy.grows g) (ti9.box.grows g) ((g.cell (p := ⟨bs, fs + i * 2, none⟩) hbs).trans z0) ((g.cell (p := ⟨bs, fs + i * 2 + 1, none⟩) hbs).trans z1)
                  clear CM1 CM2 CS0 hrq hz CW CA b4 bl bf z0 z1
                  go_upto_region 24 with fail
                  go_cut [15] from 79 to 133 (fun s15 wx => ∃ gr : Nat, s15 = .pointer (some ⟨gr, 0, none⟩) ∧ QBox wx gr rq ∧ w9.heap.size ≤ gr ∧ Grows w9 wx)
                  case first =>
                    go_region_held3 (fun W => W.cell? ⟨w.heap.size, 0, none⟩ = some (.int .i64 left.1) ∧ W.cell? ⟨w.heap.size, 1, none⟩ = some (.int .i64 left.2) ∧ W.cell? ⟨gy, 0, none⟩ = some (.int .i64 yq.1) ∧ W.cell? ⟨gy, 1, none⟩ = some (.int .i64 yq.2) ∧ W.cell? ⟨b, 1, none⟩ = some (.slice (some ⟨bs, fs, none⟩) R cs) ∧ W.cell? ⟨bs, fs + i * 2, none⟩ = some (.int .i64 z.1) ∧ W.cell? ⟨bs, fs + i * 2 + 1, none⟩ = some (.int .i64 z.2)) (exact HK.out _ (by first | exact bel3 g12 g11 g10 | exact bel2 g11 g10 | exact bel1 g10 | exact bel0))
                      (first
                       | (go_at_call 58; (with_reducible refine (CM1'.out _).mono ?_); rintro e w10 ⟨rfl, g10⟩; have z10 := Below.size g10; (try simp at z10); (try (have q := (QBox.new_ w9 (0, 0) 59 rfl).grows (w' := w10) (Grows.trans (show Grows _ _ from (Below.refl _ _).drew) g10))))
                       | (go_at_call 58; (with_reducible refine (CM2'.out _).mono ?_); rintro e w11 ⟨rfl, g11⟩; have z11 := Below.size g11; (try simp at z11); (first | (replace q := q.grows g11) | (have q := QBox.grows (QBox.new_ w10 (0, 0) 59 rfl) g11) | skip))
                       | (go_at_call 57; (with_reducible refine (CS'.out _).mono ?_); rintro e w12 ⟨rfl, g12⟩; have z12 := Below.size g12; (try simp at z12); (first | (replace q := q.grows g12) | (have q := QBox.grows (QBox.new_ w11 (0, 0) 59 rfl) g12) | skip); (try (obtain ⟨q0, q1⟩ := q.cells; have qf := q.fz; have ql := q.lt))))
                    all_goals
                      go_wp2_with fail
                      go_meet
                      exact ⟨_, rfl, by first | exact q.put _ | exact QBox.new_ _ _ _ rfl | exact (QBox.new_ _ (0, 0) _ rfl).put _, by first | omega | (simp; done) | (simp; omega), by exact bel3 g12 g11 g10⟩
                  case rest =>
                    obtain ⟨gr, rfl, qr, hgr9, hg10⟩ := hcut
                    obtain ⟨w10, rfl⟩ : ∃ x : World, x = wc := ⟨_, rfl⟩
                    have ti10 := ti9.grows hg10
                    have CI0 := fun W => iIsRatio_c rq.1 rq.2 W
                    change ∀ W, Calls Tryz.prog 59 #[.agg #[.int .i64 rq.1, .int .i64 rq.2]] W (fun e w' => e = .returned (.bool (okQ rq)) ∧ Grows W w') at CI0
                    have z9 := Below.size hg9
                    have zw8 := ti.mv.size
                    have hTS : ∀ g, TrS b (.slice (some ⟨gx, 0, none⟩) R cx) g → wK.heap.size ≤ g ∧ g < w.heap.size := fun g h => by
                      rcases h with h | h
                      · omega
                      · simp [Value.ownBlock] at h; omega
                    clear ti ti9 HK CM1' CM2' CS' HYQ HZS qy hg9 hg10 gK9 hbs
                    obtain ⟨r0, r1⟩ := qr.cells
                    have rl := qr.lt
                    cases hok : okQ rq
                    · rw [hok] at CI0
                      have CI := Lib.hid CI0
                      have HF := Lib.hid (hnx L _ (h3.full (.inl (by rw [← HRQ.out]; exact hok))))
                      clear CI0 hok
                      go_wp2_with fail
                      refine (CI.out _).mono ?_; rintro e w11 ⟨rfl, g11⟩
                      have ti11 := ti10.grows g11
                      have tf := ti11.fail hbl hgb
                      have b4 := ti11.box.c4
                      have bl := ti11.box.lt
                      have bf := ti11.box.fz 4
                      clear r0 r1 rl
                      go_wp2_with fail
                      go_round
                      case rel => exact ⟨1 + 1, L, A, co, vs, true, y, rfl, by first | rfl | go_num, by omega, hL, HF.out, tf⟩
                      case measure => simp [intOf]
                    · rw [hok] at CI0
                      have CI := Lib.hid CI0
                      have HOK := Lib.hid (show okQ (restQ left c (nthQ sq i) n) = true by rw [← HRQ.out]; exact hok)
                      clear CI0 hok
                      go_wp2_with fail
                      refine (CI.out _).mono ?_; rintro e w11 ⟨rfl, g11⟩
                      have ti11 := ti10.grows g11
                      have qr11 := qr.grows g11
                      clear r0 r1 rl
                      obtain ⟨r0, r1⟩ := qr11.cells
                      have rl := qr11.lt
                      by_cases hneg : rq.1 < 0
                      · have HF := Lib.hid (hnx L _ (h3.stop HOK.out (by omega) (by rw [← HRQ.out]; exact hneg)))
                        go_wp2_with fail
                        go_round
                        case rel => exact ⟨1 + 1, L, A, co, vs, false, y, rfl, by first | rfl | go_num, by omega, hL, HF.out, ti11⟩
                        case measure => simp [intOf]
                      · have b3 := ti11.box.c3
                        have bl := ti11.box.lt
                        have xc := ti11.own.cell i (by simp; have := HX.out; omega)
                        have xf := ti11.own.free i
                        have xl := ti11.own.lt.2
                        obtain ⟨w12, hw12⟩ : ∃ W, W = w11.setCell ⟨gx, i, none⟩ (.int .i64 n) := ⟨_, rfl⟩
                        have ti12 : TI wK w b R i gx cx (.slice Am R cm) (.slice (some ⟨bs, fs, none⟩) R cs) x left c w2.heap.size w6.heap.size L A co vs false n w12 := by rw [hw12]; exact ti11.cell HX.out hi hgb hgl.2 n
                        have qr12 : QBox w12 gr rq := by rw [hw12]; exact qr11.far (show gx ≠ gr by omega) _
                        have HW12 := Lib.hid hw12
                        have gK12 : Grows wK w12 := Mv.below ((Mv.of_grows hg).trans ti12.mv) (Nat.le_refl _) fun g h => (hTS g h).1
                        have CP := Lib.hid (HIH.out (x.set i n) rq w12 (by simp; exact HX.out) (fun t ht => by rw [nth_set _ _ _ _ (by rw [HX.out]; omega), if_neg (by omega)]; exact HZ.out t (by omega)) gK12 ti12.box ti12.own)
                        obtain ⟨_, _, _, hnlo, hnhi, _⟩ := restQ_parts HOK.out
                        have hwn : IntKind.i64.wrap (n + 1) = n + 1 := IntWalk.i64_in _ (by omega)
                        have hwi : IntKind.i64.wrap ((i : Int) - 1) = (i : Int) - 1 := IntWalk.i64_in _ (by omega)
                        have HST := Lib.hid fun M bad2 h => h3.step (M := M) (bad := bad2) HOK.out (by omega) (by rw [← HRQ.out]; omega) h
                        have hTS1 : ∀ g, TrS b (.slice (some ⟨gx, 0, none⟩) R cx) g → g < w.heap.size := fun g h => (hTS g h).2
                        have zw12 := ti12.mv.size
                        clear hw12 hTS gK12 h3 ti10 ti11
                        go_upto_region 29 with fail
                        rw [← HW12.out]
                        clear r0 r1 rl b3 bl xc xf xl
                        obtain ⟨r0, r1⟩ := qr12.cells
                        have rl := qr12.lt
                        go_wp2_with fail
                        refine CP.out.mono ?_; rintro e w13 ⟨M, A2, c2, us, bad2, rfl, hPF, rows2, hM, box2, own2, mv2⟩
                        have hs13 := mv2.size
                        have hro := ti12.rows.mv mv2 hTS1
                        have hro1 : ∀ g, (Value.slice A L.length co).ownBlock = some g → g < w12.heap.size := fun g e => (ti12.rows.own.lt e).2
                        have hro2 : ∀ (k : Nat) (u : Value), vs[k]? = some u → ∀ g, u.ownBlock = some g → g < w12.heap.size := fun k u hk g e => (ti12.rows.lt hk e).2
                        have hLM : L.length + M.length ≤ 4000 * (i + 1) + 1 := by omega
                        rw [HRQ.out] at hPF
                        have HP4 := Lib.hid (HST.out M bad2 hPF)
                        have HNX4 := Lib.hid fun (W : World) (A3 : Option Addr) (co3 : Nat) ho hg hv => ti12.next (M := M) (us := us) (W3 := W) (A3 := A3) (co3 := co3) hbl hgl.2 box2 own2 mv2 ho hg hv
                        clear hPF r0 r1 rl
                        go_wp2_with (at_builtin; refine wpList_appOn rfl (.tmp 127) (.tmp 132) rfl _ w.heap.size w12.heap.size _ vs us L M A2 c2 (by rfl) (by rfl) hro rows2 (by omega) hro1 hro2 (by omega) (by omega) ?_; intro v14 w14 ho14 hg14 hv14; obtain ⟨A4, c4, rfl, _, _⟩ := ho14.val; have ti14 := HNX4.out _ _ _ ho14 hg14 hv14)
                        go_round
                        case rel => exact ⟨n + 1, L ++ M, A4, c4, vs ++ us, bad2, n, by first | rfl | rw [List.length_append], by first | rfl | go_num, by omega, by omega, by rw [List.length_append]; exact hLM, HP4.out, ti14⟩
                        case measure => first | (simp [intOf]; omega) | (simp [intOf]; done)
        --ENDLOOPS
end
end Go.Proofs.YtbfkpfdkndnhkaaGreat
