/- Contracts: new matrices, stores, transposes, equality. -/
import Derived.Test.YtpfijhcjempfjaaMat
import Derived.Test.YtpfijhcjempfjaaTab
import Derived.Test.YtpfijhcjempfjaaTail
namespace Go.Proofs.Ytpfijhcjempfjaa
open Go.RowKit

section
set_option maxHeartbeats 1000000
theorem own_made {w1 : World} {B g n : Nat} (h : w1.ownsRow B 3 1 (.slice (some ⟨g, 0, none⟩) n n) n (madeCells (Value.int IntKind.i64 0).cells (n * 1)).toList) :
    Own w1 B (.slice (some ⟨g, 0, none⟩) n n) (List.replicate n 0) := by
  unfold Own
  rw [List.length_replicate, List.map_replicate]
  rw [show (Value.int IntKind.i64 0).cells = #[Value.int IntKind.i64 0] from rfl, Nat.mul_one, toList_madeCells_one] at h
  exact h

theorem newMatrix_c (R C : Nat) (w : World) (h : R * C ≤ 1048576) :
    Calls Try.prog 110 #[.int .i64 R, .int .i64 C] w fun e w' => ∃ g, e = .returned (.agg #[.int .i64 R, .int .i64 C, .slice (some ⟨g, 0, none⟩) (R * C) (R * C)]) ∧ Own w' w.heap.size (.slice (some ⟨g, 0, none⟩) (R * C) (R * C)) (List.replicate (R * C) 0) ∧ Grows w w' := by
  obtain ⟨i0, hi0, hz0, hz1, hz2⟩ := info_parts info_int
  have e1 := castMul R C
  have e2 := castMulLe h
  go_enter Try.func110, Try.ntmps110
  go_wp2_with (at_make; refine wpList_make_full _ rfl (.tmp 9) (.tmp 9) 22 rfl (w.heap.size + 1) 3 i0 (.int .i64 0) 1 Try.underlying22 hi0 hz0 hz1 .i64 .i64 _ _ (R * C) rfl rfl (Int.natCast_mul R C).symm (Int.natCast_mul R C).symm (by rw [hz2]; omega) (by unfold maxLen; omega) (by simp) ?_; intro w1 hown1 hg1; have gg := Below.grown (Below.refl _ _) hg1 (Nat.le_refl _) (by simp); obtain ⟨hc, hf⟩ := bcell gg)
  have ho := own_made hown1
  clear hown1 hg1
  refine bodyPost_ret (v := .agg #[.int .i64 R, .int .i64 C, .slice (some ⟨w.heap.size + 1, 0, none⟩) (R * C) (R * C)]) ?_ rfl ?_
  · simp [results, Try.results110, go_sem, hc]
  · simp at ho
    exact ⟨_, rfl, by (refine Own.less (B := ?OB) ?_ ?_; (repeat' (first | with_reducible exact ho | with_reducible refine Own.alloc ?_ _ | with_reducible refine Own.drew ?_ | with_reducible refine Own.low ?_ ?_ _)); all_goals (first | omega | (simp; done) | (simp; omega) | (simp [*]; done) | (simp at *; omega))), by (have bz0 := Below.size (gg); (try simp at bz0); (repeat' (first | with_reducible exact Below.refl _ _ | with_reducible assumption | (with_reducible refine Below.setCell ?_ ?_ _) | (with_reducible refine Below.alloc ?_ ?_ _) | (with_reducible refine Below.drew ?_) | (with_reducible refine below_drewN ?_ _) | (with_reducible refine Below.trans ?_ (Below.mono (gg) ?_)))); all_goals (first | omega | (simp; done) | (simp; omega) | (simp [*]; done) | (simp at *; omega)))⟩

theorem l3New_c (R C : Nat) (w : World) (h : R * C ≤ 1048576) :
    Calls Try.prog 108 #[.int .i64 R, .int .i64 C] w fun e w' => ∃ g, e = .returned (.agg #[.int .i64 R, .int .i64 C, .slice (some ⟨g, 0, none⟩) (R * C) (R * C)]) ∧ Own w' w.heap.size (.slice (some ⟨g, 0, none⟩) (R * C) (R * C)) (List.replicate (R * C) 0) ∧ Grows w w' := by
  obtain ⟨i0, hi0, hz0, hz1, hz2⟩ := info_parts info_int
  have e1 := castMul R C
  have e2 := castMulLe h
  go_enter Try.func108, Try.ntmps108
  go_wp2_with (at_make; refine wpList_make_full _ rfl (.tmp 9) (.tmp 9) 22 rfl (w.heap.size + 1) 3 i0 (.int .i64 0) 1 Try.underlying22 hi0 hz0 hz1 .i64 .i64 _ _ (R * C) rfl rfl (Int.natCast_mul R C).symm (Int.natCast_mul R C).symm (by rw [hz2]; omega) (by unfold maxLen; omega) (by simp) ?_; intro w1 hown1 hg1; have gg := Below.grown (Below.refl _ _) hg1 (Nat.le_refl _) (by simp); obtain ⟨hc, hf⟩ := bcell gg)
  have ho := own_made hown1
  clear hown1 hg1
  refine bodyPost_ret (v := .agg #[.int .i64 R, .int .i64 C, .slice (some ⟨w.heap.size + 1, 0, none⟩) (R * C) (R * C)]) ?_ rfl ?_
  · simp [results, Try.results108, go_sem, hc]
  · simp at ho
    exact ⟨_, rfl, by (refine Own.less (B := ?OB) ?_ ?_; (repeat' (first | with_reducible exact ho | with_reducible refine Own.alloc ?_ _ | with_reducible refine Own.drew ?_ | with_reducible refine Own.low ?_ ?_ _)); all_goals (first | omega | (simp; done) | (simp; omega) | (simp [*]; done) | (simp at *; omega))), by (have bz0 := Below.size (gg); (try simp at bz0); (repeat' (first | with_reducible exact Below.refl _ _ | with_reducible assumption | (with_reducible refine Below.setCell ?_ ?_ _) | (with_reducible refine Below.alloc ?_ ?_ _) | (with_reducible refine Below.drew ?_) | (with_reducible refine below_drewN ?_ _) | (with_reducible refine Below.trans ?_ (Below.mono (gg) ?_)))); all_goals (first | omega | (simp; done) | (simp; omega) | (simp [*]; done) | (simp at *; omega)))⟩

/-- A store into a matrix that is the call's own. -/
theorem set_c (r : Int) (C g n cap B : Nat) (l : List Int) (i j : Nat) (x : Int) (w : World) (hn : l.length = n) (ho : Own w B (.slice (some ⟨g, 0, none⟩) n cap) l) (h1 : i * C ≤ 1048576) (h4 : i * C + j < n) (h5 : n ≤ 1099511627776) :
    Calls Try.prog 111 #[.agg #[.int .i64 r, .int .i64 C, .slice (some ⟨g, 0, none⟩) n cap], .int .i64 i, .int .i64 j, .int .i64 x] w fun e w' => e = .returned (.tuple #[]) ∧ Own w' B (.slice (some ⟨g, 0, none⟩) n cap) (l.set (i * C + j) x) ∧ w.grownBy w' (some g) := by
  subst hn
  have hc := ho.cell (i * C + j) h4
  have hf := ho.free (i * C + j)
  have e1 := castMul i C
  have e2 := castMulLe h1
  have e3 := castPos i C j
  have e4 := castLt h4
  have hg := (ho.lt).2
  go_enter Try.func111, Try.ntmps111
  go_wp2_with fail
  go_end0
  refine ⟨rfl, ?_, ?_⟩
  · exact (ho.set _ _).alloc _
  · exact only_right (only_setCell (p := ⟨g, _, none⟩) (World.grownBy.refl w _) rfl _) ((Below.refl _ _).alloc (Nat.le_refl _) _)

theorem MBox.only {w w' : World} {b g : Nat} {r c : Int} {v : Value} (h : MBox w b r c v) (hg : w.grownBy w' (some g)) (hne : b ≠ g) : MBox w' b r c v := by
  have hk := hg.block b h.lt (fun e => hne (by injection e))
  exact ⟨Nat.lt_of_lt_of_le h.lt hg.size, (World.cell?_of_block hk).trans h.c0, (World.cell?_of_block hk).trans h.c1, (World.cell?_of_block hk).trans h.c2, fun o => (World.frozen?_of_block hk).trans (h.fz o)⟩
theorem Rd.only {w w' : World} {A : Option Addr} {l : List Int} {g H : Nat} (h : Rd w A l) (hb : ∀ a, A = some a → 0 < l.length → a.block < H) (hg : w.grownBy w' (some g)) (hH : H ≤ g) : Rd w' A l := fun i hi => by
  obtain ⟨b, off, e, hb', hc⟩ := h i hi
  have := hb _ e (by omega)
  refine ⟨b, off, e, Nat.lt_of_lt_of_le hb' hg.size, (World.cell?_of_block (hg.block b hb' (fun e => ?_))).trans hc⟩
  injection e with e
  simp at this
  omega
theorem below_only {B g : Nat} {a w w' : World} (h : Below B a w) (hg : w.grownBy w' (some g)) (hB : B ≤ g) (hs : B ≤ w.heap.size) : Below B a w' :=
  h.grown hg hs fun k hk => by injection hk with hk; omega

theorem rd_bound {w : World} {A : Option Addr} {l : List Int} (h : Rd w A l) : ∀ a, A = some a → 0 < l.length → a.block < w.heap.size := fun a e hl => by
  obtain ⟨b, off, e', hb, _⟩ := h 0 hl
  rw [e] at e'
  injection e' with e'
  rw [e']; exact hb

/-- the transpose's cells -/
def trL (R C : Nat) (l : List Int) : List Int := tab C R fun j i => nth l (i * C + j)

theorem iTransposeOf_yes (R C : Nat) (A : Option Addr) (l : List Int) (n cap : Nat) (w : World) (hn : l.length = n) (ha : Rd w A l) (hm : isMat R C l = true) :
    Calls Try.prog 56 #[.agg #[.int .i64 R, .int .i64 C, .slice A n cap]] w fun e w' =>
      ∃ v, e = .returned (.tuple #[.agg #[.int .i64 C, .int .i64 R, v], .bool true]) ∧ Own w' w.heap.size v (trL R C l) ∧ Grows w w' := by
  subst hn
  obtain ⟨⟨_, h1⟩, ⟨_, h2⟩, h3, _⟩ := (isMat_iff _ _ _).1 hm
  have hl : l.length = R * C := by rw [← Int.natCast_mul] at h3; omega
  have hR : R ≤ 24 := by omega
  have hC : C ≤ 24 := by omega
  have hRC : C * R ≤ 576 := Nat.mul_le_mul hC hR
  have HM := Lib.hid fun w h => iIsMatrix_c R C A l l.length cap w rfl h (by rw [hl, Nat.mul_comm]; omega)
  rw [hm] at HM
  have HL := Lib.hid hl
  have HM' := Lib.hid HM.out
  have HA := Lib.hid (rd_bound ha)
  clear hm HM h1 h2 h3 hl
  go_enter Try.func56, Try.ntmps56
  go_wp2_with fail
  refine (HM'.out _ (by exact (Rd.grows ha (by ((repeat' (first | with_reducible exact Below.refl _ _ | with_reducible assumption | (with_reducible refine Below.setCell ?_ ?_ _) | (with_reducible refine Below.alloc ?_ ?_ _) | (with_reducible refine Below.drew ?_) | (with_reducible refine below_drewN ?_ _))); all_goals (first | omega | (simp; done) | (simp; omega) | (simp [*]; done) | (simp at *; omega))))))).mono ?_; rintro e w1 ⟨rfl, g1⟩
  have z1 := Below.size g1; simp at z1
  have mb : MBox w1 w.heap.size R C (.slice A l.length cap) := (MBox.mk_ w R C (.slice A l.length cap) 26).grows (by (have bz0 := Below.size (g1); (try simp at bz0); (repeat' (first | with_reducible exact Below.refl _ _ | with_reducible assumption | (with_reducible refine Below.setCell ?_ ?_ _) | (with_reducible refine Below.alloc ?_ ?_ _) | (with_reducible refine Below.drew ?_) | (with_reducible refine below_drewN ?_ _) | (with_reducible refine Below.trans ?_ (Below.mono (g1) ?_)))); all_goals (first | omega | (simp; done) | (simp; omega) | (simp [*]; done) | (simp at *; omega))))
  have rb : MBox w1 (w.heap.size + 1) 0 0 (.slice none 0 0) := by have := (MBox.mk_ (w.alloc (.cells #[.int .i64 R, .int .i64 C, .slice A l.length cap] 26)) 0 0 (.slice none 0 0) 26).grows (w' := w1) (by (have bz0 := Below.size (g1); (try simp at bz0); (repeat' (first | with_reducible exact Below.refl _ _ | with_reducible assumption | (with_reducible refine Below.setCell ?_ ?_ _) | (with_reducible refine Below.alloc ?_ ?_ _) | (with_reducible refine Below.drew ?_) | (with_reducible refine below_drewN ?_ _) | (with_reducible refine Below.trans ?_ (Below.mono (g1) ?_)))); all_goals (first | omega | (simp; done) | (simp; omega) | (simp [*]; done) | (simp at *; omega)))); simpa using this
  have rd1 : Rd w1 A l := (Rd.grows ha (by (have bz0 := Below.size (g1); (try simp at bz0); (repeat' (first | with_reducible exact Below.refl _ _ | with_reducible assumption | (with_reducible refine Below.setCell ?_ ?_ _) | (with_reducible refine Below.alloc ?_ ?_ _) | (with_reducible refine Below.drew ?_) | (with_reducible refine below_drewN ?_ _) | (with_reducible refine Below.trans ?_ (Below.mono (g1) ?_)))); all_goals (first | omega | (simp; done) | (simp; omega) | (simp [*]; done) | (simp at *; omega)))))
  have gw1 : Grows w w1 := by (have bz0 := Below.size (g1); (try simp at bz0); (repeat' (first | with_reducible exact Below.refl _ _ | with_reducible assumption | (with_reducible refine Below.setCell ?_ ?_ _) | (with_reducible refine Below.alloc ?_ ?_ _) | (with_reducible refine Below.drew ?_) | (with_reducible refine below_drewN ?_ _) | (with_reducible refine Below.trans ?_ (Below.mono (g1) ?_)))); all_goals (first | omega | (simp; done) | (simp; omega) | (simp [*]; done) | (simp at *; omega)))
  clear g1 ha
  obtain ⟨b0, b1, b2⟩ := mb.cells
  go_wp2_with fail
  refine (newMatrix_c C R _ (by omega)).mono ?_; rintro e w2 ⟨g, rfl, ho, g2⟩
  obtain ⟨ho1, ho2⟩ := ho.lt
  clear b0 b1 b2
  replace mb := mb.grows g2
  replace rb := rb.grows g2
  replace rd1 := rd1.grows g2
  replace gw1 : Grows w w2 := by (have bz0 := Below.size (g2); (try simp at bz0); have bz1 := Below.size (gw1); (try simp at bz1); (repeat' (first | with_reducible exact Below.refl _ _ | with_reducible assumption | (with_reducible refine Below.setCell ?_ ?_ _) | (with_reducible refine Below.alloc ?_ ?_ _) | (with_reducible refine Below.drew ?_) | (with_reducible refine below_drewN ?_ _) | (with_reducible refine Below.trans ?_ (Below.mono (g2) ?_)) | (with_reducible refine Below.trans ?_ (Below.mono (gw1) ?_)))); all_goals (first | omega | (simp; done) | (simp; omega) | (simp [*]; done) | (simp at *; omega)))
  replace ho := ho.less (show w.heap.size ≤ w1.heap.size by omega)
  have lo : w.heap.size + 1 < g := by omega
  clear g2 ho1 z1
  obtain ⟨b0, b1, b2⟩ := mb.cells
  go_wp2_with fail
  go_loopw [5] (fun i wr => ∃ (I : Nat) (m : List Int), i = .int .i64 I ∧ I ≤ R ∧ m.length = C * R ∧ UptoC C R (fun j i => nth l (i * C + j)) I 0 m ∧ Own wr w.heap.size (.slice (some ⟨g, 0, none⟩) (C * R) (C * R)) m ∧ Rd wr A l ∧ Grows w wr ∧
      MBox wr w.heap.size R C (.slice A l.length cap) ∧ MBox wr (w.heap.size + 1) 0 0 (.slice none 0 0) ∧ MBox wr w2.heap.size C R (.slice (some ⟨g, 0, none⟩) (C * R) (C * R))) (fun i _ => R - (intOf i).toNat)
  case atStart =>
    exact ⟨0, _, rfl, Nat.zero_le _, by simp, UptoC.zero _ _ _ _, ho.alloc _, rd1.alloc _, by (have bz0 := Below.size (gw1); (try simp at bz0); (repeat' (first | with_reducible exact Below.refl _ _ | with_reducible assumption | (with_reducible refine Below.setCell ?_ ?_ _) | (with_reducible refine Below.alloc ?_ ?_ _) | (with_reducible refine Below.drew ?_) | (with_reducible refine below_drewN ?_ _) | (with_reducible refine Below.trans ?_ (Below.mono (gw1) ?_)))); all_goals (first | omega | (simp; done) | (simp; omega) | (simp [*]; done) | (simp at *; omega))), mb.grows (by ((repeat' (first | with_reducible exact Below.refl _ _ | with_reducible assumption | (with_reducible refine Below.setCell ?_ ?_ _) | (with_reducible refine Below.alloc ?_ ?_ _) | (with_reducible refine Below.drew ?_) | (with_reducible refine below_drewN ?_ _))); all_goals (first | omega | (simp; done) | (simp; omega) | (simp [*]; done) | (simp at *; omega)))), rb.grows (by ((repeat' (first | with_reducible exact Below.refl _ _ | with_reducible assumption | (with_reducible refine Below.setCell ?_ ?_ _) | (with_reducible refine Below.alloc ?_ ?_ _) | (with_reducible refine Below.drew ?_) | (with_reducible refine below_drewN ?_ _))); all_goals (first | omega | (simp; done) | (simp; omega) | (simp [*]; done) | (simp at *; omega)))), MBox.mk_ _ _ _ _ _⟩
  case round =>
    obtain ⟨I, m, rfl, hI, hml, hup, how, hrd, hgr, hmb, hrb, hob⟩ := hrel
    have HU := Lib.hid hup
    have HML := Lib.hid hml
    clear hup hml mb rb rd1 gw1 ho b0 b1 b2
    obtain ⟨b0, b1, b2⟩ := hmb.cells
    by_cases hlt : I < R
    · go_wp2_with fail
      obtain ⟨wo, rfl⟩ : ∃ wo : World, wo = wr := ⟨_, rfl⟩
      go_loopw [6] (fun j wr => ∃ (J : Nat) (m : List Int), j = .int .i64 J ∧ J ≤ C ∧ m.length = C * R ∧ UptoC C R (fun j i => nth l (i * C + j)) I J m ∧ Own wr w.heap.size (.slice (some ⟨g, 0, none⟩) (C * R) (C * R)) m ∧ Rd wr A l ∧ Grows w wr ∧
          MBox wr w.heap.size R C (.slice A l.length cap) ∧ MBox wr (w.heap.size + 1) 0 0 (.slice none 0 0) ∧ MBox wr w2.heap.size C R (.slice (some ⟨g, 0, none⟩) (C * R) (C * R))) (fun j _ => C - (intOf j).toNat)
      case atStart => exact ⟨0, m, rfl, Nat.zero_le _, HML.out, HU.out, how, hrd, hgr, hmb, hrb, hob⟩
      case round =>
        clear HU HML b0 b1 b2 how hrd hgr hmb hrb hob
        obtain ⟨J, m, rfl, hJ, hml, hup, how, hrd, hgr, hmb, hrb, hob⟩ := hrel
        have HU := Lib.hid hup
        have HML := Lib.hid hml
        clear hup hml
        by_cases hlt2 : J < C
        · obtain ⟨b0, b1, b2⟩ := hmb.cells
          go_wp2_with fail
          clear b0 b1 b2
          obtain ⟨x0, x1, x2⟩ := hmb.ext
          obtain ⟨y0, y1, y2⟩ := hob.ext
          have i1 := castMul I C
          have i2 : (I : Int) * (C : Int) ≤ ((1048576 : Nat) : Int) := castMulLe (by have := Nat.mul_le_mul (Nat.le_of_lt hlt) hC; omega)
          have i3 := castPos I C J
          have i4 : (I : Int) * (C : Int) + (J : Int) < (l.length : Int) := castLt (by rw [HL.out]; exact idx_lt hlt hlt2)
          ((refine wp_region_tail 7 (by kernel_rfl) (by kernel_rfl) ?_; simp only [List.take_succ_cons, List.take_zero, List.drop_succ_cons, List.drop_zero]); (repeat (go_big_quiet_step ((go_at_call 78; exact extC (at_c R C A l l.length cap I J _ rfl (Rd.ext hrd _) (by omega) (by omega) (by omega) (by omega) (by have := HL.out; have := Nat.mul_le_mul hR hC; omega)))))); refine wpQuiet_nil ?_; rintro w3 ⟨w30, hw30⟩; have g3 := grows_of_ext hw30; clear hw30 w30)
          go_wp2_with fail
          have hi1 := Nat.mul_le_mul (Nat.le_of_lt hlt2) hR
          have hi2 : J * R + I < C * R := idx_lt hlt2 hlt
          refine (set_c C R g (C * R) (C * R) w.heap.size m J I _ w3 HML.out (how.grows g3) (by omega) hi2 (by omega)).mono ?_; rintro e w4 ⟨rfl, ho4, gb⟩
          have hup4 := UptoC.set HU.out HML.out hlt2 hlt
          have hs3 := Below.size hgr
          have hs4 := Below.size g3
          go_wp2_with fail
          go_round
          case rel =>
            exact ⟨J + 1, _, by go_num, by omega, by rw [List.length_set]; exact HML.out, hup4, ho4, (hrd.grows g3).only HA.out gb (by omega), below_only (Grows.trans hgr g3) gb (by omega) (by omega), (hmb.grows g3).only gb (by omega), (hrb.grows g3).only gb (by omega), (hob.grows g3).only gb (by omega)⟩
          case measure => simp [intOf]; omega
        · obtain rfl : J = C := by omega
          obtain ⟨b0, b1, b2⟩ := hmb.cells
          go_wp2_with fail
          go_round
          case rel =>
            exact ⟨I + 1, m, by go_num, by omega, HML.out, UptoC.col HU.out, how, hrd, hgr, hmb, hrb, hob⟩
          case measure => simp [intOf]; omega
    · obtain rfl : I = R := by omega
      have hfin : m = trL I C l := UptoC.all HU.out HML.out
      subst hfin
      obtain ⟨y0, y1, y2⟩ := hob.cells
      obtain ⟨r0, r1, r2⟩ := hrb.cells
      have rf := hrb.fz
      go_wp2_with fail
      refine bodyPost_ret (v := .tuple #[.agg #[.int .i64 C, .int .i64 I, .slice (some ⟨g, 0, none⟩) (C * I) (C * I)], .bool true]) ?_ rfl ?_
      · simp [results, Try.results56, go_sem, r0, r1, r2]
      · have hs5 := Below.size hgr
        exact ⟨_, rfl, ((how.far (by intro k hk; simp [Value.ownBlock] at hk; simp; omega) _).far (by intro k hk; simp [Value.ownBlock] at hk; simp; omega) _).far (by intro k hk; simp [Value.ownBlock] at hk; simp; omega) _, by (have bz0 := Below.size (hgr); (try simp at bz0); (repeat' (first | with_reducible exact Below.refl _ _ | with_reducible assumption | (with_reducible refine Below.setCell ?_ ?_ _) | (with_reducible refine Below.alloc ?_ ?_ _) | (with_reducible refine Below.drew ?_) | (with_reducible refine below_drewN ?_ _) | (with_reducible refine Below.trans ?_ (Below.mono (hgr) ?_)))); all_goals (first | omega | (simp; done) | (simp; omega) | (simp [*]; done) | (simp at *; omega)))⟩

theorem iTransposeOf_no (r c : Int) (A : Option Addr) (l : List Int) (n cap : Nat) (w : World) (hn : l.length = n) (ha : Rd w A l) (hl : n ≤ 1099511627776) (hm : isMat r c l = false) :
    Calls Try.prog 56 #[.agg #[.int .i64 r, .int .i64 c, .slice A n cap]] w fun e w' =>
      e = .returned (.tuple #[.agg #[.int .i64 0, .int .i64 0, .slice none 0 0], .bool false]) ∧ Grows w w' := by
  have HM := Lib.hid fun w h => iIsMatrix_c r c A l n cap w hn h hl
  rw [hm] at HM
  have HM' := Lib.hid HM.out
  clear hm HM hn
  go_enter Try.func56, Try.ntmps56
  go_wp2_with fail
  refine (HM'.out _ (by exact (Rd.grows ha (by ((repeat' (first | with_reducible exact Below.refl _ _ | with_reducible assumption | (with_reducible refine Below.setCell ?_ ?_ _) | (with_reducible refine Below.alloc ?_ ?_ _) | (with_reducible refine Below.drew ?_) | (with_reducible refine below_drewN ?_ _))); all_goals (first | omega | (simp; done) | (simp; omega) | (simp [*]; done) | (simp at *; omega))))))).mono ?_; rintro e w1 ⟨rfl, g1⟩
  have rb : MBox w1 (w.heap.size + 1) 0 0 (.slice none 0 0) := by have := (MBox.mk_ (w.alloc (.cells #[.int .i64 r, .int .i64 c, .slice A n cap] 26)) 0 0 (.slice none 0 0) 26).grows (w' := w1) (by (have bz0 := Below.size (g1); (try simp at bz0); (repeat' (first | with_reducible exact Below.refl _ _ | with_reducible assumption | (with_reducible refine Below.setCell ?_ ?_ _) | (with_reducible refine Below.alloc ?_ ?_ _) | (with_reducible refine Below.drew ?_) | (with_reducible refine below_drewN ?_ _) | (with_reducible refine Below.trans ?_ (Below.mono (g1) ?_)))); all_goals (first | omega | (simp; done) | (simp; omega) | (simp [*]; done) | (simp at *; omega)))); simpa using this
  obtain ⟨r0, r1, r2⟩ := rb.cells
  have rf := rb.fz
  go_wp2_with fail
  refine bodyPost_ret (v := .tuple #[.agg #[.int .i64 0, .int .i64 0, .slice none 0 0], .bool false]) ?_ rfl ?_
  · simp [results, Try.results56, go_sem, r0, r1, r2]
  · exact ⟨rfl, by (have bz0 := Below.size (g1); (try simp at bz0); (repeat' (first | with_reducible exact Below.refl _ _ | with_reducible assumption | (with_reducible refine Below.setCell ?_ ?_ _) | (with_reducible refine Below.alloc ?_ ?_ _) | (with_reducible refine Below.drew ?_) | (with_reducible refine below_drewN ?_ _) | (with_reducible refine Below.trans ?_ (Below.mono (g1) ?_)))); all_goals (first | omega | (simp; done) | (simp; omega) | (simp [*]; done) | (simp at *; omega)))⟩

def eqL (a b : List Int) : Bool := decide (a = b)
theorem eqL_len {a b : List Int} (h : a.length ≠ b.length) : eqL a b = false := by
  simp only [eqL, decide_eq_false_iff_not]
  intro e; exact h (by rw [e])
theorem eqL_at {a b : List Int} {i : Nat} (h : nth a i ≠ nth b i) : eqL a b = false := by
  simp only [eqL, decide_eq_false_iff_not]
  intro e; exact h (by rw [e])
theorem eqL_all {a b : List Int} (h : a.length = b.length) (h2 : ∀ i, i < a.length → nth a i = nth b i) : eqL a b = true := by
  simp only [eqL, decide_eq_true_eq]
  exact nth_ext h h2

theorem slicesEqual_c (A B : Option Addr) (a b : List Int) (n m c d : Nat) (w : World) (hn : a.length = n) (hm : b.length = m) (ha : Rd w A a) (hb : Rd w B b) (hl : n ≤ 1099511627776) (hl2 : m ≤ 1099511627776) :
    Calls Try.prog 146 #[.slice A n c, .slice B m d] w fun e w' => e = .returned (.bool (eqL a b)) ∧ Grows w w' := by
  by_cases hnm : n = m
  · subst hnm
    have HN := Lib.hid hn
    have HM := Lib.hid hm
    clear hn hm
    go_enter Try.func146, Try.ntmps146
    go_wp2_with fail
    go_loopw [13] (fun k wr => ∃ (i : Nat), k = .int .i64 i ∧ i ≤ n ∧ (∀ t, t < i → nth a t = nth b t) ∧ Grows w wr) (fun k _ => n - (intOf k).toNat)
    case atStart => exact ⟨0, rfl, Nat.zero_le _, fun t h => by omega, Below.refl _ _⟩
    case round =>
      obtain ⟨i, rfl, hi, he, hgr⟩ := hrel
      have HE := Lib.hid he
      clear he
      by_cases hlt : i < n
      · obtain ⟨b1, o1, rfl, hbs1, hc1⟩ := (ha.grows hgr).at_ i (by rw [HN.out]; exact hlt)
        obtain ⟨b2, o2, rfl, hbs2, hc2⟩ := (hb.grows hgr).at_ i (by rw [HM.out]; exact hlt)
        have i1 : (i : Int) < (n : Int) := by omega
        by_cases hx : nth a i = nth b i
        · have hx' : (nth a i != nth b i) = false := by simpa using hx
          have HX := Lib.hid hx
          clear hx
          go_wp2_with fail
          go_quiet (fail)
          go_wp2_with fail
          go_round
          case rel => exact ⟨i + 1, by go_num, by omega, fun t ht => by (by_cases e : t = i); (· subst e; exact HX.out); (· exact HE.out t (by omega)), below_drewN hgr _⟩
          case measure => simp [intOf]; omega
        · have hx' : (nth a i != nth b i) = true := by simpa using hx
          have HX := Lib.hid (eqL_at hx)
          clear hx
          go_wp2_with fail
          go_quiet (fail)
          go_wp2_with fail
          go_ret
          exact ⟨by rw [HX.out]; rfl, below_drewN hgr _⟩
      · obtain rfl : i = n := by omega
        have HX := Lib.hid (eqL_all (a := a) (b := b) (by rw [HN.out, HM.out]) (fun t ht => HE.out t (by have := HN.out; omega)))
        go_wp2_with fail
        go_ret
        exact ⟨by rw [HX.out]; rfl, hgr⟩
  · have HX := Lib.hid (eqL_len (a := a) (b := b) (by rw [hn, hm]; exact hnm))
    clear hn hm
    have hnm' : ((n : Int) != (m : Int)) = true := by simp; omega
    go_enter Try.func146, Try.ntmps146
    go_wp2_with fail
    go_ret
    exact ⟨by rw [HX.out]; rfl, Below.refl _ _⟩

def eqMat (r c : Int) (a : List Int) (r' c' : Int) (b : List Int) : Bool := (r == r') && ((c == c') && eqL a b)

theorem sameMatrix_c (r c r' c' : Int) (A B : Option Addr) (a b : List Int) (n m ca cb : Nat) (w : World) (hn : a.length = n) (hm : b.length = m) (ha : Rd w A a) (hb : Rd w B b) (hl : n ≤ 1099511627776) (hl2 : m ≤ 1099511627776) :
    Calls Try.prog 90 #[.agg #[.int .i64 r, .int .i64 c, .slice A n ca], .agg #[.int .i64 r', .int .i64 c', .slice B m cb]] w fun e w' => e = .returned (.bool (eqMat r c a r' c' b)) ∧ Grows w w' := by
  have C := fun w h h' => slicesEqual_c A B a b n m ca cb w hn hm h h' hl hl2
  unfold eqMat
  generalize eqL a b = x at *
  have HC := Lib.hid C
  clear C hn hm
  cases h1 : (r == r')
  · go_enter Try.func90, Try.ntmps90
    go_wp2_with fail
    go_ret
    exact ⟨by simp, by ((repeat' (first | with_reducible exact Below.refl _ _ | with_reducible assumption | (with_reducible refine Below.setCell ?_ ?_ _) | (with_reducible refine Below.alloc ?_ ?_ _) | (with_reducible refine Below.drew ?_) | (with_reducible refine below_drewN ?_ _))); all_goals (first | omega | (simp; done) | (simp; omega) | (simp [*]; done) | (simp at *; omega)))⟩
  · cases h2 : (c == c')
    · go_enter Try.func90, Try.ntmps90
      go_wp2_with fail
      go_ret
      exact ⟨by simp, by ((repeat' (first | with_reducible exact Below.refl _ _ | with_reducible assumption | (with_reducible refine Below.setCell ?_ ?_ _) | (with_reducible refine Below.alloc ?_ ?_ _) | (with_reducible refine Below.drew ?_) | (with_reducible refine below_drewN ?_ _))); all_goals (first | omega | (simp; done) | (simp; omega) | (simp [*]; done) | (simp at *; omega)))⟩
    · go_enter Try.func90, Try.ntmps90
      go_wp2_with fail
      refine (HC.out _ (by exact (Rd.grows ha (by ((repeat' (first | with_reducible exact Below.refl _ _ | with_reducible assumption | (with_reducible refine Below.setCell ?_ ?_ _) | (with_reducible refine Below.alloc ?_ ?_ _) | (with_reducible refine Below.drew ?_) | (with_reducible refine below_drewN ?_ _))); all_goals (first | omega | (simp; done) | (simp; omega) | (simp [*]; done) | (simp at *; omega)))))) (by exact (Rd.grows hb (by ((repeat' (first | with_reducible exact Below.refl _ _ | with_reducible assumption | (with_reducible refine Below.setCell ?_ ?_ _) | (with_reducible refine Below.alloc ?_ ?_ _) | (with_reducible refine Below.drew ?_) | (with_reducible refine below_drewN ?_ _))); all_goals (first | omega | (simp; done) | (simp; omega) | (simp [*]; done) | (simp at *; omega))))))).mono ?_; rintro e w1 ⟨rfl, g1⟩
      go_wp2_with fail
      go_ret
      exact ⟨by simp, by (have bz0 := Below.size (g1); (try simp at bz0); (repeat' (first | with_reducible exact Below.refl _ _ | with_reducible assumption | (with_reducible refine Below.setCell ?_ ?_ _) | (with_reducible refine Below.alloc ?_ ?_ _) | (with_reducible refine Below.drew ?_) | (with_reducible refine below_drewN ?_ _) | (with_reducible refine Below.trans ?_ (Below.mono (g1) ?_)))); all_goals (first | omega | (simp; done) | (simp; omega) | (simp [*]; done) | (simp at *; omega)))⟩
end
end Go.Proofs.Ytpfijhcjempfjaa
