/- Contracts and lemmas, put together. -/
import Derived.Test.YticmopedbgoflaaPkB
/- Contracts: ValueAt. -/
namespace Go.Proofs.Yticmopedbgoflaa
set_option linter.unusedSimpArgs false
set_option linter.unusedVariables false
open Go.RowKit

section
set_option maxHeartbeats 1000000
def ifN (b : Bool) (x : Int) : Int := if b then x else 0
set_option linter.unusedVariables false in
theorem iVal_all (e0 e1 ok ok2 : Bool) (p q : List Int) (R C R2 C2 r c : Int) (A X : Option Addr) (b x : List Int) (n m ca cx : Nat) (w : World) (hn : b.length = n) (hm : x.length = m)
    (ha : Rd w A b) (hx : Rd w X x) (hl : n ≤ 1099511627776) (hl2 : m ≤ 1099511627776)
    (HG : ∀ W, Rd W A b → Calls Try.prog 71 #[.agg #[.int .i64 r, .int .i64 c, .slice A n ca]] W fun e w' => e = .returned (.bool e0) ∧ Grows W w')
    (HM : ∀ W B cb, Rd W B x → Rd W A b → Calls Try.prog 19 #[.agg #[.int .i64 1, .int .i64 m, .slice B m cb], .agg #[.int .i64 r, .int .i64 c, .slice A n ca]] W fun e w' =>
      ∃ v, e = .returned (.tuple #[.agg #[.int .i64 R, .int .i64 C, v], .bool ok]) ∧ Own w' W.heap.size v p ∧ Grows W w')
    (HM2 : ∀ W B cb D cd, Rd W B p → Rd W D x → Calls Try.prog 19 #[.agg #[.int .i64 R, .int .i64 C, .slice B p.length cb], .agg #[.int .i64 m, .int .i64 1, .slice D m cd]] W fun e w' =>
      ∃ v, e = .returned (.tuple #[.agg #[.int .i64 R2, .int .i64 C2, v], .bool ok2]) ∧ Own w' W.heap.size v q ∧ Grows W w')
    (he : ((m : Int) == r) = e1) (hq : (e0 && e1 && ok && ok2) = true → 0 < q.length) :
    Calls Try.prog 15 #[.agg #[.int .i64 r, .int .i64 c, .slice A n ca], .slice X m cx] w fun e w' =>
      e = .returned (.tuple #[.int .i64 (ifN (e0 && e1 && ok && ok2) (nth q 0)), .bool (e0 && e1 && ok && ok2)]) ∧ Grows w w' := by
  have HG' := Lib.hid HG
  have HM' := Lib.hid HM
  have HM2' := Lib.hid HM2
  have HQ := Lib.hid hq
  have HX := Lib.hid hm
  have HE' : ((m : Int) != r) = !e1 := by rw [bne, he]
  have HR := Lib.hid fun W h => rowMatrix_c X x m cx W hm h hl2
  have HC := Lib.hid fun W h => columnOf_c X x m cx W hm h hl2
  clear HM HM2 HG hn hm he hq
  cases e0
  · go_enter Try.func15, Try.ntmps15
    go_wp2_with fail
    refine (HG'.out _ (by exact (Rd.grows ha (by exact bel0)))).mono ?_; rintro e w1 ⟨rfl, g1⟩
    go_wp2_with fail
    go_ret2
    exact ⟨by simp [ifN], by exact bel1 g1⟩
  · cases e1
    · go_enter Try.func15, Try.ntmps15
      go_wp2_with fail
      refine (HG'.out _ (by exact (Rd.grows ha (by exact bel0)))).mono ?_; rintro e w1 ⟨rfl, g1⟩
      have mb := (MBox.mk_ w r c (.slice A n ca) 26).grows (w' := w1) (by exact bel1 g1)
      obtain ⟨b0, b1, b2⟩ := mb.cells
      go_wp2_with fail
      go_ret2
      exact ⟨by simp [ifN], by exact bel1 g1⟩
    · go_enter Try.func15, Try.ntmps15
      go_wp2_with fail
      refine (HG'.out _ (by exact (Rd.grows ha (by exact bel0)))).mono ?_; rintro e w1 ⟨rfl, g1⟩
      have mb := (MBox.mk_ w r c (.slice A n ca) 26).grows (w' := w1) (by exact bel1 g1)
      obtain ⟨b0, b1, b2⟩ := mb.cells
      have bl := mb.lt
      have gw : Grows w w1 := by exact bel1 g1
      have z1 := Below.size g1; simp at z1
      go_upto_region 3 with fail
      go_cut [6, 7] (fun s6 s7 wx => ∃ g A3 c3, s6 = .pointer (some ⟨g, 0, none⟩) ∧ s7 = .bool ok ∧ Own wx w.heap.size (.slice A3 p.length c3) p ∧ Grows w wx ∧ MBox wx g R C (.slice A3 p.length c3))
      case first =>
        go_region_held3 (fun W => W.cell? ⟨w.heap.size, 0, none⟩ = some (.int .i64 r) ∧ W.cell? ⟨w.heap.size, 1, none⟩ = some (.int .i64 c) ∧ W.cell? ⟨w.heap.size, 2, none⟩ = some (.slice A n ca)) ((refine MBox.cells (mb.grows ?_); first | exact bel2 g3 g2 | exact bel1 g2 | exact bel0))
          (first
           | (go_at_call 72; refine (HR.out _ (by exact (Rd.grows hx (by exact bel1 gw)))).mono ?_; rintro e w2 ⟨v2, rfl, ho2, g2⟩; obtain ⟨A2, c2, rfl, hr2, _⟩ := ho2.val; rw [HX.out]; have z2 := Below.size g2; (try simp at z2); (try (have q := (MBox.mk_ w1 0 0 (.slice none 0 0) 26).grows (w' := w2) (Grows.trans (show Grows _ _ from (Below.refl _ _).drew) g2))))
           | (go_at_call 19; refine (HM'.out _ _ _ (by exact (Rd.grows hr2 (by exact bel0))) (by exact (Rd.grows ha (by exact bel2 g2 gw)))).mono ?_; rintro e w3 ⟨v3, rfl, ho3, g3⟩; obtain ⟨A3, c3, rfl, hr3, _⟩ := ho3.val; have z3 := Below.size g3; (try simp at z3); (first | (replace q := q.grows g3) | (have q := MBox.grows (MBox.mk_ w2 0 0 (.slice none 0 0) 26) g3) | skip); (try (obtain ⟨q0, q1, q2⟩ := q.cells; have qf := q.fz; have ql := q.lt))))
        all_goals
          go_wp2_with fail
          go_meet
          exact ⟨_, _, _, rfl, rfl, by (have hb_ := fun k hk => World.ownsRow.lt ho3 k hk; have ho_ := Own.less ho3 (show w.heap.size ≤ _ by first | omega | (simp; done) | (simp; omega)); (repeat' (first | with_reducible exact ho_ | with_reducible refine Own.alloc ?_ _ | with_reducible refine Own.drew ?_ | with_reducible refine Own.far ?_ ?_ _)); all_goals first | (intro k hk; have := hb_ k hk; (try simp at this); (try simp); omega) | omega | (simp; done) | (simp; omega)), by exact bel3 g3 g2 gw, by first | exact MBox.put q _ _ _ | exact MBox.mk_ _ _ _ _ _ | exact MBox.put (MBox.mk_ _ _ _ _ _) _ _ _⟩
      case rest =>
        obtain ⟨g, A3, c3, rfl, rfl, ho, hgr, hmp⟩ := hcut
        have hrp := ho.rd_
        have hsz := Below.size hgr
        clear g1 mb b0 b1 b2 bl gw z1 ho
        cases ok
        · go_wp2_with fail
          go_ret2
          exact ⟨by simp [ifN], by exact bel1 hgr⟩
        · go_upto_region 6 with fail
          go_cut [8, 9] (fun s8 s9 wx => ∃ g A4 c4, s8 = .pointer (some ⟨g, 0, none⟩) ∧ s9 = .bool ok2 ∧ Own wx w.heap.size (.slice A4 q.length c4) q ∧ Grows w wx ∧ MBox wx g R2 C2 (.slice A4 q.length c4))
          case first =>
            have bl := hmp.lt
            go_region_held3 (fun W => W.cell? ⟨g, 0, none⟩ = some (.int .i64 R) ∧ W.cell? ⟨g, 1, none⟩ = some (.int .i64 C) ∧ W.cell? ⟨g, 2, none⟩ = some (.slice A3 p.length c3)) ((refine MBox.cells (hmp.grows ?_); first | exact bel2 g3 g2 | exact bel1 g2 | exact bel0))
              (first
               | (go_at_call 73; refine (HC.out _ (by exact (Rd.grows hx (by exact bel1 hgr)))).mono ?_; rintro e w2 ⟨v2, rfl, ho2, g2⟩; obtain ⟨A2, c2, rfl, hr2, _⟩ := ho2.val; rw [HX.out]; have z2 := Below.size g2; (try simp at z2); (try (have q := (MBox.mk_ wc 0 0 (.slice none 0 0) 26).grows (w' := w2) (Grows.trans (show Grows _ _ from (Below.refl _ _).drew) g2))))
               | (go_at_call 19; refine (HM2'.out _ _ _ _ _ (by exact (Rd.grows hrp (by exact bel1 g2))) (by exact (Rd.grows hr2 (by exact bel0)))).mono ?_; rintro e w3 ⟨v3, rfl, ho3, g3⟩; obtain ⟨A4, c4, rfl, hr3, _⟩ := ho3.val; have z3 := Below.size g3; (try simp at z3); (first | (replace q := q.grows g3) | (have q := MBox.grows (MBox.mk_ w2 0 0 (.slice none 0 0) 26) g3) | skip); (try (obtain ⟨q0, q1, q2⟩ := q.cells; have qf := q.fz; have ql := q.lt))))
            all_goals
              go_wp2_with fail
              go_meet
              exact ⟨_, _, _, rfl, rfl, by (have hb_ := fun k hk => World.ownsRow.lt ho3 k hk; have ho_ := Own.less ho3 (show w.heap.size ≤ _ by first | omega | (simp; done) | (simp; omega)); (repeat' (first | with_reducible exact ho_ | with_reducible refine Own.alloc ?_ _ | with_reducible refine Own.drew ?_ | with_reducible refine Own.far ?_ ?_ _)); all_goals first | (intro k hk; have := hb_ k hk; (try simp at this); (try simp); omega) | omega | (simp; done) | (simp; omega)), by exact bel3 g3 g2 hgr, by first | exact MBox.put q _ _ _ | exact MBox.mk_ _ _ _ _ _ | exact MBox.put (MBox.mk_ _ _ _ _ _) _ _ _⟩
          case rest =>
            clear hrp hmp hgr hsz
            obtain ⟨g2, A4, c4, rfl, rfl, ho, hgr, hmp⟩ := hcut
            cases ok2
            · go_wp2_with fail
              go_ret2
              exact ⟨by simp [ifN], by exact bel1 hgr⟩
            · have hql := HQ.out rfl
              obtain ⟨b0, b1, b2⟩ := hmp.cells
              obtain ⟨bp, op, rfl, hbp, hcp⟩ := ho.rd_.at_ 0 hql
              rw [Nat.add_zero] at hcp
              have i1 : (0 : Int) < (q.length : Int) := by omega
              go_wp2_with fail
              go_ret2
              exact ⟨by simp [ifN], by exact bel1 hgr⟩

set_option linter.unusedVariables false in
theorem sVal_all (e0 e1 ok ok2 : Bool) (p q : List Int) (R C R2 C2 r c : Int) (A X : Option Addr) (b x : List Int) (n m ca cx : Nat) (w : World) (hn : b.length = n) (hm : x.length = m)
    (ha : Rd w A b) (hx : Rd w X x) (hl : n ≤ 1099511627776) (hl2 : m ≤ 1099511627776)
    (HG : ∀ W, Rd W A b → Calls Try.prog 74 #[.agg #[.int .i64 r, .int .i64 c, .slice A n ca]] W fun e w' => e = .returned (.bool e0) ∧ Grows W w')
    (HM : ∀ W, Rd W X x → Rd W A b → Calls Try.prog 75 #[.agg #[.int .i64 1, .int .i64 m, .slice X m cx], .agg #[.int .i64 r, .int .i64 c, .slice A n ca]] W fun e w' =>
      ∃ v, e = .returned (.tuple #[.agg #[.int .i64 R, .int .i64 C, v], .bool ok]) ∧ Own w' W.heap.size v p ∧ Grows W w')
    (HM2 : ∀ W B cb, Rd W B p → Rd W X x → Calls Try.prog 75 #[.agg #[.int .i64 R, .int .i64 C, .slice B p.length cb], .agg #[.int .i64 m, .int .i64 1, .slice X m cx]] W fun e w' =>
      ∃ v, e = .returned (.tuple #[.agg #[.int .i64 R2, .int .i64 C2, v], .bool ok2]) ∧ Own w' W.heap.size v q ∧ Grows W w')
    (he : ((m : Int) == r) = e1) (hq : (e0 && e1 && ok && ok2) = true → 0 < q.length) :
    Calls Try.prog 16 #[.agg #[.int .i64 r, .int .i64 c, .slice A n ca], .slice X m cx] w fun e w' =>
      e = .returned (.tuple #[.int .i64 (ifN (e0 && e1 && ok && ok2) (nth q 0)), .bool (e0 && e1 && ok && ok2)]) ∧ Grows w w' := by
  have HG' := Lib.hid HG
  have HM' := Lib.hid HM
  have HM2' := Lib.hid HM2
  have HQ := Lib.hid hq
  have HE' : ((m : Int) != r) = !e1 := by rw [bne, he]
  clear HM HM2 HG hn hm he hq
  cases e0
  · go_enter Try.func16, Try.ntmps16
    go_wp2_with fail
    refine (HG'.out _ (by exact (Rd.grows ha (by exact bel0)))).mono ?_; rintro e w1 ⟨rfl, g1⟩
    go_wp2_with fail
    go_ret2
    exact ⟨by simp [ifN], by exact bel1 g1⟩
  · cases e1
    · go_enter Try.func16, Try.ntmps16
      go_wp2_with fail
      refine (HG'.out _ (by exact (Rd.grows ha (by exact bel0)))).mono ?_; rintro e w1 ⟨rfl, g1⟩
      have mb := (MBox.mk_ w r c (.slice A n ca) 26).grows (w' := w1) (by exact bel1 g1)
      obtain ⟨b0, b1, b2⟩ := mb.cells
      go_wp2_with fail
      go_ret2
      exact ⟨by simp [ifN], by exact bel1 g1⟩
    · go_enter Try.func16, Try.ntmps16
      go_wp2_with fail
      refine (HG'.out _ (by exact (Rd.grows ha (by exact bel0)))).mono ?_; rintro e w1 ⟨rfl, g1⟩
      have mb := (MBox.mk_ w r c (.slice A n ca) 26).grows (w' := w1) (by exact bel1 g1)
      have mx := (MBox.mk_ (w.alloc (.cells #[.int .i64 r, .int .i64 c, .slice A n ca] 26)) 1 m (.slice X m cx) 26).grows (w' := w1) (by exact bel1 g1)
      rw [World.size_alloc] at mx
      obtain ⟨b0, b1, b2⟩ := mb.cells
      obtain ⟨x0, x1, x2⟩ := mx.cells
      have bl := mb.lt
      have xl := mx.lt
      have gw : Grows w w1 := by exact bel1 g1
      go_wp2_with fail
      refine (HM'.out _ (by exact (Rd.grows hx (by exact bel1 gw))) (by exact (Rd.grows ha (by exact bel1 gw)))).mono ?_; rintro e w2 ⟨v2, rfl, ho2, g2⟩
      obtain ⟨A2, c2, rfl, hr2, _⟩ := ho2.val
      cases ok
      · go_wp2_with fail
        go_ret2
        exact ⟨by simp [ifN], by exact bel2 g2 gw⟩
      · go_wp2_with fail
        refine (HM2'.out _ _ _ (by exact (Rd.grows hr2 (by exact bel0))) (by exact (Rd.grows hx (by exact bel2 g2 gw)))).mono ?_; rintro e w3 ⟨v3, rfl, ho3, g3⟩
        obtain ⟨A3, c3, rfl, hr3, _⟩ := ho3.val
        cases ok2
        · go_wp2_with fail
          go_ret2
          exact ⟨by simp [ifN], by exact bel3 g3 g2 gw⟩
        · have hql := HQ.out rfl
          obtain ⟨bp, op, rfl, hbp, hcp⟩ := hr3.at_ 0 hql
          rw [Nat.add_zero] at hcp
          have i1 : (0 : Int) < (q.length : Int) := by omega
          go_wp2_with fail
          go_ret2
          exact ⟨by simp [ifN], by exact bel3 g3 g2 gw⟩

def vP (r c : Int) (g x : List Int) : List Int := mulV 1 x.length x r c g
def vR (r c : Int) (g x : List Int) : Int := mulR 1 x.length x r c g
def vC (r c : Int) (g x : List Int) : Int := mulC 1 x.length x r c g
def vQ (r c : Int) (g x : List Int) : List Int := mulV (vR r c g x) (vC r c g x) (vP r c g x) x.length 1 x
def vOk (r c : Int) (g x : List Int) : Bool := isGram r c g && ((x.length : Int) == r) && mulOk 1 x.length x r c g && mulOk (vR r c g x) (vC r c g x) (vP r c g x) x.length 1 x
def vVal (r c : Int) (g x : List Int) : Int := ifN (vOk r c g x) (nth (vQ r c g x) 0)
theorem vQ_pos {r c : Int} {g x : List Int} (h : vOk r c g x = true) : 0 < (vQ r c g x).length := by
  unfold vOk at h
  rw [Bool.and_eq_true, Bool.and_eq_true] at h
  have h1 : vR r c g x = 1 := by unfold vR mulR; rw [h.1.2]; rfl
  unfold vQ mulV
  rw [h.2, if_pos rfl, mulL_length, h1]
  simp
theorem iValueAt_c (r c : Int) (A X : Option Addr) (b x : List Int) (n m ca cx : Nat) (w : World) (hn : b.length = n) (hm : x.length = m) (ha : Rd w A b) (hx : Rd w X x) (hl : n ≤ 1099511627776) (hl2 : m ≤ 1099511627776) :
    Calls Try.prog 15 #[.agg #[.int .i64 r, .int .i64 c, .slice A n ca], .slice X m cx] w fun e w' =>
      e = .returned (.tuple #[.int .i64 (vVal r c b x), .bool (vOk r c b x)]) ∧ Grows w w' := by
  subst hm
  have hp : (vP r c b x).length ≤ 1099511627776 := by have := mulV_length 1 x.length x r c b; unfold vP; omega
  exact iVal_all _ _ _ _ (vP r c b x) (vQ r c b x) (vR r c b x) (vC r c b x) _ _ r c A X b x n _ ca cx w hn rfl ha hx hl hl2 (fun W h => iIsGram_c r c A b n ca W hn h hl)
    (fun W B cb h h' => iMul_c 1 x.length r c B A x b x.length n cb ca W rfl hn h h' hl2 hl)
    (fun W B cb D cd h h' => iMul_c _ _ x.length 1 B D (vP r c b x) x _ x.length cb cd W rfl rfl h h' hp hl2) rfl vQ_pos
theorem sValueAt_c (r c : Int) (A X : Option Addr) (b x : List Int) (n m ca cx : Nat) (w : World) (hn : b.length = n) (hm : x.length = m) (ha : Rd w A b) (hx : Rd w X x) (hl : n ≤ 1099511627776) (hl2 : m ≤ 1099511627776) :
    Calls Try.prog 16 #[.agg #[.int .i64 r, .int .i64 c, .slice A n ca], .slice X m cx] w fun e w' =>
      e = .returned (.tuple #[.int .i64 (vVal r c b x), .bool (vOk r c b x)]) ∧ Grows w w' := by
  subst hm
  have hp : (vP r c b x).length ≤ 1099511627776 := by have := mulV_length 1 x.length x r c b; unfold vP; omega
  exact sVal_all _ _ _ _ (vP r c b x) (vQ r c b x) (vR r c b x) (vC r c b x) _ _ r c A X b x n _ ca cx w hn rfl ha hx hl hl2 (fun W h => sIsGram_c r c A b n ca W hn h hl)
    (fun W h h' => sMul_c 1 x.length r c X A x b x.length n cx ca W rfl hn h h' hl2 hl)
    (fun W B cb h h' => sMul_c _ _ x.length 1 B X (vP r c b x) x _ x.length cb cx W rfl rfl h h' hp hl2) rfl vQ_pos
end
end Go.Proofs.Yticmopedbgoflaa
