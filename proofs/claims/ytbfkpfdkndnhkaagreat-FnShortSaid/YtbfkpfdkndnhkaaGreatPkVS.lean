/- Contracts and lemmas, put together. -/
import Derived.Test.YtbfkpfdkndnhkaaGreatPkB
import Derived.Test.YtbfkpfdkndnhkaaGreatPkCS
import Derived.Test.YtbfkpfdkndnhkaaGreatPkD
/- Contracts: ValueAt. -/
namespace Go.Proofs.YtbfkpfdkndnhkaaGreat
set_option linter.unusedSimpArgs false
set_option linter.unusedVariables false
open Go.RowKit

section
set_option maxHeartbeats 1000000
def ifN (b : Bool) (x : Int) : Int := if b then x else 0
set_option linter.unusedVariables false in
theorem iVal_all (e0 e1 ok ok2 : Bool) (p q : List Int) (R C R2 C2 r c : Int) (A X : Option Addr) (b x : List Int) (n m ca cx : Nat) (w : World) (hn : b.length = n) (hm : x.length = m)
    (ha : Rd w A b) (hx : Rd w X x) (hl : n ≤ 1099511627776) (hl2 : m ≤ 1099511627776)
    (HG : ∀ W, Rd W A b → Calls Tryz.prog 28 #[.agg #[.int .i64 r, .int .i64 c, .slice A n ca]] W fun e w' => e = .returned (.bool e0) ∧ Grows W w')
    (HM : ∀ W B cb, Rd W B x → Rd W A b → Calls Tryz.prog 29 #[.agg #[.int .i64 1, .int .i64 m, .slice B m cb], .agg #[.int .i64 r, .int .i64 c, .slice A n ca]] W fun e w' =>
      ∃ v, e = .returned (.tuple #[.agg #[.int .i64 R, .int .i64 C, v], .bool ok]) ∧ Own w' W.heap.size v p ∧ Grows W w')
    (HM2 : ∀ W B cb D cd, Rd W B p → Rd W D x → Calls Tryz.prog 29 #[.agg #[.int .i64 R, .int .i64 C, .slice B p.length cb], .agg #[.int .i64 m, .int .i64 1, .slice D m cd]] W fun e w' =>
      ∃ v, e = .returned (.tuple #[.agg #[.int .i64 R2, .int .i64 C2, v], .bool ok2]) ∧ Own w' W.heap.size v q ∧ Grows W w')
    (he : ((m : Int) == r) = e1) (hq : (e0 && e1 && ok && ok2) = true → 0 < q.length) :
    Calls Tryz.prog 10 #[.agg #[.int .i64 r, .int .i64 c, .slice A n ca], .slice X m cx] w fun e w' =>
      e = .returned (.tuple #[.int .i64 (ifN (e0 && e1 && ok && ok2) (nth q 0)), .bool (e0 && e1 && ok && ok2)]) ∧ Grows w w' := by
  have HG' := Lib.hid HG
  have HM' := Lib.hid HM
  have HM2' := Lib.hid HM2
  have HQ := Lib.hid hq
  have HX := Lib.hid hm
  have HE' : ((m : Int) != r) = !e1 := by rw [bne, he]
  have HR := Lib.hid fun W h => rowMatrix_c X x m cx W hm h hl2
  have HC := Lib.hid fun W h => columnOf_c X x m cx W hm h hl2
  clear HM HM2 HG hn hm he hq
  cases e0
  · go_enter Tryz.func10, Tryz.ntmps10
    go_wp2_with fail
    refine (HG'.out _ (by exact (Rd.grows ha (by exact bel0)))).mono ?_; rintro e w1 ⟨rfl, g1⟩
    go_wp2_with fail
    go_ret2
    exact ⟨by simp [ifN], by exact bel1 g1⟩
  · cases e1
    · go_enter Tryz.func10, Tryz.ntmps10
      go_wp2_with fail
      refine (HG'.out _ (by exact (Rd.grows ha (by exact bel0)))).mono ?_; rintro e w1 ⟨rfl, g1⟩
      have mb := (MBox.mk_ w r c (.slice A n ca) 26).grows (w' := w1) (by exact bel1 g1)
      obtain ⟨b0, b1, b2⟩ := mb.cells
      go_wp2_with fail
      go_ret2
      exact ⟨by simp [ifN], by exact bel1 g1⟩
    · go_enter Tryz.func10, Tryz.ntmps10
      go_wp2_with fail
      refine (HG'.out _ (by exact (Rd.grows ha (by exact bel0)))).mono ?_; rintro e w1 ⟨rfl, g1⟩
      have mb := (MBox.mk_ w r c (.slice A n ca) 26).grows (w' := w1) (by exact bel1 g1)
      obtain ⟨b0, b1, b2⟩ := mb.cells
      have bl := mb.lt
      have gw : Grows w w1 := by exact bel1 g1
      have z1 := Below.size g1; simp at z1
      go_upto_region 3 with fail
      go_cut [6, 7] (fun s6 s7 wx => ∃ g A3 c3, s6 = .pointer (some ⟨g, 0, none⟩) ∧ s7 = .bool ok ∧ Own wx w.heap.size (.slice A3 p.length c3) p ∧ Grows w wx ∧ MBox wx g R C (.slice A3 p.length c3))
      case first =>
        go_region_held3 (fun W => W.cell? ⟨w.heap.size, 0, none⟩ = some (.int .i64 r) ∧ W.cell? ⟨w.heap.size, 1, none⟩ = some (.int .i64 c) ∧ W.cell? ⟨w.heap.size, 2, none⟩ = some (.slice A n ca)) ((refine MBox.cells (mb.grows ?_); first | exact bel2 g3 g2 | exact bel1 g2 | exact bel0))
          (first
           | (go_at_call 30; refine (HR.out _ (by exact (Rd.grows hx (by exact bel1 gw)))).mono ?_; rintro e w2 ⟨v2, rfl, ho2, g2⟩; obtain ⟨A2, c2, rfl, hr2, _⟩ := ho2.val; rw [HX.out]; have z2 := Below.size g2; (try simp at z2); (try (have q := (MBox.mk_ w1 0 0 (.slice none 0 0) 26).grows (w' := w2) (Grows.trans (show Grows _ _ from (Below.refl _ _).drew) g2))))
           | (go_at_call 29; refine (HM'.out _ _ _ (by exact (Rd.grows hr2 (by exact bel0))) (by exact (Rd.grows ha (by exact bel2 g2 gw)))).mono ?_; rintro e w3 ⟨v3, rfl, ho3, g3⟩; obtain ⟨A3, c3, rfl, hr3, _⟩ := ho3.val; have z3 := Below.size g3; (try simp at z3); (first | (replace q := q.grows g3) | (have q := MBox.grows (MBox.mk_ w2 0 0 (.slice none 0 0) 26) g3) | skip); (try (obtain ⟨q0, q1, q2⟩ := q.cells; have qf := q.fz; have ql := q.lt))))
        all_goals
          go_wp2_with fail
          go_meet
          exact ⟨_, _, _, rfl, rfl, by (have hb_ := fun k hk => World.ownsRow.lt ho3 k hk; have ho_ := Own.less ho3 (show w.heap.size ≤ _ by first | omega | (simp; done) | (simp; omega)); (repeat' (first | with_reducible exact ho_ | with_reducible refine Own.alloc ?_ _ | with_reducible refine Own.drew ?_ | with_reducible refine Own.far ?_ ?_ _)); all_goals first | (intro k hk; have := hb_ k hk; (try simp at this); (try simp); omega) | omega | (simp; done) | (simp; omega)), by exact bel3 g3 g2 gw, by first | exact MBox.put q _ _ _ | exact MBox.mk_ _ _ _ _ _ | exact MBox.put (MBox.mk_ _ _ _ _ _) _ _ _⟩
      case rest =>
        obtain ⟨g, A3, c3, rfl, rfl, ho, hgr, hmp⟩ := hcut
        have hrp := ho.rd_
        have hsz := Below.size hgr
        clear g1 mb b0 b1 b2 bl gw z1 ho
        cases ok
        · go_wp2_with fail
          go_ret2
          exact ⟨by simp [ifN], by exact bel1 hgr⟩
        · go_upto_region 6 with fail
          go_cut [8, 9] (fun s8 s9 wx => ∃ g A4 c4, s8 = .pointer (some ⟨g, 0, none⟩) ∧ s9 = .bool ok2 ∧ Own wx w.heap.size (.slice A4 q.length c4) q ∧ Grows w wx ∧ MBox wx g R2 C2 (.slice A4 q.length c4))
          case first =>
            have bl := hmp.lt
            go_region_held3 (fun W => W.cell? ⟨g, 0, none⟩ = some (.int .i64 R) ∧ W.cell? ⟨g, 1, none⟩ = some (.int .i64 C) ∧ W.cell? ⟨g, 2, none⟩ = some (.slice A3 p.length c3)) ((refine MBox.cells (hmp.grows ?_); first | exact bel2 g3 g2 | exact bel1 g2 | exact bel0))
              (first
               | (go_at_call 31; refine (HC.out _ (by exact (Rd.grows hx (by exact bel1 hgr)))).mono ?_; rintro e w2 ⟨v2, rfl, ho2, g2⟩; obtain ⟨A2, c2, rfl, hr2, _⟩ := ho2.val; rw [HX.out]; have z2 := Below.size g2; (try simp at z2); (try (have q := (MBox.mk_ wc 0 0 (.slice none 0 0) 26).grows (w' := w2) (Grows.trans (show Grows _ _ from (Below.refl _ _).drew) g2))))
               | (go_at_call 29; refine (HM2'.out _ _ _ _ _ (by exact (Rd.grows hrp (by exact bel1 g2))) (by exact (Rd.grows hr2 (by exact bel0)))).mono ?_; rintro e w3 ⟨v3, rfl, ho3, g3⟩; obtain ⟨A4, c4, rfl, hr3, _⟩ := ho3.val; have z3 := Below.size g3; (try simp at z3); (first | (replace q := q.grows g3) | (have q := MBox.grows (MBox.mk_ w2 0 0 (.slice none 0 0) 26) g3) | skip); (try (obtain ⟨q0, q1, q2⟩ := q.cells; have qf := q.fz; have ql := q.lt))))
            all_goals
              go_wp2_with fail
              go_meet
              exact ⟨_, _, _, rfl, rfl, by (have hb_ := fun k hk => World.ownsRow.lt ho3 k hk; have ho_ := Own.less ho3 (show w.heap.size ≤ _ by first | omega | (simp; done) | (simp; omega)); (repeat' (first | with_reducible exact ho_ | with_reducible refine Own.alloc ?_ _ | with_reducible refine Own.drew ?_ | with_reducible refine Own.far ?_ ?_ _)); all_goals first | (intro k hk; have := hb_ k hk; (try simp at this); (try simp); omega) | omega | (simp; done) | (simp; omega)), by exact bel3 g3 g2 hgr, by first | exact MBox.put q _ _ _ | exact MBox.mk_ _ _ _ _ _ | exact MBox.put (MBox.mk_ _ _ _ _ _) _ _ _⟩
          case rest =>
            clear hrp hmp hgr hsz
            obtain ⟨g2, A4, c4, rfl, rfl, ho, hgr, hmp⟩ := hcut
            cases ok2
            · go_wp2_with fail
              go_ret2
              exact ⟨by simp [ifN], by exact bel1 hgr⟩
            · have hql := HQ.out rfl
              obtain ⟨b0, b1, b2⟩ := hmp.cells
              obtain ⟨bp, op, rfl, hbp, hcp⟩ := ho.rd_.at_ 0 hql
              rw [Nat.add_zero] at hcp
              have i1 : (0 : Int) < (q.length : Int) := by omega
              go_wp2_with fail
              go_ret2
              exact ⟨by simp [ifN], by exact bel1 hgr⟩

set_option linter.unusedVariables false in
theorem sVal_all (e0 e1 ok ok2 : Bool) (p q : List Int) (R C R2 C2 r c : Int) (A X : Option Addr) (b x : List Int) (n m ca cx : Nat) (w : World) (hn : b.length = n) (hm : x.length = m)
    (ha : Rd w A b) (hx : Rd w X x) (hl : n ≤ 1099511627776) (hl2 : m ≤ 1099511627776)
    (HG : ∀ W, Rd W A b → Calls Tryz.prog 53 #[.agg #[.int .i64 r, .int .i64 c, .slice A n ca]] W fun e w' => e = .returned (.bool e0) ∧ Grows W w')
    (HM : ∀ W, Rd W X x → Rd W A b → Calls Tryz.prog 54 #[.agg #[.int .i64 1, .int .i64 m, .slice X m cx], .agg #[.int .i64 r, .int .i64 c, .slice A n ca]] W fun e w' =>
      ∃ v, e = .returned (.tuple #[.agg #[.int .i64 R, .int .i64 C, v], .bool ok]) ∧ Own w' W.heap.size v p ∧ Grows W w')
    (HM2 : ∀ W B cb, Rd W B p → Rd W X x → Calls Tryz.prog 54 #[.agg #[.int .i64 R, .int .i64 C, .slice B p.length cb], .agg #[.int .i64 m, .int .i64 1, .slice X m cx]] W fun e w' =>
      ∃ v, e = .returned (.tuple #[.agg #[.int .i64 R2, .int .i64 C2, v], .bool ok2]) ∧ Own w' W.heap.size v q ∧ Grows W w')
    (he : ((m : Int) == r) = e1) (hq : (e0 && e1 && ok && ok2) = true → 0 < q.length) :
    Calls Tryz.prog 20 #[.agg #[.int .i64 r, .int .i64 c, .slice A n ca], .slice X m cx] w fun e w' =>
      e = .returned (.tuple #[.int .i64 (ifN (e0 && e1 && ok && ok2) (nth q 0)), .bool (e0 && e1 && ok && ok2)]) ∧ Grows w w' := by
  have HG' := Lib.hid HG
  have HM' := Lib.hid HM
  have HM2' := Lib.hid HM2
  have HQ := Lib.hid hq
  have HE' : ((m : Int) != r) = !e1 := by rw [bne, he]
  clear HM HM2 HG hn hm he hq
  cases e0
  · go_enter Tryz.func20, Tryz.ntmps20
    go_wp2_with fail
    refine (HG'.out _ (by exact (Rd.grows ha (by exact bel0)))).mono ?_; rintro e w1 ⟨rfl, g1⟩
    go_wp2_with fail
    go_ret2
    exact ⟨by simp [ifN], by exact bel1 g1⟩
  · cases e1
    · go_enter Tryz.func20, Tryz.ntmps20
      go_wp2_with fail
      refine (HG'.out _ (by exact (Rd.grows ha (by exact bel0)))).mono ?_; rintro e w1 ⟨rfl, g1⟩
      have mb := (MBox.mk_ w r c (.slice A n ca) 26).grows (w' := w1) (by exact bel1 g1)
      obtain ⟨b0, b1, b2⟩ := mb.cells
      go_wp2_with fail
      go_ret2
      exact ⟨by simp [ifN], by exact bel1 g1⟩
    · go_enter Tryz.func20, Tryz.ntmps20
      go_wp2_with fail
      refine (HG'.out _ (by exact (Rd.grows ha (by exact bel0)))).mono ?_; rintro e w1 ⟨rfl, g1⟩
      have mb := (MBox.mk_ w r c (.slice A n ca) 26).grows (w' := w1) (by exact bel1 g1)
      have mx := (MBox.mk_ (w.alloc (.cells #[.int .i64 r, .int .i64 c, .slice A n ca] 26)) 1 m (.slice X m cx) 26).grows (w' := w1) (by exact bel1 g1)
      rw [World.size_alloc] at mx
      obtain ⟨b0, b1, b2⟩ := mb.cells
      obtain ⟨x0, x1, x2⟩ := mx.cells
      have bl := mb.lt
      have xl := mx.lt
      have gw : Grows w w1 := by exact bel1 g1
      go_wp2_with fail
      refine (HM'.out _ (by exact (Rd.grows hx (by exact bel1 gw))) (by exact (Rd.grows ha (by exact bel1 gw)))).mono ?_; rintro e w2 ⟨v2, rfl, ho2, g2⟩
      obtain ⟨A2, c2, rfl, hr2, _⟩ := ho2.val
      cases ok
      · go_wp2_with fail
        go_ret2
        exact ⟨by simp [ifN], by exact bel2 g2 gw⟩
      · go_wp2_with fail
        refine (HM2'.out _ _ _ (by exact (Rd.grows hr2 (by exact bel0))) (by exact (Rd.grows hx (by exact bel2 g2 gw)))).mono ?_; rintro e w3 ⟨v3, rfl, ho3, g3⟩
        obtain ⟨A3, c3, rfl, hr3, _⟩ := ho3.val
        cases ok2
        · go_wp2_with fail
          go_ret2
          exact ⟨by simp [ifN], by exact bel3 g3 g2 gw⟩
        · have hql := HQ.out rfl
          obtain ⟨bp, op, rfl, hbp, hcp⟩ := hr3.at_ 0 hql
          rw [Nat.add_zero] at hcp
          have i1 : (0 : Int) < (q.length : Int) := by omega
          go_wp2_with fail
          go_ret2
          exact ⟨by simp [ifN], by exact bel3 g3 g2 gw⟩

def vP (r c : Int) (g x : List Int) : List Int := mulV 1 x.length x r c g
def vR (r c : Int) (g x : List Int) : Int := mulR 1 x.length x r c g
def vC (r c : Int) (g x : List Int) : Int := mulC 1 x.length x r c g
def vQ (r c : Int) (g x : List Int) : List Int := mulV (vR r c g x) (vC r c g x) (vP r c g x) x.length 1 x
def vOk (r c : Int) (g x : List Int) : Bool := isGram r c g && ((x.length : Int) == r) && mulOk 1 x.length x r c g && mulOk (vR r c g x) (vC r c g x) (vP r c g x) x.length 1 x
def vVal (r c : Int) (g x : List Int) : Int := ifN (vOk r c g x) (nth (vQ r c g x) 0)
theorem vQ_pos {r c : Int} {g x : List Int} (h : vOk r c g x = true) : 0 < (vQ r c g x).length := by
  unfold vOk at h
  rw [Bool.and_eq_true, Bool.and_eq_true] at h
  have h1 : vR r c g x = 1 := by unfold vR mulR; rw [h.1.2]; rfl
  unfold vQ mulV
  rw [h.2, if_pos rfl, mulL_length, h1]
  simp
theorem iValueAt_c (r c : Int) (A X : Option Addr) (b x : List Int) (n m ca cx : Nat) (w : World) (hn : b.length = n) (hm : x.length = m) (ha : Rd w A b) (hx : Rd w X x) (hl : n ≤ 1099511627776) (hl2 : m ≤ 1099511627776) :
    Calls Tryz.prog 10 #[.agg #[.int .i64 r, .int .i64 c, .slice A n ca], .slice X m cx] w fun e w' =>
      e = .returned (.tuple #[.int .i64 (vVal r c b x), .bool (vOk r c b x)]) ∧ Grows w w' := by
  subst hm
  have hp : (vP r c b x).length ≤ 1099511627776 := by have := mulV_length 1 x.length x r c b; unfold vP; omega
  exact iVal_all _ _ _ _ (vP r c b x) (vQ r c b x) (vR r c b x) (vC r c b x) _ _ r c A X b x n _ ca cx w hn rfl ha hx hl hl2 (fun W h => iIsGram_c r c A b n ca W hn h hl)
    (fun W B cb h h' => iMul_c 1 x.length r c B A x b x.length n cb ca W rfl hn h h' hl2 hl)
    (fun W B cb D cd h h' => iMul_c _ _ x.length 1 B D (vP r c b x) x _ x.length cb cd W rfl rfl h h' hp hl2) rfl vQ_pos
theorem sValueAt_c (r c : Int) (A X : Option Addr) (b x : List Int) (n m ca cx : Nat) (w : World) (hn : b.length = n) (hm : x.length = m) (ha : Rd w A b) (hx : Rd w X x) (hl : n ≤ 1099511627776) (hl2 : m ≤ 1099511627776) :
    Calls Tryz.prog 20 #[.agg #[.int .i64 r, .int .i64 c, .slice A n ca], .slice X m cx] w fun e w' =>
      e = .returned (.tuple #[.int .i64 (vVal r c b x), .bool (vOk r c b x)]) ∧ Grows w w' := by
  subst hm
  have hp : (vP r c b x).length ≤ 1099511627776 := by have := mulV_length 1 x.length x r c b; unfold vP; omega
  exact sVal_all _ _ _ _ (vP r c b x) (vQ r c b x) (vR r c b x) (vC r c b x) _ _ r c A X b x n _ ca cx w hn rfl ha hx hl hl2 (fun W h => sIsGram_c r c A b n ca W hn h hl)
    (fun W h h' => sMul_c 1 x.length r c X A x b x.length n cx ca W rfl hn h h' hl2 hl)
    (fun W B cb h h' => sMul_c _ _ x.length 1 B X (vP r c b x) x _ x.length cb cx W rfl rfl h h' hp hl2) rfl vQ_pos
end
end Go.Proofs.YtbfkpfdkndnhkaaGreat

/- Contracts: BoxOf. -/
namespace Go.Proofs.YtbfkpfdkndnhkaaGreat
set_option linter.unusedSimpArgs false
set_option linter.unusedVariables false
open Go.RowKit

/-! ### plain -/
def bxP (a : List Int) (R : Nat) (d b : Int) : Nat → Option (List Int)
  | 0 => some []
  | k + 1 => (bxP a R d b k).bind fun s => if isNum (b * nth a (k * R + k)) then some (s ++ [rootI ((b * nth a (k * R + k)).tdiv d)]) else none
theorem bxP_none {a : List Int} {R : Nat} {d b : Int} {j k : Nat} (h : bxP a R d b j = none) (hk : j ≤ k) : bxP a R d b k = none := by
  induction k with
  | zero => rw [show j = 0 by omega] at h; exact h
  | succ k ih =>
    by_cases e : j = k + 1
    · rw [← e]; exact h
    · rw [bxP, ih (by omega)]; rfl
theorem bxP_fail {a s : List Int} {R : Nat} {d b : Int} {k : Nat} (h : bxP a R d b k = some s) (hx : isNum (b * nth a (k * R + k)) = false) : bxP a R d b (k + 1) = none := by rw [bxP, h]; simp [hx]
theorem bxP_some {a s : List Int} {R : Nat} {d b : Int} {k : Nat} (h : bxP a R d b k = some s) (hx : isNum (b * nth a (k * R + k)) = true) : bxP a R d b (k + 1) = some (s ++ [rootI ((b * nth a (k * R + k)).tdiv d)]) := by rw [bxP, h]; simp [hx]
theorem bxP_length {a s : List Int} {R : Nat} {d b : Int} {k : Nat} (h : bxP a R d b k = some s) : s.length = k := by
  induction k generalizing s with
  | zero => cases h; rfl
  | succ k ih =>
    rw [bxP] at h
    obtain ⟨s', h1, h2⟩ := Option.bind_eq_some_iff.1 h
    split at h2
    · cases h2; simp [ih h1]
    · cases h2
/-- bounds for the cells of short vectors -/
def boxO (m : MX) (b : Int) : Option (List Int) := if (adjO m).isSome && (isDef m.r m.c m.l && inB b 0 10000) then bxP (oM (adjO m)).l m.r.toNat ((dtO m).getD 0) b m.r.toNat else none
theorem boxO_def {g : MX} {b : Int} {s : List Int} (h : boxO g b = some s) : isDef g.r g.c g.l = true := by
  unfold boxO at h
  split at h
  · rename_i hh
    simp only [Bool.and_eq_true] at hh
    exact hh.2.1
  · cases h
theorem boxO_bound {g : MX} {b : Int} {s : List Int} (h : boxO g b = some s) : 0 ≤ b ∧ b ≤ 10000 := by
  unfold boxO at h
  split at h
  · rename_i hh
    simp only [Bool.and_eq_true] at hh
    have := hh.2.2
    simp only [inB_iff] at this
    exact this
  · cases h
theorem boxO_length {m : MX} {b : Int} {s : List Int} (h : boxO m b = some s) : s.length ≤ 6 := by
  unfold boxO at h
  split at h
  · rename_i hh
    simp only [Bool.and_eq_true] at hh
    obtain ⟨_, R, e1, _, hR, _⟩ := isSq_nat (isDef_sq hh.2.1)
    rw [bxP_length h, e1]
    simpa using hR
  · cases h
theorem tdiv_bd {x d : Int} (hx : isNum x = true) (_hd : 0 < d) : -400000000 ≤ x.tdiv d ∧ x.tdiv d ≤ 400000000 := by
  have := (isNum_iff _).1 hx
  have h : (x.tdiv d).natAbs ≤ x.natAbs := by rw [Int.natAbs_tdiv]; exact Nat.div_le_self _ _
  omega

section
set_option maxHeartbeats 1000000
theorem iBox_c (r c b : Int) (A : Option Addr) (l : List Int) (n cap : Nat) (w : World) (hn : l.length = n) (hcap : n ≤ cap) (hcap2 : cap ≤ 9223372036854775807) (ha : Rd w A l) (hl : n ≤ 1099511627776) :
    Calls Tryz.prog 13 #[.agg #[.int .i64 r, .int .i64 c, .slice A n cap], .int .i64 b] w fun e w' => ∃ v, e = .returned (.tuple #[v, .bool (boxO ⟨r, c, l⟩ b).isSome]) ∧ Own w' w.heap.size v (oL (boxO ⟨r, c, l⟩ b)) ∧ Grows w w' := by
  have HA := Lib.hid fun W h => iAdj_c r c A l n cap W hn h hl
  have HD := Lib.hid fun W h => iDt_c r c A l n cap W hn h hl
  have HI := fun W h => iIsDef_c r c A l n cap W hn hcap hcap2 h hl
  obtain ⟨RES, hRES⟩ : ∃ x, x = boxO ⟨r, c, l⟩ b := ⟨_, rfl⟩
  rw [← hRES]
  unfold boxO at hRES
  simp only at hRES
  have hal : (oM (adjO ⟨r, c, l⟩)).l.length ≤ 576 := oM_length fun _ h => adjO_ok h
  have hsome : isDef r c l = true → ∃ d, dtO ⟨r, c, l⟩ = some d ∧ 0 < d := fun h => isDef_det h
  have hsq : isDef r c l = true → adjO ⟨r, c, l⟩ ≠ none → ∃ R : Nat, r = R ∧ R ≤ 6 ∧ (oM (adjO ⟨r, c, l⟩)).r = R ∧ (oM (adjO ⟨r, c, l⟩)).c = R ∧ (oM (adjO ⟨r, c, l⟩)).l.length = R * R ∧ ∀ i, i < (oM (adjO ⟨r, c, l⟩)).l.length → isNum (nth (oM (adjO ⟨r, c, l⟩)).l i) = true := fun h h2 => by
    obtain ⟨_, R, rfl, rfl, hR, hlen, _⟩ := isSq_nat (isDef_sq h)
    rw [adjO_yes (isDef_sq h)] at h2 ⊢
    cases hx : allNum (adjB R l)
    · rw [hx] at h2; exact absurd rfl h2
    · exact ⟨R, rfl, hR, rfl, rfl, adjB_length _ _, (allNum_iff _).1 hx⟩
  obtain ⟨w1, hw1⟩ : ∃ w1, w1 = w.alloc (.cells #[.int .i64 r, .int .i64 c, .slice A n cap] 26) := ⟨_, rfl⟩
  have mb1 : MBox w1 w.heap.size r c (.slice A n cap) := by rw [hw1]; exact MBox.mk_ _ _ _ _ _
  have g01 : Grows w w1 := by rw [hw1]; exact bel0
  have HW1 := Lib.hid hw1
  have HR := Lib.hid hRES
  clear hw1 hRES hn
  generalize hAD : adjO ⟨r, c, l⟩ = AD at *
  generalize hDT : dtO ⟨r, c, l⟩ = DT at *
  generalize hDF : isDef r c l = DF at *
  have HI' := Lib.hid HI
  clear HI hAD hDT hDF
  go_enter Tryz.func13, Tryz.ntmps13
  go_wp2_with fail
  refine (HA.out _ (by exact (Rd.grows ha (by exact bel0)))).mono ?_; rintro e w2 ⟨v2, rfl, ho2, g2⟩
  rw [← HW1.out] at g2
  obtain ⟨A2, c2, rfl, hr2, _⟩ := ho2.val
  obtain ⟨b0, b1, b2⟩ := (mb1.grows g2).cells
  have bl := (mb1.grows g2).lt
  go_wp2_with fail
  refine (HD.out _ (by exact (Rd.grows ha (by exact bel2 g2 g01)))).mono ?_; rintro e w3 ⟨rfl, g3⟩
  clear b0 b1 b2 bl
  have ma3 := MBox.grows (MBox.mk_ w2 (oM AD).r (oM AD).c (.slice A2 (oM AD).l.length c2) 26) g3
  have g13 : Grows w1 w3 := by exact bel2 g3 g2
  have hr3 : Rd w3 A2 (oM AD).l := (Rd.grows hr2 (by exact bel1 g3))
  clear ho2 hr2 g3 g2
  obtain ⟨b0, b1, b2⟩ := (mb1.grows g13).cells
  cases AD with
  | none =>
    obtain rfl : RES = none := HR.out
    go_wp2_with fail
    go_ret2
    exact ⟨_, rfl, Own.new_ _ rfl (by have := Below.size g13; have := Below.size g01; omega), by exact bel2 g13 g01⟩
  | some ad =>
    cases DT with
    | none =>
      have hdf : DF = false := by
        cases DF
        · rfl
        · obtain ⟨d, h, _⟩ := hsome rfl; cases h
      subst hdf
      obtain rfl : RES = none := HR.out
      go_wp2_with fail
      go_ret2
      exact ⟨_, rfl, Own.new_ _ rfl (by have := Below.size g13; have := Below.size g01; omega), by exact bel2 g13 g01⟩
    | some d =>
      cases DF
      · obtain rfl : RES = none := HR.out
        go_wp2_with fail
        refine (HI'.out _ (by exact (Rd.grows ha (by exact bel2 g13 g01)))).mono ?_; rintro e w4 ⟨rfl, g4⟩
        go_wp2_with fail
        go_ret2
        exact ⟨_, rfl, Own.new_ _ rfl (by have := Below.size g13; have := Below.size g01; have := Below.size g4; omega), by exact bel3 g4 g13 g01⟩
      · obtain ⟨R, rfl, hR6, er, ec, elen, enum⟩ := hsq rfl (by simp)
        obtain ⟨d', e', hd0⟩ := hsome rfl
        cases e'
        by_cases hb : 0 ≤ b ∧ b ≤ 10000
        · obtain ⟨hb1, hb2⟩ := hb
          have hin : inB b 0 10000 = true := (inB_iff _ _ _).2 ⟨hb1, hb2⟩
          have hbn : isNum b = true := (isNum_iff _).2 (by omega)
          have hres : RES = bxP ad.l R d b R := by have := HR.out; rw [hin] at this; exact this
          have HRES := Lib.hid hres
          obtain ⟨ar, ac, al⟩ := ad
          simp only [oM_some] at er ec elen enum ma3 hr3 hal ⊢
          subst er
          subst ec
          have HEL := Lib.hid elen
          have HEN := Lib.hid enum
          have hRR : R * R ≤ 36 := Nat.mul_le_mul hR6 hR6
          clear elen enum hres hin HR hsome hsq
          go_wp2_with fail
          refine (HI'.out _ (by exact (Rd.grows ha (by exact bel2 g13 g01)))).mono ?_; rintro e w4 ⟨rfl, g4⟩
          clear b0 b1 b2
          have g14 : Grows w1 w4 := by exact bel2 g4 g13
          have ma4 := ma3.grows (w' := w4) (by exact bel1 g4)
          have hr4 := hr3.grows (w' := w4) (by exact bel1 g4)
          have mb4 := mb1.grows g14
          have hs4 := Below.size g14
          have hs1 := Below.size g01
          go_wp2_with fail
          go_loopw [10, 11] (fun o i wr => ∃ (I : Nat) (A4 : Option Addr) (s : List Int) (c4 : Nat), i = .int .i64 I ∧ I ≤ R ∧ bxP al R d b I = some s ∧ o = .slice A4 s.length c4 ∧ Own wr w4.heap.size (.slice A4 s.length c4) s ∧ Grows w4 wr) (fun _ i _ => R - (intOf i).toNat)
          case atStart => exact ⟨0, _, [], _, rfl, Nat.zero_le _, rfl, rfl, Own.new_ _ rfl (by omega), by exact bel0⟩
          case round =>
            obtain ⟨I, A4, s, c4, rfl, hI, hS, rfl, ho, hg⟩ := hrel
            have HS := Lib.hid hS
            have HSL := Lib.hid (bxP_length hS)
            clear hS
            obtain ⟨b0, b1, b2⟩ := (mb4.grows hg).cells
            obtain ⟨a0, a1, a2⟩ := (ma4.grows hg).cells
            by_cases hlt : I < R
            · have hix := idx_lt (R := R) (C := R) hlt hlt
              have hIR : I * R ≤ 36 := by have := Nat.mul_le_mul (Nat.le_of_lt hlt) (Nat.le_refl R); omega
              have q1 := castMul I R
              have q2 : (I : Int) * (R : Int) ≤ ((36 : Nat) : Int) := castMulLe hIR
              have q3 := castPos I R I
              have q4 : (I : Int) * (R : Int) + (I : Int) < (al.length : Int) := castLt (by rw [HEL.out]; exact hix)
              have C1 := fun W h => at_c R R A2 al al.length c2 I I W rfl h (by omega) (by omega) (by omega) (by omega) (by omega)
              rw [castIdx] at C1
              have C1' := Lib.hid C1
              have hxn := HEN.out (I * R + I) (by rw [HEL.out]; exact hix)
              have hmb := mul_bd hbn hxn
              have F0 := Lib.hid fun h => bxP_fail HS.out h
              have F1 := Lib.hid fun h => bxP_some HS.out h
              have hra := hr4.grows hg
              clear q1 q2 q3 q4 C1 hxn
              generalize nth al (I * R + I) = x at *
              have NX := fun W => iIsNumber_c (b * x) W
              cases hx : isNum (b * x)
              · rw [hx] at NX
                have NX' := Lib.hid NX
                obtain rfl : RES = none := by rw [HRES.out]; exact bxP_none (F0.out hx) (by omega)
                clear NX hx
                go_wp2_with fail
                refine (C1'.out _ (by exact (Rd.grows hra (by exact bel0)))).mono ?_; rintro e w5 ⟨rfl, g5⟩
                go_wp2_with (go_at_call 40; refine (NX'.out _).mono ?_; rintro e w' ⟨rfl, rfl⟩)
                go_ret2
                exact ⟨_, rfl, Own.new_ _ rfl (by have := Below.size hg; have := Below.size g5; omega), by exact bel4 g5 hg g14 g01⟩
              · rw [hx] at NX
                have NX' := Lib.hid NX
                have F := Lib.hid (F1.out hx)
                have hq := tdiv_bd hx hd0
                have HQ := Lib.hid fun W => rootOf_c ((b * x).tdiv d) W (by omega) (by omega)
                have hdne : (d == 0) = false := by rw [beq_eq_false_iff_ne]; omega
                clear NX hx
                go_wp2_with fail
                refine (C1'.out _ (by exact (Rd.grows hra (by exact bel0)))).mono ?_; rintro e w5 ⟨rfl, g5⟩
                go_wp2_with (go_at_call 40; refine (NX'.out _).mono ?_; rintro e w' ⟨rfl, rfl⟩)
                refine (HQ.out _).mono ?_; rintro e w' ⟨rfl, rfl⟩
                have ho5 := ho.grows (w' := w5) (by exact bel1 g5)
                have hs5 : w4.heap.size ≤ w5.heap.size := by have := Below.size hg; have := Below.size g5; (try simp at this); omega
                go_wp2_with (at_builtin; refine wpList_app1 rfl (.tmp 60) (.tmp 65) rfl _ _ w4.heap.size _ s (by rfl) ho5 (by rfl) (by have := HSL.out; omega) (by omega) ?_; intro v7 w7 ho7 hg7 _)
                obtain ⟨A7, c7, rfl, _, _⟩ := ho7.val
                have hb7 : Below w4.heap.size w5 w7 := below_app ho5 (by omega) hg7
                go_round
                case rel => exact ⟨I + 1, _, _, _, by go_num, by omega, F.out, rfl, ho7, by exact bel3 hb7 g5 hg⟩
                case measure => simp [intOf]; omega
            · obtain rfl : I = R := by omega
              obtain rfl : RES = some s := by rw [HRES.out]; exact HS.out
              go_wp2_with fail
              go_ret2
              exact ⟨_, rfl, ho.less (by omega), by exact bel3 hg g14 g01⟩
        · have hin : inB b 0 10000 = false := by
            cases e : inB b 0 10000
            · rfl
            · exact absurd ((inB_iff _ _ _).1 e) hb
          obtain rfl : RES = none := by have := HR.out; rw [hin] at this; exact this
          by_cases hb1 : b < 0
          · go_wp2_with fail
            refine (HI'.out _ (by exact (Rd.grows ha (by exact bel2 g13 g01)))).mono ?_; rintro e w4 ⟨rfl, g4⟩
            go_wp2_with fail
            go_ret2
            exact ⟨_, rfl, Own.new_ _ rfl (by have := Below.size g13; have := Below.size g01; have := Below.size g4; omega), by exact bel3 g4 g13 g01⟩
          · have hb2 : 10000 < b := by omega
            go_wp2_with fail
            refine (HI'.out _ (by exact (Rd.grows ha (by exact bel2 g13 g01)))).mono ?_; rintro e w4 ⟨rfl, g4⟩
            go_wp2_with fail
            go_ret2
            exact ⟨_, rfl, Own.new_ _ rfl (by have := Below.size g13; have := Below.size g01; have := Below.size g4; omega), by exact bel3 g4 g13 g01⟩

theorem sBox_c (r c b : Int) (A : Option Addr) (l : List Int) (n cap : Nat) (w : World) (hn : l.length = n) (ha : Rd w A l) (hl : n ≤ 1099511627776) :
    Calls Tryz.prog 18 #[.agg #[.int .i64 r, .int .i64 c, .slice A n cap], .int .i64 b] w fun e w' => ∃ v, e = .returned (.tuple #[v, .bool (boxO ⟨r, c, l⟩ b).isSome]) ∧ Own w' w.heap.size v (oL (boxO ⟨r, c, l⟩ b)) ∧ Grows w w' := by
  have HA := Lib.hid fun W h => sAdj_c r c A l n cap W hn h hl
  have HD := Lib.hid fun W h => sDt_c r c A l n cap W hn h hl
  have HI := fun W h => sIsDef_c r c A l n cap W hn h hl
  obtain ⟨RES, hRES⟩ : ∃ x, x = boxO ⟨r, c, l⟩ b := ⟨_, rfl⟩
  rw [← hRES]
  unfold boxO at hRES
  simp only at hRES
  have hal : (oM (adjO ⟨r, c, l⟩)).l.length ≤ 576 := oM_length fun _ h => adjO_ok h
  have hsome : isDef r c l = true → ∃ d, dtO ⟨r, c, l⟩ = some d ∧ 0 < d := fun h => isDef_det h
  have hsq : isDef r c l = true → adjO ⟨r, c, l⟩ ≠ none → ∃ R : Nat, r = R ∧ R ≤ 6 ∧ (oM (adjO ⟨r, c, l⟩)).r = R ∧ (oM (adjO ⟨r, c, l⟩)).c = R ∧ (oM (adjO ⟨r, c, l⟩)).l.length = R * R ∧ ∀ i, i < (oM (adjO ⟨r, c, l⟩)).l.length → isNum (nth (oM (adjO ⟨r, c, l⟩)).l i) = true := fun h h2 => by
    obtain ⟨_, R, rfl, rfl, hR, hlen, _⟩ := isSq_nat (isDef_sq h)
    rw [adjO_yes (isDef_sq h)] at h2 ⊢
    cases hx : allNum (adjB R l)
    · rw [hx] at h2; exact absurd rfl h2
    · exact ⟨R, rfl, hR, rfl, rfl, adjB_length _ _, (allNum_iff _).1 hx⟩
  obtain ⟨w1, hw1⟩ : ∃ w1, w1 = w.alloc (.cells #[.int .i64 r, .int .i64 c, .slice A n cap] 26) := ⟨_, rfl⟩
  have mb1 : MBox w1 w.heap.size r c (.slice A n cap) := by rw [hw1]; exact MBox.mk_ _ _ _ _ _
  have g01 : Grows w w1 := by rw [hw1]; exact bel0
  have HW1 := Lib.hid hw1
  have HR := Lib.hid hRES
  clear hw1 hRES hn
  generalize hAD : adjO ⟨r, c, l⟩ = AD at *
  generalize hDT : dtO ⟨r, c, l⟩ = DT at *
  generalize hDF : isDef r c l = DF at *
  have HI' := Lib.hid HI
  clear HI hAD hDT hDF
  go_enter Tryz.func18, Tryz.ntmps18
  go_wp2_with fail
  refine (HA.out _ (by exact (Rd.grows ha (by exact bel0)))).mono ?_; rintro e w2 ⟨v2, rfl, ho2, g2⟩
  rw [← HW1.out] at g2
  obtain ⟨A2, c2, rfl, hr2, _⟩ := ho2.val
  have ma2 := MBox.mk_ w2 (oM AD).r (oM AD).c (.slice A2 (oM AD).l.length c2) 26
  have hs2 := Below.size g2
  have hs1 := Below.size g01
  cases AD with
  | none =>
    obtain rfl : RES = none := HR.out
    go_wp2_with fail
    go_ret2
    exact ⟨_, rfl, Own.new_ _ (by simp) (by omega), by exact bel2 g2 g01⟩
  | some ad =>
    obtain ⟨b0, b1, b2⟩ := (mb1.grows g2).cells
    have bl := (mb1.grows g2).lt
    go_wp2_with fail
    refine (HI'.out _ (by exact (Rd.grows ha (by exact bel2 g2 g01)))).mono ?_; rintro e w3 ⟨rfl, g3⟩
    clear b0 b1 b2 bl
    have ma3 := ma2.grows g3
    have hr3 : Rd w3 A2 (oM (some ad)).l := (Rd.grows hr2 (by exact bel1 g3))
    have g13 : Grows w1 w3 := by exact bel2 g3 g2
    clear ma2 hr2 ho2 g3 g2
    have hs3 := Below.size g13
    cases DF
    · obtain rfl : RES = none := HR.out
      go_wp2_with fail
      go_ret2
      exact ⟨_, rfl, Own.new_ _ rfl (by omega), by exact bel2 g13 g01⟩
    · obtain ⟨R, rfl, hR6, er, ec, elen, enum⟩ := hsq rfl (by simp)
      obtain ⟨d, hd, hd0⟩ := hsome rfl
      subst hd
      have HIN := fun W => l1In_c b 0 10000 W
      obtain ⟨b0, b1, b2⟩ := (mb1.grows g13).cells
      cases hin : inB b 0 10000
      · rw [hin] at HIN
        have HIN' := Lib.hid HIN
        obtain rfl : RES = none := by have := HR.out; rw [hin] at this; exact this
        clear HIN hin
        go_wp2_with fail
        refine (HIN'.out _).mono ?_; rintro e w' ⟨rfl, rfl⟩
        go_wp2_with fail
        go_ret2
        exact ⟨_, rfl, Own.new_ _ rfl (by omega), by exact bel2 g13 g01⟩
      · rw [hin] at HIN
        have HIN' := Lib.hid HIN
        have hb := (inB_iff _ _ _).1 hin
        have hbn : isNum b = true := (isNum_iff _).2 (by omega)
        have hres : RES = bxP ad.l R d b R := by have := HR.out; rw [hin] at this; exact this
        have HRES := Lib.hid hres
        obtain ⟨ar, ac, al⟩ := ad
        simp only [oM_some] at er ec elen enum ma3 hr3 hal ⊢
        subst er
        subst ec
        have HEL := Lib.hid elen
        have HEN := Lib.hid enum
        have hRR : R * R ≤ 36 := Nat.mul_le_mul hR6 hR6
        clear elen enum hres hin HIN HR hsome hsq
        go_wp2_with fail
        refine (HIN'.out _).mono ?_; rintro e w' ⟨rfl, rfl⟩
        go_wp2_with fail
        refine (HD.out _ (by exact (Rd.grows ha (by exact bel2 g13 g01)))).mono ?_; rintro e w4 ⟨rfl, g4⟩
        clear b0 b1 b2
        have g14 : Grows w1 w4 := by exact bel2 g4 g13
        have ma4 := ma3.grows (w' := w4) (by exact bel1 g4)
        have hr4 := hr3.grows (w' := w4) (by exact bel1 g4)
        have mb4 := mb1.grows g14
        have hs4 := Below.size g14
        go_wp2_with fail
        go_loopw [10, 11] (fun o i wr => ∃ (I : Nat) (A4 : Option Addr) (s : List Int) (c4 : Nat), i = .int .i64 I ∧ I ≤ R ∧ bxP al R d b I = some s ∧ o = .slice A4 s.length c4 ∧ Own wr w4.heap.size (.slice A4 s.length c4) s ∧ Grows w4 wr) (fun _ i _ => R - (intOf i).toNat)
        case atStart => exact ⟨0, _, [], _, rfl, Nat.zero_le _, rfl, rfl, Own.new_ _ rfl (by omega), by exact bel0⟩
        case round =>
          obtain ⟨I, A4, s, c4, rfl, hI, hS, rfl, ho, hg⟩ := hrel
          have HS := Lib.hid hS
          have HSL := Lib.hid (bxP_length hS)
          clear hS
          obtain ⟨b0, b1, b2⟩ := (mb4.grows hg).cells
          obtain ⟨a0, a1, a2⟩ := (ma4.grows hg).cells
          by_cases hlt : I < R
          · have hix := idx_lt (R := R) (C := R) hlt hlt
            have hIR : I * R ≤ 36 := by have := Nat.mul_le_mul (Nat.le_of_lt hlt) (Nat.le_refl R); omega
            have q1 := castMul I R
            have q2 : (I : Int) * (R : Int) ≤ ((36 : Nat) : Int) := castMulLe hIR
            have q3 := castPos I R I
            have q4 : (I : Int) * (R : Int) + (I : Int) < (al.length : Int) := castLt (by rw [HEL.out]; exact hix)
            have C1 := fun W h => l12Cell_c R R A2 al al.length c2 I I W rfl h (by omega) (by omega) (by omega) (by omega) (by omega)
            rw [castIdx] at C1
            have C1' := Lib.hid C1
            have hxn := HEN.out (I * R + I) (by rw [HEL.out]; exact hix)
            have F0 := Lib.hid fun h => bxP_fail HS.out h
            have F1 := Lib.hid fun h => bxP_some HS.out h
            have hra := hr4.grows hg
            clear q1 q2 q3 q4 C1
            generalize nth al (I * R + I) = x at *
            have KM := fun W => l1Mul_c b x W (.inr hbn) (.inr hxn)
            rw [mulB_num hbn hxn] at KM
            cases hx : isNum (b * x)
            · rw [fit_no hx, show bad = -4611686018427387904 from rfl] at KM
              have KM' := Lib.hid KM
              obtain rfl : RES = none := by rw [HRES.out]; exact bxP_none (F0.out hx) (by omega)
              clear KM hx hxn
              go_wp2_with fail
              refine (C1'.out _ (by exact (Rd.grows hra (by exact bel0)))).mono ?_; rintro e w5 ⟨rfl, g5⟩
              go_wp2_with (go_at_call 50; refine (KM'.out _).mono ?_; rintro e w' ⟨rfl, rfl⟩)
              go_ret2
              exact ⟨_, rfl, Own.new_ _ rfl (by have := Below.size hg; have := Below.size g5; omega), by exact bel4 g5 hg g14 g01⟩
            · rw [fit_yes hx] at KM
              have KM' := Lib.hid KM
              have F := Lib.hid (F1.out hx)
              have hq := tdiv_bd hx hd0
              have hbx := (isNum_iff _).1 hx
              have hne : (b * x == -4611686018427387904) = false := by rw [beq_eq_false_iff_ne]; omega
              have HQ := Lib.hid fun W => l20Root_c ((b * x).tdiv d) W (by omega) (by omega)
              have hdne : (d == 0) = false := by rw [beq_eq_false_iff_ne]; omega
              clear KM hx hxn
              generalize b * x = bx at *
              go_wp2_with fail
              refine (C1'.out _ (by exact (Rd.grows hra (by exact bel0)))).mono ?_; rintro e w5 ⟨rfl, g5⟩
              go_wp2_with (go_at_call 50; refine (KM'.out _).mono ?_; rintro e w' ⟨rfl, rfl⟩)
              refine (HQ.out _).mono ?_; rintro e w' ⟨rfl, rfl⟩
              have ho5 := ho.grows (w' := w5) (by exact bel1 g5)
              have hs5 : w4.heap.size ≤ w5.heap.size := by have := Below.size hg; have := Below.size g5; (try simp at this); omega
              go_wp2_with (at_builtin; refine wpList_app1 rfl (.tmp 52) (.tmp 57) rfl _ _ w4.heap.size _ s (by rfl) ho5 (by rfl) (by have := HSL.out; omega) (by omega) ?_; intro v7 w7 ho7 hg7 _)
              obtain ⟨A7, c7, rfl, _, _⟩ := ho7.val
              have hb7 : Below w4.heap.size w5 w7 := below_app ho5 (by omega) hg7
              go_round
              case rel => exact ⟨I + 1, _, _, _, by go_num, by omega, F.out, rfl, ho7, by exact bel3 hb7 g5 hg⟩
              case measure => simp [intOf]; omega
          · obtain rfl : I = R := by omega
            obtain rfl : RES = some s := by rw [HRES.out]; exact HS.out
            go_wp2_with fail
            go_ret2
            exact ⟨_, rfl, ho.less (by omega), by exact bel3 hg g14 g01⟩
end
end Go.Proofs.YtbfkpfdkndnhkaaGreat

/- append(s, rows...) of slices of slices. -/
namespace Go.Proofs.YtbfkpfdkndnhkaaGreat
set_option linter.unusedSimpArgs false
set_option linter.unusedVariables false
open Go.RowKit

theorem run_appVn (t ts : TypeId) (hu : Tryz.prog.underlying ts = some (.slice t)) (hi : (Tryz.prog.info? t).map (fun i => (i.zero, i.size, i.bytes)) = some (some (.slice none 0 0), 1, 24)) (w : World) (ty : TypeId) (B : Nat) (v : Value) (vs : List Value) (hown : OwnV t w B v vs)
    (A : Option Addr) (us : List Value) (c : Nat) (hr : RdV w A us) (hu1 : ∀ u ∈ us, u.oneCell' = true) (hl : vs.length + us.length ≤ 1099511627776) (hB : B ≤ w.heap.size) :
    ∃ v' w', (Builtin.append_ #[ts, ts] ty #[v, .slice A us.length c]).run Tryz.prog w = .ok v' w' ∧ OwnV t w' B v' (vs ++ us) ∧ w.grownBy w' v.ownBlock ∧ (v'.ownBlock = v.ownBlock ∨ ∃ g, v'.ownBlock = some g ∧ w.heap.size ≤ g) := by
  obtain ⟨i0, hi0, hz0, hz1, hz2⟩ := info_parts hi
  by_cases hm : us = []
  · subst hm
    rcases A with _ | ad
    · refine ⟨v, w, ?_, by simpa using hown, World.grownBy.refl w _, .inl rfl⟩
      rcases hown.2 with ⟨rfl, h0⟩ | ⟨g, cap, cur, rfl, _, _, hnc, _⟩
      · simp [Builtin.append_, run_underlying hu, sizeOf, typeInfo, hi0, Builtin.lenOf, Builtin.firstCells]
      · simp [Builtin.append_, run_underlying hu, sizeOf, typeInfo, hi0, Builtin.lenOf, Builtin.firstCells, hnc, storeCells]
    · obtain ⟨v', w', hrun, h2, h3, _, h5⟩ := run_append_own_at (P := Tryz.prog) w B ts ty t i0 (.slice none 0 0) 1 24 hu hi0 hz0 hz1 hz2 rfl (by omega) v vs.length vs hown
        ad 0 c [] (by simp) (by simp) (by simp) (by simp [maxLen] at *; omega) (by simp at hl; omega) hB
      exact ⟨v', w', hrun, by unfold OwnV; simpa using h2, h3, by rcases h5 with h5 | h5; exact .inl h5; exact .inr ⟨_, h5, Nat.le_refl _⟩⟩
  · have hpos : 0 < us.length := List.length_pos_iff.2 hm
    obtain ⟨b, off, rfl, _, _⟩ := hr 0 us[0] (List.getElem?_eq_getElem hpos)
    have hcell : ∀ j u, us[j]? = some u → w.cell? ((⟨b, off, none⟩ : Addr).add j) = some u := by
      intro j u hj
      obtain ⟨b', off', e, _, hc⟩ := hr j u hj
      simp only [Option.some.injEq, Addr.mk.injEq, and_true] at e
      obtain ⟨rfl, rfl⟩ := e
      rw [← hc]
      unfold Addr.add
      by_cases e : j = 0 <;> simp [e]
    obtain ⟨v', w', hrun, h2, h3, _, h5⟩ := run_append_own_at (P := Tryz.prog) w B ts ty t i0 (.slice none 0 0) 1 24 hu hi0 hz0 hz1 hz2 rfl (by omega) v vs.length vs hown
      ⟨b, off, none⟩ us.length c us (by simp) hcell hu1 (by simp [maxLen]; omega) (by omega) hB
    exact ⟨v', w', hrun, by unfold OwnV; rw [List.length_append]; exact h2, h3, by rcases h5 with h5 | h5; exact .inl h5; exact .inr ⟨_, h5, Nat.le_refl _⟩⟩
section
variable {α : Type} {ad : Value → Option Nat} {R : World → Value → α → Prop}
theorem ownR_appn {t : TypeId} {w w' : World} {B : Nat} {v v' : Value} {vs us : List Value} {L M : List α} {S : List Value} (hG : GoodR ad R) (hvl : vs.length = L.length) (hul : us.length = M.length) (hvR : ∀ (i : Nat) (u : Value) (x : α), vs[i]? = some u → L[i]? = some x → R w u x) (hsp : ∀ (i : Nat) (u : Value), vs[i]? = some u → ∀ g, ad u = some g → v.ownBlock ≠ some g ∧ ∀ s ∈ S, s.ownBlock ≠ some g)
    (hz : ∀ (i : Nat) (u : Value) (x : α), us[i]? = some u → M[i]? = some x → R w u x) (hu : ∀ (i : Nat) (u : Value), us[i]? = some u → ∀ g, ad u = some g → v.ownBlock ≠ some g ∧ ∀ s ∈ S, s.ownBlock ≠ some g) (h2 : OwnV t w' B v' (vs ++ us)) (h3 : w.grownBy w' v.ownBlock) (h4 : v'.ownBlock = v.ownBlock ∨ ∃ g, v'.ownBlock = some g ∧ w.heap.size ≤ g) : OwnR t ad R w' B v' (L ++ M) S := by
  have key : ∀ (i : Nat) (u' : Value) (x' : α), (vs ++ us)[i]? = some u' → (L ++ M)[i]? = some x' → R w u' x' ∧ ∀ g, ad u' = some g → v.ownBlock ≠ some g ∧ ∀ s ∈ S, s.ownBlock ≠ some g := by
    intro i u' x' h5 h6
    by_cases e : i < vs.length
    · rw [List.getElem?_append_left e] at h5
      rw [List.getElem?_append_left (by omega)] at h6
      exact ⟨hvR i u' x' h5 h6, hsp i u' h5⟩
    · rw [List.getElem?_append_right (by omega)] at h5 h6
      rw [← hvl] at h6
      exact ⟨hz _ u' x' h5 h6, hu _ u' h5⟩
  refine ⟨vs ++ us, by simp [hvl, hul], h2, fun i u' x' h5 h6 => hG.keep _ _ _ _ _ h3 (fun g hg => ((key i u' x' h5 h6).2 g hg).1) (key i u' x' h5 h6).1, fun i u' h5 g hg => ?_⟩
  have hlt : i < (L ++ M).length := by have := (List.getElem?_eq_some_iff.1 h5).1; simp [hvl, hul] at this ⊢; omega
  have hk := key i u' _ h5 (List.getElem?_eq_getElem hlt)
  refine ⟨fun e => ?_, (hk.2 g hg).2⟩
  rcases h4 with h4 | ⟨g', h4, h5'⟩
  · exact (hk.2 g hg).1 (by rw [← h4]; exact e)
  · rw [h4] at e
    cases e
    have := hG.low _ _ _ _ hk.1 hg
    omega
/-- what is read as rows, with blocks that are kept apart from -/
def RdRS (ad : Value → Option Nat) (R : World → Value → α → Prop) (w : World) (A : Option Addr) (L : List α) (S : List Value) : Prop :=
  ∃ vs : List Value, vs.length = L.length ∧ RdV w A vs ∧ (∀ u ∈ vs, u.oneCell' = true) ∧ (∀ (i : Nat) (u : Value) (x : α), vs[i]? = some u → L[i]? = some x → R w u x) ∧ ∀ (i : Nat) (u : Value), vs[i]? = some u → ∀ g, ad u = some g → ∀ s ∈ S, s.ownBlock ≠ some g
/-- rows that were there before the blocks of S -/
theorem RdR.apart {w w' : World} {A : Option Addr} {L : List α} {S : List Value} (hG : GoodR ad R) (h1 : ∀ w u x, R w u x → u.oneCell' = true) (h : RdR R w A L) (k : Grows w w') (hS : ∀ s ∈ S, ∀ g, s.ownBlock = some g → w.heap.size ≤ g) : RdRS ad R w' A L S := by
  obtain ⟨vs, hl, hr, hR⟩ := h
  have hx : ∀ (i : Nat) (u : Value), vs[i]? = some u → ∃ x, R w u x := fun i u hi => by
    have hlt : i < L.length := by rw [← hl]; exact (List.getElem?_eq_some_iff.1 hi).1
    exact ⟨_, hR i u _ hi (List.getElem?_eq_getElem hlt)⟩
  refine ⟨vs, hl, hr.grows k, fun u hu => ?_, fun i u x h1 h2 => hG.grows (hR i u x h1 h2) k, fun i u hi g hg s hs e => ?_⟩
  · obtain ⟨i, hi, rfl⟩ := List.getElem_of_mem hu
    obtain ⟨x, hx⟩ := hx i _ (List.getElem?_eq_getElem hi)
    exact h1 _ _ _ hx
  · obtain ⟨x, hx⟩ := hx i u hi
    have := hG.low _ _ _ _ hx hg
    have := hS s hs g e
    omega
theorem RdV.slice {w : World} {A : Option Addr} {vs : List Value} (h : RdV w A vs) (lo hi : Nat) (_hlo : lo ≤ hi) (hhi : hi ≤ vs.length) (cap : Nat) (hc : vs.length ≤ cap) :
    RdV w (if cap = lo then A else A.map (·.add (lo * 1))) ((vs.take hi).drop lo) := by
  intro i u hu
  have hi' := (List.getElem?_eq_some_iff.1 hu).1
  simp at hi'
  have hlt : lo + i < hi := by omega
  rw [List.getElem?_drop, List.getElem?_take, if_pos hlt] at hu
  obtain ⟨b, off, rfl, hb, hcell⟩ := h (lo + i) u hu
  rw [if_neg (by omega)]
  refine ⟨b, off + lo, ?_, hb, ?_⟩
  · simp only [Option.map_some, Nat.mul_one]
    unfold Addr.add
    by_cases e : lo = 0 <;> simp [e]
  · rw [Nat.add_assoc, hcell]
theorem RdR.slice {w : World} {A : Option Addr} {L : List α} (h : RdR R w A L) (lo hi : Nat) (hlo : lo ≤ hi) (hhi : hi ≤ L.length) (cap : Nat) (hc : L.length ≤ cap) :
    RdR R w (if cap = lo then A else A.map (·.add (lo * 1))) ((L.take hi).drop lo) := by
  obtain ⟨vs, hl, hr, hR⟩ := h
  refine ⟨(vs.take hi).drop lo, by simp [hl], hr.slice lo hi hlo (by omega) cap (by omega), fun i u x h1 h2 => ?_⟩
  rw [List.getElem?_drop] at h1 h2
  have hlt : lo + i < hi := by have := (List.getElem?_eq_some_iff.1 h1).1; simp at this; omega
  rw [List.getElem?_take, if_pos hlt] at h1 h2
  exact hR _ _ _ h1 h2
/-- out = append(out, rows...) -/
theorem wpList_appRn {ops : Array Oper} {rest : List Oper} {o : Oper} {a : Act} {Q : Exit → Act → World → Prop} (t ts : TypeId) (hu : Tryz.prog.underlying ts = some (.slice t)) (hi : (Tryz.prog.info? t).map (fun i => (i.zero, i.size, i.bytes)) = some (some (.slice none 0 0), 1, 24)) (hgd : o.guard = none) (s x : Operand)
    (ho : o.op = .call { callee := .builtin .append, args := #[s, x], argTypes := #[ts, ts] }) (w : World) (hG : GoodR ad R)
    (B : Nat) (v : Value) (L : List α) (S : List Value) (hs : a.eval s = v) (hown : OwnR t ad R w B v L S) (A : Option Addr) (M : List α) (n c : Nat) (hx : a.eval x = .slice A n c) (hn : M.length = n) (hr : RdRS ad R w A M (v :: S))
    (hl : L.length + M.length ≤ 1099511627776) (hB : B ≤ w.heap.size)
    (h : ∀ v' w', OwnR t ad R w' B v' (L ++ M) S → w.grownBy w' v.ownBlock → (v'.ownBlock = v.ownBlock ∨ ∃ g, v'.ownBlock = some g ∧ w.heap.size ≤ g) → wpList Tryz.prog ops Q rest (a.put o.dst v') w') :
    wpList Tryz.prog ops Q (o :: rest) a w := by
  subst hn
  obtain ⟨vs, hvl, hvo, hvR, hsp⟩ := hown
  obtain ⟨us, hul, hur, hu1, huR, husp⟩ := hr
  obtain ⟨v', w', hrun, h2, h3, h4⟩ := run_appVn t ts hu hi w o.type B v vs hvo A us c hur hu1 (by omega) hB
  rw [hul] at hrun
  refine wpList_plain hgd fun _ hK => ?_
  unfold Oper.wp execOp
  simp only [ho, resolve, invoke, builtin, Sem.run_bind, Sem.run_pure, Result.andThen_ok, List.map_toArray, List.map_cons, List.map_nil, hs, hx, hrun]
  exact hK _ _ (h v' w' (ownR_appn hG hvl hul hvR hsp huR (fun i u hi g hg => ⟨husp i u hi g hg v List.mem_cons_self, fun s hs => husp i u hi g hg s (List.mem_cons_of_mem _ hs)⟩) h2 h3 h4) h3 h4)
/-- .. at a step of a region that draws -/
theorem step_appRn {ops : Array Oper} {o : Oper} {a : Act} {K : Act → World → Prop} {Q : Exit → Act → World → Prop} {E : Prop} (t ts : TypeId) (hu : Tryz.prog.underlying ts = some (.slice t)) (hi : (Tryz.prog.info? t).map (fun i => (i.zero, i.size, i.bytes)) = some (some (.slice none 0 0), 1, 24)) (hgd : o.guard = none) (s x : Operand)
    (ho : o.op = .call { callee := .builtin .append, args := #[s, x], argTypes := #[ts, ts] }) (w : World) (hG : GoodR ad R)
    (B : Nat) (v : Value) (L : List α) (S : List Value) (hs : a.eval s = v) (hown : OwnR t ad R w B v L S) (A : Option Addr) (M : List α) (n c : Nat) (hx : a.eval x = .slice A n c) (hn : M.length = n) (hr : RdRS ad R w A M (v :: S))
    (hl : L.length + M.length ≤ 1099511627776) (hB : B ≤ w.heap.size)
    (h : ∀ v' w', OwnR t ad R w' B v' (L ++ M) S → w.grownBy w' v.ownBlock → (v'.ownBlock = v.ownBlock ∨ ∃ g, v'.ownBlock = some g ∧ w.heap.size ≤ g) → K (a.put o.dst v') w') :
    if Region.wanted o (yielded ops a.tmps) = true then Oper.wp Tryz.prog o a w K Q else E := by
  have hw : Region.wanted o (yielded ops a.tmps) = true := by simp [Region.wanted, hgd]
  rw [if_pos hw]
  subst hn
  obtain ⟨vs, hvl, hvo, hvR, hsp⟩ := hown
  obtain ⟨us, hul, hur, hu1, huR, husp⟩ := hr
  obtain ⟨v', w', hrun, h2, h3, h4⟩ := run_appVn t ts hu hi w o.type B v vs hvo A us c hur hu1 (by omega) hB
  rw [hul] at hrun
  unfold Oper.wp execOp
  simp only [ho, resolve, invoke, builtin, Sem.run_bind, Sem.run_pure, Result.andThen_ok, List.map_toArray, List.map_cons, List.map_nil, hs, hx, hrun]
  exact h v' w' (ownR_appn hG hvl hul hvR hsp huR (fun i u hi g hg => ⟨husp i u hi g hg v List.mem_cons_self, fun s hs => husp i u hi g hg s (List.mem_cons_of_mem _ hs)⟩) h2 h3 h4) h3 h4
end
end Go.Proofs.YtbfkpfdkndnhkaaGreat

/- Slices of slices of integers whose rows are owned, one by one, each in a block of its own. -/
namespace Go.Proofs.YtbfkpfdkndnhkaaGreat
set_option linter.unusedSimpArgs false
set_option linter.unusedVariables false
open Go.RowKit

theorem und_ii : Tryz.prog.underlying 29 = some (.slice 24) := Tryz.underlying29
theorem info_is : (Tryz.prog.info? 24).map (fun i => (i.zero, i.size, i.bytes)) = some (some (.slice none 0 0), 1, 24) := by kernel_rfl

/-- v owns the values vs, which own the rows L, all from block B on, no two in one block -/
structure RowsO (w : World) (B : Nat) (v : Value) (vs : List Value) (L : List (List Int)) : Prop where
  len : vs.length = L.length
  own : OwnV 24 w B v vs
  row : ∀ (i : Nat) (u : Value) (x : List Int), vs[i]? = some u → L[i]? = some x → Own w B u x
  far : ∀ (i : Nat) (u : Value), vs[i]? = some u → ∀ g, u.ownBlock = some g → v.ownBlock ≠ some g
  nod : ∀ (i j : Nat) (u u' : Value), vs[i]? = some u → vs[j]? = some u' → i ≠ j → ∀ g, u.ownBlock = some g → u'.ownBlock ≠ some g

section
variable {w w' : World} {B B' : Nat} {v : Value} {vs : List Value} {L : List (List Int)} {A : Option Addr}
theorem RowsO.any (h : RowsO w B v vs L) {i : Nat} {u : Value} (hi : vs[i]? = some u) : ∃ x, L[i]? = some x ∧ Own w B u x := by
  have hlt : i < L.length := by rw [← h.len]; exact (List.getElem?_eq_some_iff.1 hi).1
  exact ⟨_, List.getElem?_eq_getElem hlt, h.row i u _ hi (List.getElem?_eq_getElem hlt)⟩
theorem RowsO.lt (h : RowsO w B v vs L) {i : Nat} {u : Value} (hi : vs[i]? = some u) {g : Nat} (hg : u.ownBlock = some g) : B ≤ g ∧ g < w.heap.size := by
  obtain ⟨x, _, ho⟩ := h.any hi
  exact World.ownsRow.lt ho g hg
theorem RowsO.grows (h : RowsO w B v vs L) (k : Grows w w') : RowsO w' B v vs L :=
  ⟨h.len, h.own.grows k, fun i u x h1 h2 => (h.row i u x h1 h2).grows k, h.far, h.nod⟩
theorem RowsO.less (h : RowsO w B v vs L) (hB : B' ≤ B) : RowsO w B' v vs L :=
  ⟨h.len, h.own.less hB, fun i u x h1 h2 => (h.row i u x h1 h2).less hB, h.far, h.nod⟩
theorem RowsO.new_ (w : World) {B b : Nat} (hb : w.heap.size = b) (hB : B ≤ b) : RowsO (w.alloc (.cells #[] 24)) B (.slice (some ⟨b, 0, none⟩) 0 0) [] [] :=
  ⟨rfl, OwnV.new_ _ w hb hB, fun i u x h => by simp at h, fun i u h => by simp at h, fun i j u u' h => by simp at h⟩
theorem RowsO.nil (w : World) (B : Nat) : RowsO w B (.slice none 0 0) [] [] :=
  ⟨rfl, OwnV.nil _ w B, fun i u x h => by simp at h, fun i u h => by simp at h, fun i j u u' h => by simp at h⟩
theorem RowsO.rsi (h : RowsO w B v vs L) {i : Nat} {u : Value} {x : List Int} (h1 : vs[i]? = some u) (h2 : L[i]? = some x) : RSI w u x := by
  obtain ⟨A, c, e, hr, hc⟩ := (h.row i u x h1 h2).val
  exact ⟨A, c, e, hr, hc⟩
theorem RowsO.val (h : RowsO w B v vs L) : ∃ A cap, v = .slice A L.length cap ∧ RdR RSI w A L ∧ L.length ≤ cap := by
  obtain ⟨A, cap, e, h1, h2⟩ := h.own.val
  rw [h.len] at e h2
  exact ⟨A, cap, e, ⟨vs, h.len, h1, fun i u x h3 h4 => h.rsi h3 h4⟩, h2⟩
theorem RowsO.rd {n c : Nat} (h : RowsO w B (.slice A n c) vs L) : RdR RSI w A L := by
  obtain ⟨A', c', e, hr, _⟩ := h.val
  injection e with e1 _ _
  rw [e1]; exact hr
theorem RowsO.low {p : Addr} (h : RowsO w B v vs L) (hp : p.block < B) (u : Value) : RowsO (w.setCell p u) B v vs L :=
  ⟨h.len, h.own.low hp u, fun i u' x h1 h2 => (h.row i u' x h1 h2).low hp u, h.far, h.nod⟩
theorem RowsO.drew (h : RowsO w B v vs L) : RowsO w.drew B v vs L := ⟨h.len, h.own.drew, fun i u x h1 h2 => (h.row i u x h1 h2).drew, h.far, h.nod⟩
theorem RowsO.drewN_ (h : RowsO w B v vs L) {n : Nat} : RowsO (w.drewN n) B v vs L := h.grows (below_drewN (Below.refl _ _) n)
theorem RowsO.alloc (h : RowsO w B v vs L) (o : Obj) : RowsO (w.alloc o) B v vs L := h.grows ((Below.refl _ _).alloc (Nat.le_refl _) o)
/-- a change to a block that is none of these -/
theorem RowsO.other (h : RowsO w B v vs L) {r : Option Nat} (hg : w.grownBy w' r) (h1 : ∀ g, r = some g → v.ownBlock ≠ some g) (h2 : ∀ g, r = some g → ∀ (i : Nat) (u : Value), vs[i]? = some u → u.ownBlock ≠ some g) : RowsO w' B v vs L := by
  refine ⟨h.len, World.ownsRow.kept h.own hg ?_, fun i u x h3 h4 => World.ownsRow.kept (h.row i u x h3 h4) hg ?_, h.far, h.nod⟩
  · cases e : v.ownBlock with
    | none => exact .inl rfl
    | some g => exact .inr fun e2 => h1 g e2.symm e
  · cases e : u.ownBlock with
    | none => exact .inl rfl
    | some g => exact .inr fun e2 => h2 g e2.symm i u h3 e
/-- what is known behind an append of one row that lies apart -/
theorem RowsO.app {u : Value} {z : List Int} {v' : Value} (h : RowsO w B v vs L) (hz : Own w B u z) (hu : ∀ g, u.ownBlock = some g → v.ownBlock ≠ some g ∧ ∀ (i : Nat) (u' : Value), vs[i]? = some u' → u'.ownBlock ≠ some g)
    (h2 : OwnV 24 w' B v' (vs ++ [u])) (h3 : w.grownBy w' v.ownBlock) (h4 : v'.ownBlock = v.ownBlock ∨ ∃ g, v'.ownBlock = some g ∧ w.heap.size ≤ g) : RowsO w' B v' (vs ++ [u]) (L ++ [z]) := by
  have hl := h.len
  have key : ∀ (i : Nat) (u' : Value), (vs ++ [u])[i]? = some u' → (vs[i]? = some u' ∧ i < vs.length) ∨ (i = vs.length ∧ u' = u) := fun i u' hi => by
    by_cases e : i < vs.length
    · rw [List.getElem?_append_left e] at hi; exact .inl ⟨hi, e⟩
    · rw [List.getElem?_append_right (by omega)] at hi
      cases hj : i - vs.length with
      | zero => rw [hj] at hi; simp at hi; exact .inr ⟨by omega, hi.symm⟩
      | succ j => rw [hj] at hi; simp at hi
  have kept : ∀ {o : Value} {x : List Int}, Own w B o x → (∀ g, o.ownBlock = some g → v.ownBlock ≠ some g) → Own w' B o x := fun {o} {x} ho hne => by
    refine World.ownsRow.kept ho h3 ?_
    cases e : o.ownBlock with
    | none => exact .inl rfl
    | some g => exact .inr fun e2 => hne g e e2.symm
  refine ⟨by simp [hl], h2, fun i u' x h5 h6 => ?_, fun i u' h5 g hg e => ?_, fun i j a b ha hb hne g hg => ?_⟩
  · rcases key i u' h5 with ⟨h7, h8⟩ | ⟨rfl, rfl⟩
    · rw [List.getElem?_append_left (by omega)] at h6
      exact kept (h.row i u' x h7 h6) fun g hg => h.far i u' h7 g hg
    · rw [hl] at h6
      simp at h6
      subst h6
      exact kept hz fun g hg => (hu g hg).1
  · have hlt : g < w.heap.size := by
      rcases key i u' h5 with ⟨h7, _⟩ | ⟨_, rfl⟩
      · exact (h.lt h7 hg).2
      · exact (World.ownsRow.lt hz g hg).2
    rcases h4 with h4 | ⟨g', h4, h5'⟩
    · rw [h4] at e
      rcases key i u' h5 with ⟨h7, _⟩ | ⟨_, rfl⟩
      · exact h.far i u' h7 g hg e
      · exact (hu g hg).1 e
    · rw [h4] at e
      cases e
      omega
  · rcases key i a ha with ⟨h7, h8⟩ | ⟨rfl, rfl⟩ <;> rcases key j b hb with ⟨h9, h10⟩ | ⟨rfl, rfl⟩
    · exact h.nod i j a b h7 h9 hne g hg
    · intro e
      exact (hu g e).2 i a h7 hg
    · exact (hu g hg).2 j b h9
    · omega
end
/-- out = append(out, x), x a row that lies apart -/
theorem wpList_appO1 {ops : Array Oper} {rest : List Oper} {o : Oper} {a : Act} {Q : Exit → Act → World → Prop} (hgd : o.guard = none) (s x : Operand)
    (ho : o.op = .call { callee := .builtin .append, args := #[s, x], argTypes := #[29, 29] }) (w : World) (u : Value) (z : List Int)
    (B : Nat) (v : Value) (vs : List Value) (L : List (List Int)) (hs : a.eval s = v) (hown : RowsO w B v vs L) (hz : Own w B u z) (hu : ∀ g, u.ownBlock = some g → v.ownBlock ≠ some g ∧ ∀ (i : Nat) (u' : Value), vs[i]? = some u' → u'.ownBlock ≠ some g) (hu1 : u.oneCell' = true) (hx : a.eval x = .slice (some ⟨w.heap.size, 0, none⟩) 1 1)
    (hl : L.length + 1 ≤ 1099511627776) (hB : B ≤ w.heap.size)
    (h : ∀ v' w', RowsO w' B v' (vs ++ [u]) (L ++ [z]) → w.grownBy w' v.ownBlock → (v'.ownBlock = v.ownBlock ∨ ∃ g, v'.ownBlock = some g ∧ w.heap.size ≤ g) → wpList Tryz.prog ops Q rest (a.put o.dst v') w') :
    wpList Tryz.prog ops Q (o :: rest) a (w.alloc (.cells #[u] 24)) := by
  obtain ⟨v', w', hrun, h2, h3, h4⟩ := run_appV1 24 29 und_ii info_is w o.type B v vs hown.own u hu1 (by rw [hown.len]; omega) hB
  refine wpList_plain hgd fun _ hK => ?_
  unfold Oper.wp execOp
  simp only [ho, resolve, invoke, builtin, Sem.run_bind, Sem.run_pure, Result.andThen_ok, List.map_toArray, List.map_cons, List.map_nil, hs, hx, hrun]
  exact hK _ _ (h v' w' (hown.app hz hu h2 h3 h4) h3 h4)
theorem below_appO {w w' : World} {B : Nat} {v : Value} {vs : List Value} {L : List (List Int)} (h : RowsO w B v vs L) (hB : B ≤ w.heap.size) (hg : w.grownBy w' v.ownBlock) : Below B w w' := below_appR h.own hB hg
end Go.Proofs.YtbfkpfdkndnhkaaGreat
