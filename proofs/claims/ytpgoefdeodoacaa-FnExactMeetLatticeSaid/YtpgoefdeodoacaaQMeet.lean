/- Contracts and lemmas, put together. -/
import Derived.Test.YtpgoefdeodoacaaPkC
import Derived.Test.YtpgoefdeodoacaaQCong
import Derived.Test.YtpgoefdeodoacaaQSum
/- Contracts: what two lattices have in common. -/
namespace Go.Proofs.Ytpgoefdeodoacaa
set_option linter.unusedSimpArgs false
set_option linter.unusedVariables false
open Go.RowKit

def meetK (a : MX) (k : MX) : Option MX := (mulO ⟨k.r, a.r, fcL k.r.toNat k.c.toNat a.r.toNat k.l⟩ a).bind basO
def meetO (a b : MX) : Option MX := if latB a.r a.c a.l && latB b.r b.c b.l then (stkO a b).bind fun s => (kerO s).bind (meetK a) else none
theorem meetO_ok {a b m : MX} (h : meetO a b = some m) : m.ok = true := by
  unfold meetO at h
  split at h
  · obtain ⟨s, _, h⟩ := Option.bind_eq_some_iff.1 h
    obtain ⟨k, _, h⟩ := Option.bind_eq_some_iff.1 h
    unfold meetK at h
    obtain ⟨p, _, h⟩ := Option.bind_eq_some_iff.1 h
    exact basO_ok h
  · cases h
theorem meetK_nat {N C T : Nat} {c : Int} {a l : List Int} : meetK ⟨N, c, a⟩ ⟨T, C, l⟩ = (mulO ⟨T, N, fcL T C N l⟩ ⟨N, c, a⟩).bind basO := by
  unfold meetK
  simp only [Int.toNat_natCast]
theorem stkO_rows {a b s : MX} (h : stkO a b = some s) : s.r = a.r + b.r := by
  unfold stkO at h
  split at h
  · cases h; rfl
  · cases h
theorem meet_shape {N M C T : Nat} {s k : MX} {c : Int} {a : List Int} (hs : s.r = (N : Int) + (M : Int)) (hk : kerO s = some k) : ∃ (T C : Nat) (l : List Int), k = ⟨T, C, l⟩ ∧ T ≤ 24 ∧ C ≤ 24 ∧ N ≤ C ∧ l.length = T * C := by
  obtain ⟨T, C, l, rfl, e, h1, h2, h3, _⟩ := kerO_shape hk
  exact ⟨T, C, l, rfl, h1, h2, by omega, h3⟩
theorem lat_rows {r c : Int} {l : List Int} (h : latB r c l = true) : ∃ R : Nat, r = R ∧ R ≤ 24 := by
  obtain ⟨R, C, e1, _, hR, _⟩ := isMat_nat (latB_parts h).1
  exact ⟨R, e1, hR⟩

section
set_option maxHeartbeats 4000000
theorem iMeet_c (r c r' c' : Int) (A B : Option Addr) (a b : List Int) (n m ca cb : Nat) (w : World) (hn : a.length = n) (hm : b.length = m) (hca : n ≤ ca) (hca2 : ca ≤ 9223372036854775807) (hcb : m ≤ cb) (hcb2 : cb ≤ 9223372036854775807) (ha : Rd w A a) (hb : Rd w B b) (hl : n ≤ 1099511627776) (hl2 : m ≤ 1099511627776) :
    Calls Try.prog 28 #[.agg #[.int .i64 r, .int .i64 c, .slice A n ca], .agg #[.int .i64 r', .int .i64 c', .slice B m cb]] w (MatRet (meetO ⟨r, c, a⟩ ⟨r', c', b⟩) w) := by
  have HS := fun W h h' => (iStk_c r c r' c' A B a b n m ca cb W hn hm h h' hl hl2).mono fun _ _ h => matRet_out h
  have HA := fun W h => iIsLat_c r c A a n ca W hn hca hca2 h hl
  have HB := fun W h => iIsLat_c r' c' B b m cb W hm hcb hcb2 h hl2
  have XB := Lib.hid fun (x : MX) (h : stkO ⟨r, c, a⟩ ⟨r', c', b⟩ = some x) => (oM_length (o := some x) fun m h2 => by cases h2; exact stkO_ok h)
  have XR := Lib.hid fun (x : MX) (h : stkO ⟨r, c, a⟩ ⟨r', c', b⟩ = some x) => stkO_rows h
  have LR := Lib.hid fun (h : latB r c a = true) => lat_rows h
  have LR' := Lib.hid fun (h : latB r' c' b = true) => lat_rows h
  have HN := Lib.hid hn
  obtain ⟨w1, hw1, ma, mb, mr, hs1, HG⟩ := two_mats w r c r' c' (.slice A n ca) (.slice B m cb)
  have HW1 := Lib.hid hw1
  have hr0 := mr.lt
  have ha1 := ha.grows HG
  have hb1 := hb.grows HG
  obtain ⟨RES, hRES⟩ : ∃ x, x = meetO ⟨r, c, a⟩ ⟨r', c', b⟩ := ⟨_, rfl⟩
  rw [← hRES]
  unfold meetO at hRES
  simp only at hRES
  generalize stkO ⟨r, c, a⟩ ⟨r', c', b⟩ = SK at *
  generalize latB r c a = LA at *
  generalize latB r' c' b = LB at *
  have HR := Lib.hid hRES
  have HS' := Lib.hid HS
  have HA' := Lib.hid HA
  have HB' := Lib.hid HB
  clear hw1 hRES hn hm HS HA HB hs1
  go_enter Try.func28, Try.ntmps28
  go_wp2_with fail
  rw [← HW1.out]
  have ma_0 := ma.c0; have ma_1 := ma.c1; have ma_2 := ma.c2; have ma_l := ma.lt; have ma_f := ma.fz
  have mb_0 := mb.c0; have mb_1 := mb.c1; have mb_2 := mb.c2; have mb_l := mb.lt; have mb_f := mb.fz
  have mr_0 := mr.c0; have mr_1 := mr.c1; have mr_2 := mr.c2; have mr_l := mr.lt; have mr_f := mr.fz
  refine (HS'.out _ (by exact Rd.grows ha1 (by exact bel0)) (by exact Rd.grows hb1 (by exact bel0))).mono ?_; rintro e w2 ⟨v2, rfl, o2, g_w2⟩
  have s_w2 := Below.size g_w2; (try simp at s_w2)
  clear ma_0 ma_1 ma_2 ma_l ma_f
  replace ma := ma.grows (w' := w2) (by exact bel1 g_w2)
  have ma_0 := ma.c0; have ma_1 := ma.c1; have ma_2 := ma.c2; have ma_l := ma.lt; have ma_f := ma.fz
  clear mb_0 mb_1 mb_2 mb_l mb_f
  replace mb := mb.grows (w' := w2) (by exact bel1 g_w2)
  have mb_0 := mb.c0; have mb_1 := mb.c1; have mb_2 := mb.c2; have mb_l := mb.lt; have mb_f := mb.fz
  clear mr_0 mr_1 mr_2 mr_l mr_f
  replace mr := mr.grows (w' := w2) (by exact bel1 g_w2)
  have mr_0 := mr.c0; have mr_1 := mr.c1; have mr_2 := mr.c2; have mr_l := mr.lt; have mr_f := mr.fz
  replace ha1 := ha1.grows (w' := w2) (by exact bel1 g_w2)
  replace hb1 := hb1.grows (w' := w2) (by exact bel1 g_w2)
  replace HG : Grows w w2 := by exact bel2 g_w2 HG
  have h_w2 := Below.size HG
  obtain ⟨A2, c2, rfl, hr2, _⟩ := o2.val
  go_wp2_with fail
  refine (HA'.out _ (by exact Rd.grows ha1 (by exact bel0))).mono ?_; rintro e w3 ⟨rfl, g_w3⟩
  have s_w3 := Below.size g_w3; (try simp at s_w3)
  clear ma_0 ma_1 ma_2 ma_l ma_f
  replace ma := ma.grows (w' := w3) (by exact bel1 g_w3)
  have ma_0 := ma.c0; have ma_1 := ma.c1; have ma_2 := ma.c2; have ma_l := ma.lt; have ma_f := ma.fz
  clear mb_0 mb_1 mb_2 mb_l mb_f
  replace mb := mb.grows (w' := w3) (by exact bel1 g_w3)
  have mb_0 := mb.c0; have mb_1 := mb.c1; have mb_2 := mb.c2; have mb_l := mb.lt; have mb_f := mb.fz
  clear mr_0 mr_1 mr_2 mr_l mr_f
  replace mr := mr.grows (w' := w3) (by exact bel1 g_w3)
  have mr_0 := mr.c0; have mr_1 := mr.c1; have mr_2 := mr.c2; have mr_l := mr.lt; have mr_f := mr.fz
  replace ha1 := ha1.grows (w' := w3) (by exact bel1 g_w3)
  replace hb1 := hb1.grows (w' := w3) (by exact bel1 g_w3)
  replace hr2 := hr2.grows (w' := w3) (by exact bel1 g_w3)
  have ms : MBox w3 (w2.heap.size) (oM SK).r (oM SK).c (.slice A2 (oM SK).l.length c2) := MBox.grows (MBox.new_ w2 (oM SK).r (oM SK).c (.slice A2 (oM SK).l.length c2) 28 (by simp)) (w' := w3) (by exact bel1 g_w3)
  have ms_0 := ms.c0; have ms_1 := ms.c1; have ms_2 := ms.c2; have ms_l := ms.lt; have ms_f := ms.fz
  replace HG : Grows w w3 := by exact bel2 g_w3 HG
  have h_w3 := Below.size HG
  cases LA
  · obtain rfl : RES = none := HR.out
    go_wp2_with fail
    refine bodyPost_ret (v := .tuple #[.agg #[.int .i64 0, .int .i64 0, .slice none 0 0], .bool false]) ?_ rfl ?_
    · simp [results, Try.results28, go_sem, mr_0, mr_1, mr_2, mr_f, mr_l]
    · exact ⟨_, rfl, Own.nil _ _, by exact bel1 HG⟩
  · go_wp2_with fail
    refine (HB'.out _ (by exact Rd.grows hb1 (by exact bel0))).mono ?_; rintro e w4 ⟨rfl, g_w4⟩
    have s_w4 := Below.size g_w4; (try simp at s_w4)
    clear ma_0 ma_1 ma_2 ma_l ma_f
    replace ma := ma.grows (w' := w4) (by exact bel1 g_w4)
    have ma_0 := ma.c0; have ma_1 := ma.c1; have ma_2 := ma.c2; have ma_l := ma.lt; have ma_f := ma.fz
    clear mb_0 mb_1 mb_2 mb_l mb_f
    replace mb := mb.grows (w' := w4) (by exact bel1 g_w4)
    have mb_0 := mb.c0; have mb_1 := mb.c1; have mb_2 := mb.c2; have mb_l := mb.lt; have mb_f := mb.fz
    clear mr_0 mr_1 mr_2 mr_l mr_f
    replace mr := mr.grows (w' := w4) (by exact bel1 g_w4)
    have mr_0 := mr.c0; have mr_1 := mr.c1; have mr_2 := mr.c2; have mr_l := mr.lt; have mr_f := mr.fz
    replace ha1 := ha1.grows (w' := w4) (by exact bel1 g_w4)
    replace hb1 := hb1.grows (w' := w4) (by exact bel1 g_w4)
    replace hr2 := hr2.grows (w' := w4) (by exact bel1 g_w4)
    clear ms_0 ms_1 ms_2 ms_l ms_f
    replace ms := ms.grows (w' := w4) (by exact bel1 g_w4)
    have ms_0 := ms.c0; have ms_1 := ms.c1; have ms_2 := ms.c2; have ms_l := ms.lt; have ms_f := ms.fz
    replace HG : Grows w w4 := by exact bel2 g_w4 HG
    have h_w4 := Below.size HG
    cases LB
    · obtain rfl : RES = none := HR.out
      go_wp2_with fail
      refine bodyPost_ret (v := .tuple #[.agg #[.int .i64 0, .int .i64 0, .slice none 0 0], .bool false]) ?_ rfl ?_
      · simp [results, Try.results28, go_sem, mr_0, mr_1, mr_2, mr_f, mr_l]
      · exact ⟨_, rfl, Own.nil _ _, by exact bel1 HG⟩
    · cases SK with
      | none =>
        obtain rfl : RES = none := HR.out
        go_wp2_with fail
        refine bodyPost_ret (v := .tuple #[.agg #[.int .i64 0, .int .i64 0, .slice none 0 0], .bool false]) ?_ rfl ?_
        · simp [results, Try.results28, go_sem, mr_0, mr_1, mr_2, mr_f, mr_l]
        · exact ⟨_, rfl, Own.nil _ _, by exact bel1 HG⟩
      | some s =>
        have hx : s.l.length ≤ 576 := XB.out s rfl
        obtain ⟨N, rfl, hN24⟩ := LR.out (by simp)
        obtain ⟨M, rfl, hM24⟩ := LR'.out (by simp)
        have hsr : s.r = (N : Int) + (M : Int) := XR.out s rfl
        simp only [oM_some] at hx ms ms_0 ms_1 ms_2 hr2 ⊢
        have HRB := HR.out
        change RES = (kerO s).bind (meetK ⟨N, c, a⟩) at HRB
        have CK := fun W A cp h => (iKer_c s.r s.c A s.l s.l.length cp W rfl h (by omega)).mono fun _ _ h => matRet_out h
        change ∀ W A cp h, Calls _ _ _ W (fun e w' => ∃ v, e = .returned (.tuple #[.agg #[.int .i64 (oM (kerO s)).r, .int .i64 (oM (kerO s)).c, v], .bool (kerO s).isSome]) ∧ Own w' W.heap.size v (oM (kerO s)).l ∧ Grows W w') at CK
        have KSH := Lib.hid fun k h => meet_shape (N := N) (M := M) (s := s) (k := k) (T := 0) (C := 0) (c := 0) (a := []) hsr h
        generalize kerO s = KO at *
        have CK' := Lib.hid CK
        have HR2 := Lib.hid HRB
        clear CK HRB hsr
        go_wp2_with fail
        refine (CK'.out _ _ _ (by exact Rd.grows hr2 (by exact bel0))).mono ?_; rintro e w5 ⟨v5, rfl, o5, g_w5⟩
        have s_w5 := Below.size g_w5; (try simp at s_w5)
        clear ma_0 ma_1 ma_2 ma_l ma_f
        replace ma := ma.grows (w' := w5) (by exact bel1 g_w5)
        have ma_0 := ma.c0; have ma_1 := ma.c1; have ma_2 := ma.c2; have ma_l := ma.lt; have ma_f := ma.fz
        clear mb_0 mb_1 mb_2 mb_l mb_f
        replace mb := mb.grows (w' := w5) (by exact bel1 g_w5)
        have mb_0 := mb.c0; have mb_1 := mb.c1; have mb_2 := mb.c2; have mb_l := mb.lt; have mb_f := mb.fz
        clear mr_0 mr_1 mr_2 mr_l mr_f
        replace mr := mr.grows (w' := w5) (by exact bel1 g_w5)
        have mr_0 := mr.c0; have mr_1 := mr.c1; have mr_2 := mr.c2; have mr_l := mr.lt; have mr_f := mr.fz
        replace ha1 := ha1.grows (w' := w5) (by exact bel1 g_w5)
        replace hb1 := hb1.grows (w' := w5) (by exact bel1 g_w5)
        replace hr2 := hr2.grows (w' := w5) (by exact bel1 g_w5)
        clear ms_0 ms_1 ms_2 ms_l ms_f
        replace ms := ms.grows (w' := w5) (by exact bel1 g_w5)
        have ms_0 := ms.c0; have ms_1 := ms.c1; have ms_2 := ms.c2; have ms_l := ms.lt; have ms_f := ms.fz
        replace HG : Grows w w5 := by exact bel2 g_w5 HG
        have h_w5 := Below.size HG
        obtain ⟨A5, c5, rfl, hr5, _⟩ := o5.val
        cases KO with
        | none =>
          obtain rfl : RES = none := HR2.out
          go_wp2_with fail
          refine bodyPost_ret (v := .tuple #[.agg #[.int .i64 0, .int .i64 0, .slice none 0 0], .bool false]) ?_ rfl ?_
          · simp [results, Try.results28, go_sem, mr_0, mr_1, mr_2, mr_f, mr_l]
          · exact ⟨_, rfl, Own.nil _ _, by exact bel1 HG⟩
        | some k =>
          obtain ⟨T, C, l, rfl, hT, hC24, hNC, hll⟩ := KSH.out k rfl
          simp only [oM_some] at o5 hr5 ⊢
          have hcp := o5.caps
          have HLL := Lib.hid hll
          have CF := Lib.hid fun W A cp h1 h2 h => firstCols_c T C N A l l.length cp W rfl HLL.out hT hC24 hNC h1 h2 h
          have hRB : RES = (mulO ⟨T, N, fcL T C N l⟩ ⟨N, c, a⟩).bind basO := HR2.out.trans meetK_nat
          have hTN : T * N ≤ 576 := by have := Nat.mul_le_mul hT hN24; omega
          have hfl := fcL_length T C N l
          have CM := fun W A' cp h h' => (iMul_m T N N c A' A (fcL T C N l) a (T * N) n cp ca W hfl HN.out h h' (by omega) hl).mono fun _ _ h => matRet_out h
          have XP := Lib.hid fun (x : MX) (h : mulO ⟨T, N, fcL T C N l⟩ ⟨N, c, a⟩ = some x) => (oM_length (o := some x) fun m h2 => by cases h2; exact mulO_ok h)
          generalize mulO ⟨T, N, fcL T C N l⟩ ⟨N, c, a⟩ = PO at *
          generalize fcL T C N l = F at *
          have CM' := Lib.hid CM
          have HFL := Lib.hid hfl
          have HR3 := Lib.hid hRB
          clear CM hRB hll hfl
          obtain ⟨wk, hwk⟩ : ∃ wk, wk = w5.alloc (.cells #[.int .i64 T, .int .i64 C, .slice A5 l.length c5] 28) := ⟨_, rfl⟩
          have mk : MBox wk w5.heap.size T C (.slice A5 l.length c5) := by rw [hwk]; exact MBox.mk_ _ _ _ _ _
          have g5k : Grows w5 wk := by rw [hwk]; exact bel0
          have mak := ma.grows (w' := wk) g5k
          have hrk := hr5.grows g5k
          have hak := ha1.grows g5k
          have HWK := Lib.hid hwk
          clear hwk
          go_wp2_with fail
          rw [← HWK.out]
          go_cut [10, 11] (fun s10 s11 wx => ∃ (g : Nat) (A8 : Option Addr) (c8 : Nat), s10 = .pointer (some ⟨g, 0, none⟩) ∧ s11 = .bool PO.isSome ∧ MBox wx g (oM PO).r (oM PO).c (.slice A8 (oM PO).l.length c8) ∧ Own wx wk.heap.size (.slice A8 (oM PO).l.length c8) (oM PO).l ∧ Grows wk wx)
          case first =>
            go_region_held3 (fun W => W.cell? ⟨w.heap.size, 0, none⟩ = some (.int .i64 N) ∧ W.cell? ⟨w.heap.size, 1, none⟩ = some (.int .i64 c) ∧ W.cell? ⟨w.heap.size, 2, none⟩ = some (.slice A n ca) ∧ W.cell? ⟨w5.heap.size, 0, none⟩ = some (.int .i64 T) ∧ W.cell? ⟨w5.heap.size, 1, none⟩ = some (.int .i64 C) ∧ W.cell? ⟨w5.heap.size, 2, none⟩ = some (.slice A5 l.length c5)) ((refine two_boxes2 (v := .slice A n ca) (v' := .slice A5 l.length c5) (mak.grows ?_) (mk.grows ?_)) <;> first | exact bel2 p7 p6 | exact bel1 p6 | exact bel0)
              (first
                | (go_at_call 73; with_reducible refine (CF.out _ _ _ hcp.2.1 hcp.2.2 (by exact (Rd.grows hrk (by exact bel0)))).mono ?_; rintro e w6 hop; obtain ⟨v6, rfl, o6, p6⟩ := mat1_out hop; clear hop; obtain ⟨A6, c6, rfl, hr6, _⟩ := o6.val; simp only at hr6 ⊢; rw [HFL.out]; have z6 := Below.size p6; (try simp at z6); (try (have q := (MBox.mk_ wk 0 0 (.slice none 0 0) 28).grows (w' := w6) (Grows.trans (show Grows _ _ from (Below.refl _ _).drew) p6))))
                | (go_at_call 72; refine (CM'.out _ _ _ (by exact (Rd.grows hr6 (by exact bel0))) (by exact (Rd.grows hak (by exact bel1 p6)))).mono ?_; rintro e w7 ⟨v7, rfl, o7, p7⟩; obtain ⟨A7, c7, rfl, _, _⟩ := o7.val; have z7 := Below.size p7; (try simp at z7); (first | (replace q := q.grows p7) | (have q := MBox.grows (MBox.mk_ w6 0 0 (.slice none 0 0) 28) p7) | skip); (try (obtain ⟨q0, q1, q2⟩ := q.cells; have qf := q.fz; have ql := q.lt))))
            all_goals
              go_wp2_with fail
              go_meet
              exact ⟨_, A7, c7, rfl, rfl, (by first | exact MBox.put q _ _ _ | exact MBox.mk_ _ _ _ _ _ | exact MBox.put (MBox.mk_ _ _ _ _ _) _ _ _), (by (have hb_ := fun k hk => World.ownsRow.lt o7 k hk; have ho_ := Own.less o7 (show wk.heap.size ≤ _ by (try simp); omega); (repeat' (first | with_reducible exact ho_ | with_reducible refine Own.alloc ?_ _ | with_reducible refine Own.drew ?_ | with_reducible refine Own.far ?_ ?_ _)); all_goals first | (intro k hk; have := hb_ k hk; (try simp at this); (try simp); omega) | omega | (simp; done) | (simp; omega))), (by exact bel2 p7 p6)⟩
          case rest =>
            obtain ⟨g, A7, c7, rfl, rfl, mp, o7, gkc⟩ := hcut
            obtain ⟨w7, rfl⟩ : ∃ x : World, x = wc := ⟨_, rfl⟩
            have hr7 := o7.rd'
            have g_w7 : Grows (w5.alloc (.cells #[.int .i64 T, .int .i64 C, .slice A5 l.length c5] 28)) w7 := by rw [← HWK.out]; exact gkc
            clear mk mak hrk hak
            have s_w7 := Below.size g_w7; (try simp at s_w7)
            clear ma_0 ma_1 ma_2 ma_l ma_f
            replace ma := ma.grows (w' := w7) (by exact bel1 g_w7)
            have ma_0 := ma.c0; have ma_1 := ma.c1; have ma_2 := ma.c2; have ma_l := ma.lt; have ma_f := ma.fz
            clear mb_0 mb_1 mb_2 mb_l mb_f
            replace mb := mb.grows (w' := w7) (by exact bel1 g_w7)
            have mb_0 := mb.c0; have mb_1 := mb.c1; have mb_2 := mb.c2; have mb_l := mb.lt; have mb_f := mb.fz
            clear mr_0 mr_1 mr_2 mr_l mr_f
            replace mr := mr.grows (w' := w7) (by exact bel1 g_w7)
            have mr_0 := mr.c0; have mr_1 := mr.c1; have mr_2 := mr.c2; have mr_l := mr.lt; have mr_f := mr.fz
            replace ha1 := ha1.grows (w' := w7) (by exact bel1 g_w7)
            replace hb1 := hb1.grows (w' := w7) (by exact bel1 g_w7)
            replace hr2 := hr2.grows (w' := w7) (by exact bel1 g_w7)
            clear ms_0 ms_1 ms_2 ms_l ms_f
            replace ms := ms.grows (w' := w7) (by exact bel1 g_w7)
            have ms_0 := ms.c0; have ms_1 := ms.c1; have ms_2 := ms.c2; have ms_l := ms.lt; have ms_f := ms.fz
            replace hr5 := hr5.grows (w' := w7) (by exact bel1 g_w7)
            replace o5 := o5.grows (w' := w7) (by exact bel1 g_w7)
            have mk : MBox w7 (w5.heap.size) T C (.slice A5 l.length c5) := MBox.grows (MBox.new_ w5 T C (.slice A5 l.length c5) 28 (by simp)) (w' := w7) (by exact bel1 g_w7)
            have mk_0 := mk.c0; have mk_1 := mk.c1; have mk_2 := mk.c2; have mk_l := mk.lt; have mk_f := mk.fz
            replace HG : Grows w w7 := by exact bel2 g_w7 HG
            have h_w7 := Below.size HG
            have mp_0 := mp.c0; have mp_1 := mp.c1; have mp_2 := mp.c2; have mp_l := mp.lt; have mp_f := mp.fz
            cases PO with
            | none =>
              obtain rfl : RES = none := HR3.out
              go_wp2_with fail
              refine bodyPost_ret (v := .tuple #[.agg #[.int .i64 0, .int .i64 0, .slice none 0 0], .bool false]) ?_ rfl ?_
              · simp [results, Try.results28, go_sem, mr_0, mr_1, mr_2, mr_f, mr_l]
              · exact ⟨_, rfl, Own.nil _ _, by exact bel1 HG⟩
            | some p =>
              have hxp : p.l.length ≤ 576 := XP.out p rfl
              simp only [oM_some] at hr7 hxp mp mp_0 mp_1 mp_2 ⊢
              have CB := fun W A cp h => (iBas_c p.r p.c A p.l p.l.length cp W rfl h (by omega)).mono fun _ _ h => matRet_out h
              have HRB : RES = basO p := HR3.out
              rw [show (⟨p.r, p.c, p.l⟩ : MX) = p from rfl, ← HRB] at CB
              have CB' := Lib.hid CB
              clear CB HRB
              go_wp2_with fail
              refine (CB'.out _ _ _ (by exact Rd.grows hr7 (by exact bel0))).mono ?_; rintro e w8 ⟨v8, rfl, o8, g_w8⟩
              have s_w8 := Below.size g_w8; (try simp at s_w8)
              clear ma_0 ma_1 ma_2 ma_l ma_f
              replace ma := ma.grows (w' := w8) (by exact bel1 g_w8)
              have ma_0 := ma.c0; have ma_1 := ma.c1; have ma_2 := ma.c2; have ma_l := ma.lt; have ma_f := ma.fz
              clear mb_0 mb_1 mb_2 mb_l mb_f
              replace mb := mb.grows (w' := w8) (by exact bel1 g_w8)
              have mb_0 := mb.c0; have mb_1 := mb.c1; have mb_2 := mb.c2; have mb_l := mb.lt; have mb_f := mb.fz
              clear mr_0 mr_1 mr_2 mr_l mr_f
              replace mr := mr.grows (w' := w8) (by exact bel1 g_w8)
              have mr_0 := mr.c0; have mr_1 := mr.c1; have mr_2 := mr.c2; have mr_l := mr.lt; have mr_f := mr.fz
              replace ha1 := ha1.grows (w' := w8) (by exact bel1 g_w8)
              replace hb1 := hb1.grows (w' := w8) (by exact bel1 g_w8)
              replace hr2 := hr2.grows (w' := w8) (by exact bel1 g_w8)
              clear ms_0 ms_1 ms_2 ms_l ms_f
              replace ms := ms.grows (w' := w8) (by exact bel1 g_w8)
              have ms_0 := ms.c0; have ms_1 := ms.c1; have ms_2 := ms.c2; have ms_l := ms.lt; have ms_f := ms.fz
              replace hr5 := hr5.grows (w' := w8) (by exact bel1 g_w8)
              replace o5 := o5.grows (w' := w8) (by exact bel1 g_w8)
              clear mk_0 mk_1 mk_2 mk_l mk_f
              replace mk := mk.grows (w' := w8) (by exact bel1 g_w8)
              have mk_0 := mk.c0; have mk_1 := mk.c1; have mk_2 := mk.c2; have mk_l := mk.lt; have mk_f := mk.fz
              clear mp_0 mp_1 mp_2 mp_l mp_f
              replace mp := mp.grows (w' := w8) (by exact bel1 g_w8)
              have mp_0 := mp.c0; have mp_1 := mp.c1; have mp_2 := mp.c2; have mp_l := mp.lt; have mp_f := mp.fz
              replace hr7 := hr7.grows (w' := w8) (by exact bel1 g_w8)
              replace HG : Grows w w8 := by exact bel2 g_w8 HG
              have h_w8 := Below.size HG
              obtain ⟨A8, c8, rfl, _, _⟩ := o8.val
              go_wp2_with fail
              refine bodyPost_ret (v := .tuple #[.agg #[.int .i64 (oM RES).r, .int .i64 (oM RES).c, .slice A8 (oM RES).l.length c8], .bool RES.isSome]) ?_ rfl ?_
              · simp [results, Try.results28, go_sem, mr_0, mr_1, mr_2, mr_f, mr_l]
              · exact ⟨_, rfl, by exact ownl o8, by exact bel1 HG⟩
end
end Go.Proofs.Ytpgoefdeodoacaa
