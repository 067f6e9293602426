/- Contracts and lemmas, put together. -/
import Derived.Test.YtfilbjbogggaoaaGreatPkMD
import Derived.Test.YtfilbjbogggaoaaGreatPkVD
/- Contract: the short vectors, the program's. -/
namespace Go.Proofs.YtfilbjbogggaoaaGreat
set_option linter.unusedSimpArgs false
set_option linter.unusedVariables false
open Go.RowKit

/-- a list of vectors, or nothing -/
def RowsRet (o : Option (List KV)) (w : World) (e : Ending) (w' : World) : Prop := ∃ v vs, e = .returned (.tuple #[v, .bool o.isSome]) ∧ RowsO w' w.heap.size v vs (oRows o) ∧ Grows w w'
theorem rowsRet_out {o : Option (List KV)} {w w' : World} {e : Ending} (h : RowsRet o w e w') : ∃ v vs, e = .returned (.tuple #[v, .bool o.isSome]) ∧ RowsO w' w.heap.size v vs (oRows o) ∧ Grows w w' := h
theorem shvO_none {g : MX} {b : Int} (h : boxO g b = none) : shvO g b = none := by unfold shvO; rw [h]; rfl
theorem shvO_box {g : MX} {b : Int} {s : List Int} (h : boxO g b = some s) : shvO g b = if boxB (negL s) s s.length then some (putsK [] (shL g b (boxF (negL s) s s.length))) else none := by unfold shvO; rw [h]; rfl
theorem shvO_big {g : MX} {b : Int} {s : List Int} (h : boxO g b = some s) (h2 : boxB (negL s) s s.length = false) : shvO g b = none := by rw [shvO_box h, h2]; rfl
theorem shvO_some {g : MX} {b : Int} {s : List Int} (h : boxO g b = some s) (h2 : boxB (negL s) s s.length = true) : shvO g b = some (putsK [] (shL g b (boxF (negL s) s s.length))) := by rw [shvO_box h, h2]; rfl
theorem negL_box {g : MX} {b : Int} {s : List Int} (h : boxO g b = some s) : ∀ i, i < s.length → nth (negL s) i ≤ nth s i ∧ -1000000000 ≤ nth (negL s) i ∧ nth s i ≤ 1000000000 := fun i hi => by
  have := boxO_cells h i hi
  rw [negL_nth hi]
  omega
theorem shK_no1 {g : MX} {b : Int} {v : List Int} (h : posV v = false) : shK g b v = none := by unfold shK; rw [h]; simp
theorem shK_no2 {g : MX} {b : Int} {v : List Int} (h : vOk g.r g.c g.l v = false) : shK g b v = none := by unfold shK; rw [h]; simp
theorem shK_no3 {g : MX} {b : Int} {v : List Int} (h : ¬ vVal g.r g.c g.l v ≤ b) : shK g b v = none := by unfold shK; simp [h]
theorem shK_yes {g : MX} {b : Int} {v : List Int} (h1 : posV v = true) (h2 : vOk g.r g.c g.l v = true) (h3 : vVal g.r g.c g.l v ≤ b) : shK g b v = some (vVal g.r g.c g.l v, v) := by unfold shK; simp [h1, h2, h3]
theorem rowsD_mem {L : List (List Int)} {i : Nat} (hi : i < L.length) : L.getD i [] ∈ L := by simp [List.getD, hi]
theorem RowsO.cellAt {w : World} {B n c : Nat} {A : Option Addr} {vs : List Value} {L : List (List Int)} (h : RowsO w B (.slice A n c) vs L) {j : Nat} (hj : j < L.length) :
    ∃ b off A' c', A = some ⟨b, off, none⟩ ∧ b < w.heap.size ∧ w.cell? ⟨b, off + j, none⟩ = some (.slice A' (L.getD j []).length c') ∧ Rd w A' (L.getD j []) ∧ vs.getD j (.slice none 0 0) = .slice A' (L.getD j []).length c' ∧ Own w B (.slice A' (L.getD j []).length c') (L.getD j []) := by
  have hvl : j < vs.length := by rw [h.len]; exact hj
  have hu : vs[j]? = some (vs.getD j (.slice none 0 0)) := by simp [List.getD, hvl]
  have hL : L[j]? = some (L.getD j []) := by simp [List.getD, hj]
  have how := h.row j _ _ hu hL
  obtain ⟨A', c', e, hr, hc⟩ := how.val
  obtain ⟨b, off, rfl, hbs, hcell⟩ := h.own.rd j _ hu
  rw [e] at how hcell
  exact ⟨b, off, A', c', rfl, hbs, hcell, hr, e, how⟩

section
set_option maxHeartbeats 4000000
theorem iShv_c (r c b : Int) (A : Option Addr) (l : List Int) (n cap : Nat) (w : World) (hn : l.length = n) (hcap : n ≤ cap) (hcap2 : cap ≤ 9223372036854775807) (ha : Rd w A l) (hl : n ≤ 1099511627776) :
    Calls Tryz.prog 11 #[.agg #[.int .i64 r, .int .i64 c, .slice A n cap], .int .i64 b] w (RowsRet (shvO ⟨r, c, l⟩ b) w) := by
  have CB := fun W h => iBox_c r c b A l n cap W hn hcap hcap2 h hl
  have CV := Lib.hid fun (A' : Option Addr) (x : List Int) (c' : Nat) W h h' (hx : x.length ≤ 1099511627776) => iValueAt_c r c A A' l x n x.length cap c' W hn rfl h h' hl hx
  obtain ⟨w1, hw1⟩ : ∃ w1, w1 = w.alloc (.cells #[.int .i64 r, .int .i64 c, .slice A n cap] 26) := ⟨_, rfl⟩
  have ma : MBox w1 w.heap.size r c (.slice A n cap) := by rw [hw1]; exact MBox.mk_ _ _ _ _ _
  have HG : Grows w w1 := by rw [hw1]; exact bel0
  have HS1 : w1.heap.size = w.heap.size + 1 := by rw [hw1]; simp
  have HW1 := Lib.hid hw1
  have ha1 := ha.grows HG
  have X1 := Lib.hid fun s (h : boxO ⟨r, c, l⟩ b = some s) => boxO_length h
  have X2 := Lib.hid fun s (h : boxO ⟨r, c, l⟩ b = some s) => negL_box h
  have X3 := Lib.hid fun s (h : boxO ⟨r, c, l⟩ b = some s) => boxO_bound h
  have X4 := Lib.hid fun s (h : boxO ⟨r, c, l⟩ b = some s) => boxO_def h
  obtain ⟨RES, hRES⟩ : ∃ x, x = shvO ⟨r, c, l⟩ b := ⟨_, rfl⟩
  rw [← hRES]
  have HR := Lib.hid hRES
  obtain ⟨BO, hBO⟩ : ∃ x, x = boxO ⟨r, c, l⟩ b := ⟨_, rfl⟩
  have HBO := Lib.hid hBO
  rw [← hBO] at CB
  have CB' := Lib.hid CB
  clear hw1 CB hRES hBO
  go_enter Tryz.func11, Tryz.ntmps11
  go_wp2_with fail
  rw [← HW1.out]
  have ma_0 := ma.c0; have ma_1 := ma.c1; have ma_2 := ma.c2; have ma_l := ma.lt; have ma_f := ma.fz
  refine (CB'.out _ (by exact Rd.grows ha1 (by exact bel0))).mono ?_; rintro e w2 ⟨v2, rfl, o2, g_w2⟩
  have s_w2 := Below.size g_w2; (try simp at s_w2)
  clear ma_0 ma_1 ma_2 ma_l ma_f
  replace ma := ma.grows (w' := w2) (by exact bel1 g_w2)
  have ma_0 := ma.c0; have ma_1 := ma.c1; have ma_2 := ma.c2; have ma_l := ma.lt; have ma_f := ma.fz
  replace ha1 := ha1.grows (w' := w2) (by exact bel1 g_w2)
  replace HG : Grows w w2 := by exact bel2 g_w2 HG
  have h_w2 := Below.size HG
  obtain ⟨A2, c2, rfl, hr2, _⟩ := o2.val
  cases BO with
  | none =>
    obtain rfl : RES = none := by rw [HR.out, shvO_none HBO.out.symm]
    go_wp2_with fail
    go_ret2
    exact ⟨_, [], rfl, RowsO.new_ _ rfl (by omega), by exact bel1 HG⟩
  | some s =>
    have hs6 := X1.out s HBO.out.symm
    have hbd := X2.out s HBO.out.symm
    have hbb := X3.out s HBO.out.symm
    have hdef := X4.out s HBO.out.symm
    have HR1 := Lib.hid fun h => HR.out.trans (shvO_big HBO.out.symm h)
    have HR2 := Lib.hid fun h => HR.out.trans (shvO_some HBO.out.symm h)
    have hr2' : Rd w2 A2 s := hr2
    have CN := Lib.hid fun W h => negated_c A2 s s.length c2 W rfl h (by omega) (fun i hi => by have := boxO_cells HBO.out.symm i hi; omega)
    change RowKit.Hid (∀ W h, Calls Tryz.prog 53 #[.slice A2 s.length c2] W fun e w' => ∃ v, e = .returned v ∧ Own w' W.heap.size v (negL s) ∧ Grows W w') at CN
    have CX := Lib.hid fun W A3 c3 h h' => boxed_c A3 A2 (negL s) s s.length c3 c2 W (negL_length s) rfl h h' (by omega) hbd
    have HNL := Lib.hid (negL_length s)
    have HBL := Lib.hid fun (h : boxB (negL s) s s.length = true) => boxB_len h
    have HBX := Lib.hid fun (h : boxB (negL s) s s.length = true) => boxR_yes h
    have HFL := Lib.hid fun (v : List Int) (h : v ∈ boxF (negL s) s s.length) => boxF_len h
    generalize negL s = ns at *
    clear hbd X1 X2 X3 X4
    go_wp2_with fail
    refine (CN.out _ (by exact Rd.grows hr2' (by exact bel0))).mono ?_; rintro e w3 ⟨v3, rfl, o3, g_w3⟩
    have s_w3 := Below.size g_w3; (try simp at s_w3)
    clear ma_0 ma_1 ma_2 ma_l ma_f
    replace ma := ma.grows (w' := w3) (by exact bel1 g_w3)
    have ma_0 := ma.c0; have ma_1 := ma.c1; have ma_2 := ma.c2; have ma_l := ma.lt; have ma_f := ma.fz
    replace ha1 := ha1.grows (w' := w3) (by exact bel1 g_w3)
    replace hr2 := hr2.grows (w' := w3) (by exact bel1 g_w3)
    replace HG : Grows w w3 := by exact bel2 g_w3 HG
    have h_w3 := Below.size HG
    obtain ⟨A3, c3, rfl, hr3, _⟩ := o3.val
    rw [HNL.out]
    go_wp2_with fail
    refine (CX.out _ _ _ (by exact Rd.grows hr3 (by exact bel0)) (by exact Rd.grows hr2' (by exact bel0))).mono ?_; rintro e w4 ⟨v4, vs, rfl, o4, g_w4⟩
    have s_w4 := Below.size g_w4; (try simp at s_w4)
    clear ma_0 ma_1 ma_2 ma_l ma_f
    replace ma := ma.grows (w' := w4) (by exact bel1 g_w4)
    have ma_0 := ma.c0; have ma_1 := ma.c1; have ma_2 := ma.c2; have ma_l := ma.lt; have ma_f := ma.fz
    replace ha1 := ha1.grows (w' := w4) (by exact bel1 g_w4)
    replace hr2 := hr2.grows (w' := w4) (by exact bel1 g_w4)
    replace hr3 := hr3.grows (w' := w4) (by exact bel1 g_w4)
    replace HG : Grows w w4 := by exact bel2 g_w4 HG
    have h_w4 := Below.size HG
    generalize boxB ns s s.length = OK at *
    cases OK
    · obtain rfl : RES = none := HR1.out rfl
      go_wp2_with fail
      go_ret2
      exact ⟨_, [], rfl, RowsO.new_ _ rfl (by omega), by exact bel1 HG⟩
    · have hRES := HR2.out rfl
      have hb4 := HBL.out rfl
      rw [HBX.out rfl] at o4
      clear HR1 HR2 HBL HBX
      generalize boxF ns s s.length = rows at *
      subst hRES
      have hs3 : w.heap.size ≤ w3.heap.size := by omega
      obtain ⟨A4, c4, rfl, _, _⟩ := o4.val
      have HDEF := Lib.hid hdef
      clear hdef
      go_wp2_with fail
      go_loopw [10, 37] (fun o i wr => ∃ (I : Nat), i = .int .i64 I ∧ I ≤ rows.length ∧ OwnS wr w4.heap.size o (selV ⟨r, c, l⟩ b vs rows I) ∧ Grows w4 wr) (fun _ i _ => rows.length - (intOf i).toNat)
      case atStart => exact ⟨0, rfl, Nat.zero_le _, OwnS.new_ _ rfl (Nat.le_refl _), by exact bel0⟩
      case round =>
        obtain ⟨I, rfl, hI, ho, hg⟩ := hrel
        have hsw := Below.size hg
        by_cases hlt : I < rows.length
        · have i1 : (I : Int) < (rows.length : Int) := by omega
          obtain ⟨b8, o8, A5, c5, rfl, hb8, hc8, hr5, he5, how5⟩ := (o4.grows hg).cellAt hlt
          have hxl : (rows.getD I []).length ≤ 6 := by rw [HFL.out _ (rowsD_mem hlt)]; exact hs6
          have ma2 := ma.grows (w' := wr) (by exact bel4 hg g_w4 g_w3 g_w2)
          obtain ⟨m0, m1, m2⟩ := ma2.cells
          have HN0 := Lib.hid fun h => selV_none (g := ⟨r, c, l⟩) (b := b) (vs := vs) (rows := rows) (i := I) h
          have HN1 := Lib.hid fun k h => selV_some (g := ⟨r, c, l⟩) (b := b) (vs := vs) (rows := rows) (i := I) (k := k) h
          have hsl := selV_len (g := ⟨r, c, l⟩) (b := b) (vs := vs) (rows := rows) (i := I)
          rw [he5] at HN1
          have CP := Lib.hid fun W h => posFirst_c A5 (rows.getD I []) (rows.getD I []).length c5 W rfl h (by omega)
          have CW := Lib.hid fun W h h' => CV.out A5 (rows.getD I []) c5 W h h' (by omega)
          have K1 := Lib.hid fun h => HN0.out (shK_no1 (g := ⟨r, c, l⟩) (b := b) h)
          have K2 := Lib.hid fun h => HN0.out (shK_no2 (g := ⟨r, c, l⟩) (b := b) h)
          have K3 := Lib.hid fun h => HN0.out (shK_no3 (g := ⟨r, c, l⟩) (b := b) h)
          have K4 := Lib.hid fun h1 h2 h3 => HN1.out _ (shK_yes (g := ⟨r, c, l⟩) (b := b) h1 h2 h3)
          have K5 := Lib.hid fun h1 h2 => val_pos (g := l) (x := rows.getD I []) HDEF.out h1 (posV_some h2)
          simp only at K1 K2 K3 K4 K5
          clear HN0 HN1 he5
          have haw := ha1.grows (w' := wr) (by exact bel4 hg g_w4 g_w3 g_w2)
          generalize vVal r c l (rows.getD I []) = V at *
          generalize vOk r c l (rows.getD I []) = OK at *
          generalize posV (rows.getD I []) = PV at *
          generalize rows.getD I [] = x at *
          generalize selV ⟨r, c, l⟩ b vs rows I = S at *
          have hr5' : Rd wr A5 x := hr5
          cases PV
          · have HNX := Lib.hid (K1.out rfl)
            clear K1 K2 K3 K4 K5
            go_wp2_with fail
            refine (CP.out _ (by exact (Rd.grows hr5' (by exact bel0)))).mono ?_; rintro e w5 ⟨rfl, rfl⟩
            go_wp2_with fail
            go_round
            case rel => exact ⟨I + 1, by go_num, by omega, by rw [HNX.out]; exact ho, hg⟩
            case measure => simp [intOf]; omega
          · cases OK
            · have HNX := Lib.hid (K2.out rfl)
              clear K1 K2 K3 K4 K5
              go_wp2_with fail
              refine (CP.out _ (by exact (Rd.grows hr5' (by exact bel0)))).mono ?_; rintro e w5 ⟨rfl, rfl⟩
              go_wp2_with fail
              refine (CW.out _ (by exact (Rd.grows haw (by exact bel0))) (by exact (Rd.grows hr5' (by exact bel0)))).mono ?_; rintro e w6 ⟨rfl, g6⟩
              go_wp2_with fail
              go_round
              case rel => exact ⟨I + 1, by go_num, by omega, by rw [HNX.out]; exact ho.grows g6, by exact bel2 g6 hg⟩
              case measure => simp [intOf]; omega
            · have hV := K5.out rfl rfl
              by_cases hVb : V ≤ b
              · have HNX := Lib.hid (K4.out rfl rfl hVb)
                clear K1 K2 K3 K4 K5
                go_wp2_with fail
                refine (CP.out _ (by exact (Rd.grows hr5' (by exact bel0)))).mono ?_; rintro e w5 ⟨rfl, rfl⟩
                go_wp2_with fail
                refine (CW.out _ (by exact (Rd.grows haw (by exact bel0))) (by exact (Rd.grows hr5' (by exact bel0)))).mono ?_; rintro e w6 ⟨rfl, g6⟩
                have ho6 := ho.grows g6
                have hs6' := Below.size g6
                obtain ⟨A9, c9, rfl⟩ := ho6.val
                have hSL : S.length + 1 ≤ 1099511627776 := by omega
                go_wp2_with (at_builtin; refine wpList_appS1 rfl (.tmp 60) (.tmp 64) rfl _ _ V rfl w4.heap.size _ S (by rfl) ho6 (by first | rfl | (simp [go_sem]; done) | (simp; rfl)) hSL (by omega) ?_; intro v7 w7 ho7 hg7 hv7)
                obtain ⟨A10, c10, rfl⟩ := ho7.val
                have g7 : Below w4.heap.size w6 w7 := (Below.refl _ _).grown hg7 (by omega) fun k hk => (World.ownsRow.lt ho6 k hk).1
                clear hg7 hv7
                go_wp2_with fail
                go_round
                case rel => exact ⟨I + 1, by go_num, by omega, by rw [HNX.out]; exact ho7, Below.trans (show Grows w4 w6 by exact bel2 g6 hg) g7⟩
                case measure => simp [intOf]; omega
              · have HNX := Lib.hid (K3.out hVb)
                clear K1 K2 K3 K4 K5
                go_wp2_with fail
                refine (CP.out _ (by exact (Rd.grows hr5' (by exact bel0)))).mono ?_; rintro e w5 ⟨rfl, rfl⟩
                go_wp2_with fail
                refine (CW.out _ (by exact (Rd.grows haw (by exact bel0))) (by exact (Rd.grows hr5' (by exact bel0)))).mono ?_; rintro e w6 ⟨rfl, g6⟩
                go_wp2_with fail
                go_round
                case rel => exact ⟨I + 1, by go_num, by omega, by rw [HNX.out]; exact ho.grows g6, by exact bel2 g6 hg⟩
                case measure => simp [intOf]; omega
        · obtain rfl : I = rows.length := by omega
          have hok := o4.grows hg
          have hSR := selV_rows (g := ⟨r, c, l⟩) (b := b) (i := rows.length) hok (Nat.le_refl _)
          have hSK := keys_of (selV_snd (g := ⟨r, c, l⟩) (b := b) (vs := vs) (rows := rows) (i := rows.length) (Nat.le_refl _))
          rw [shL_all] at hSR hSK
          have hSB := selV_len (g := ⟨r, c, l⟩) (b := b) (vs := vs) (rows := rows) (i := rows.length)
          have hSO := Lib.hid fun q hq gg hgg => selV_own (g := ⟨r, c, l⟩) (b := b) (i := rows.length) o4 (Nat.le_refl _) (q := q) hq (gg := gg) hgg
          have hSN : ∀ q ∈ selV ⟨r, c, l⟩ b vs rows rows.length, -1000000 ≤ q.2 ∧ q.2 ≤ 1000000 := fun q hq => by
            obtain ⟨j, _, _, k, hk, e⟩ := selV_mem hq
            obtain ⟨rfl, h2, h3, h4⟩ := shK_some hk
            have := val_pos HDEF.out h2 (posV_some h4)
            rw [e]
            simp only at *
            omega
          have hSX : ∀ x ∈ rowsK (shL ⟨r, c, l⟩ b rows), x.length ≤ 1024 := fun x hx => by
            obtain ⟨k, hk, rfl⟩ := List.mem_map.1 hx
            rw [HFL.out _ (shL_mem hk).1]
            omega
          have CI := Lib.hid (ivo_c _ _ _ w3.heap.size wr (ho.less (by omega)) hSR (fun i hi bb hbb e => by
            have h1 := hSO.out _ (by rw [nthS_get _ _ hi]; exact List.getElem_mem _) bb hbb
            have h2 := (World.ownsRow.lt ho bb e).1
            omega) (fun i hi => hSN _ (by rw [nthS_get _ _ hi]; exact List.getElem_mem _)) hSX (by omega) (by omega))
          rw [hSK] at CI
          clear hSR hSK hSO hSN hSX
          obtain ⟨A9, c9, rfl⟩ := ho.val
          go_wp2_with fail
          refine CI.out.mono ?_; rintro e w9 ⟨v9, vs9, rfl, o9, g9⟩
          go_wp2_with fail
          go_ret2
          exact ⟨_, _, rfl, o9.less (by omega), Below.trans HG (Below.trans (show Below w.heap.size w4 wr from Below.mono hg (by omega)) (Below.mono g9 (by omega)))⟩
end
end Go.Proofs.YtfilbjbogggaoaaGreat
