/- Contracts and lemmas, put together. -/
import Derived.Deep.CutBlock
import Derived.Test.YtbfkpfdkndnhkaaGreatPkB
import Derived.Test.YtbfkpfdkndnhkaaGreatPkM
import Derived.Test.YtbfkpfdkndnhkaaGreatPkVS
import Derived.Test.YtbfkpfdkndnhkaaGreatPkXF
/- Contract: the short vectors, the program's. -/
namespace Go.Proofs.YtbfkpfdkndnhkaaGreat
set_option linter.unusedSimpArgs false
set_option linter.unusedVariables false
open Go.RowKit

/-- a list of vectors, or nothing -/
def RowsRet (o : Option (List KV)) (w : World) (e : Ending) (w' : World) : Prop := ∃ v vs, e = .returned (.tuple #[v, .bool o.isSome]) ∧ RowsO w' w.heap.size v vs (oRows o) ∧ Grows w w'
theorem rowsRet_out {o : Option (List KV)} {w w' : World} {e : Ending} (h : RowsRet o w e w') : ∃ v vs, e = .returned (.tuple #[v, .bool o.isSome]) ∧ RowsO w' w.heap.size v vs (oRows o) ∧ Grows w w' := h
theorem shvO_none {g : MX} {b : Int} (h : boxO g b = none) : shvO g b = none := by unfold shvO; rw [h]; rfl
theorem shvO_box {g : MX} {b : Int} {s : List Int} (h : boxO g b = some s) : shvO g b = if boxB (negL s) s s.length then some (putsK [] (shL g b (boxF (negL s) s s.length))) else none := by unfold shvO; rw [h]; rfl
theorem shvO_big {g : MX} {b : Int} {s : List Int} (h : boxO g b = some s) (h2 : boxB (negL s) s s.length = false) : shvO g b = none := by rw [shvO_box h, h2]; rfl
theorem shvO_some {g : MX} {b : Int} {s : List Int} (h : boxO g b = some s) (h2 : boxB (negL s) s s.length = true) : shvO g b = some (putsK [] (shL g b (boxF (negL s) s s.length))) := by rw [shvO_box h, h2]; rfl
theorem negL_box {g : MX} {b : Int} {s : List Int} (h : boxO g b = some s) : ∀ i, i < s.length → nth (negL s) i ≤ nth s i ∧ -1000000000 ≤ nth (negL s) i ∧ nth s i ≤ 1000000000 := fun i hi => by
  have := boxO_cells h i hi
  rw [negL_nth hi]
  omega
theorem shK_no1 {g : MX} {b : Int} {v : List Int} (h : posV v = false) : shK g b v = none := by unfold shK; rw [h]; simp
theorem shK_no2 {g : MX} {b : Int} {v : List Int} (h : vOk g.r g.c g.l v = false) : shK g b v = none := by unfold shK; rw [h]; simp
theorem shK_no3 {g : MX} {b : Int} {v : List Int} (h : ¬ vVal g.r g.c g.l v ≤ b) : shK g b v = none := by unfold shK; simp [h]
theorem shK_yes {g : MX} {b : Int} {v : List Int} (h1 : posV v = true) (h2 : vOk g.r g.c g.l v = true) (h3 : vVal g.r g.c g.l v ≤ b) : shK g b v = some (vVal g.r g.c g.l v, v) := by unfold shK; simp [h1, h2, h3]
section
set_option maxHeartbeats 4000000
theorem iShv_c (r c b : Int) (A : Option Addr) (l : List Int) (n cap : Nat) (w : World) (hn : l.length = n) (hcap : n ≤ cap) (hcap2 : cap ≤ 9223372036854775807) (ha : Rd w A l) (hl : n ≤ 1099511627776) :
    Calls Tryz.prog 6 #[.agg #[.int .i64 r, .int .i64 c, .slice A n cap], .int .i64 b] w (RowsRet (shvO ⟨r, c, l⟩ b) w) := by
  have CB := fun W h => iBox_c r c b A l n cap W hn hcap hcap2 h hl
  have CV := Lib.hid fun (A' : Option Addr) (x : List Int) (c' : Nat) W h h' (hx : x.length ≤ 1099511627776) => iValueAt_c r c A A' l x n x.length cap c' W hn rfl h h' hl hx
  obtain ⟨w1, hw1⟩ : ∃ w1, w1 = w.alloc (.cells #[.int .i64 r, .int .i64 c, .slice A n cap] 26) := ⟨_, rfl⟩
  have ma : MBox w1 w.heap.size r c (.slice A n cap) := by rw [hw1]; exact MBox.mk_ _ _ _ _ _
  have HG : Grows w w1 := by rw [hw1]; exact bel0
  have HS1 : w1.heap.size = w.heap.size + 1 := by rw [hw1]; simp
  have HW1 := Lib.hid hw1
  have ha1 := ha.grows HG
  have X1 := Lib.hid fun s (h : boxO ⟨r, c, l⟩ b = some s) => boxO_length h
  have X2 := Lib.hid fun s (h : boxO ⟨r, c, l⟩ b = some s) => negL_box h
  have X3 := Lib.hid fun s (h : boxO ⟨r, c, l⟩ b = some s) => boxO_bound h
  have X4 := Lib.hid fun s (h : boxO ⟨r, c, l⟩ b = some s) => boxO_def h
  obtain ⟨RES, hRES⟩ : ∃ x, x = shvO ⟨r, c, l⟩ b := ⟨_, rfl⟩
  rw [← hRES]
  have HR := Lib.hid hRES
  obtain ⟨BO, hBO⟩ : ∃ x, x = boxO ⟨r, c, l⟩ b := ⟨_, rfl⟩
  have HBO := Lib.hid hBO
  rw [← hBO] at CB
  have CB' := Lib.hid CB
  clear hw1 CB hRES hBO
  go_enter Tryz.func6, Tryz.ntmps6
  go_wp2_with fail
  rw [← HW1.out]
  have ma_0 := ma.c0; have ma_1 := ma.c1; have ma_2 := ma.c2; have ma_l := ma.lt; have ma_f := ma.fz
  refine (CB'.out _ (by exact Rd.grows ha1 (by exact bel0))).mono ?_; rintro e w2 ⟨v2, rfl, o2, g_w2⟩
  have s_w2 := Below.size g_w2; (try simp at s_w2)
  clear ma_0 ma_1 ma_2 ma_l ma_f
  replace ma := ma.grows (w' := w2) (by exact bel1 g_w2)
  have ma_0 := ma.c0; have ma_1 := ma.c1; have ma_2 := ma.c2; have ma_l := ma.lt; have ma_f := ma.fz
  replace ha1 := ha1.grows (w' := w2) (by exact bel1 g_w2)
  replace HG : Grows w w2 := by exact bel2 g_w2 HG
  have h_w2 := Below.size HG
  obtain ⟨A2, c2, rfl, hr2, _⟩ := o2.val
  cases BO with
  | none =>
    obtain rfl : RES = none := by rw [HR.out, shvO_none HBO.out.symm]
    go_wp2_with fail
    go_ret2
    exact ⟨_, [], rfl, RowsO.new_ _ rfl (by omega), by exact bel1 HG⟩
  | some s =>
    have hs6 := X1.out s HBO.out.symm
    have hbd := X2.out s HBO.out.symm
    have hbb := X3.out s HBO.out.symm
    have hdef := X4.out s HBO.out.symm
    have HR1 := Lib.hid fun h => HR.out.trans (shvO_big HBO.out.symm h)
    have HR2 := Lib.hid fun h => HR.out.trans (shvO_some HBO.out.symm h)
    have hr2' : Rd w2 A2 s := hr2
    have CN := Lib.hid fun W h => negated_c A2 s s.length c2 W rfl h (by omega) (fun i hi => by have := boxO_cells HBO.out.symm i hi; omega)
    change RowKit.Hid (∀ W h, Calls Tryz.prog 15 #[.slice A2 s.length c2] W fun e w' => ∃ v, e = .returned v ∧ Own w' W.heap.size v (negL s) ∧ Grows W w') at CN
    have CX := Lib.hid fun W A3 c3 h h' => boxed_c A3 A2 (negL s) s s.length c3 c2 W (negL_length s) rfl h h' (by omega) hbd
    have HNL := Lib.hid (negL_length s)
    have HBL := Lib.hid fun (h : boxB (negL s) s s.length = true) => boxB_len h
    have HBX := Lib.hid fun (h : boxB (negL s) s s.length = true) => boxR_yes h
    have HFL := Lib.hid fun (v : List Int) (h : v ∈ boxF (negL s) s s.length) => boxF_len h
    generalize negL s = ns at *
    clear hbd X1 X2 X3 X4
    go_wp2_with fail
    refine (CN.out _ (by exact Rd.grows hr2' (by exact bel0))).mono ?_; rintro e w3 ⟨v3, rfl, o3, g_w3⟩
    have s_w3 := Below.size g_w3; (try simp at s_w3)
    clear ma_0 ma_1 ma_2 ma_l ma_f
    replace ma := ma.grows (w' := w3) (by exact bel1 g_w3)
    have ma_0 := ma.c0; have ma_1 := ma.c1; have ma_2 := ma.c2; have ma_l := ma.lt; have ma_f := ma.fz
    replace ha1 := ha1.grows (w' := w3) (by exact bel1 g_w3)
    replace hr2 := hr2.grows (w' := w3) (by exact bel1 g_w3)
    replace HG : Grows w w3 := by exact bel2 g_w3 HG
    have h_w3 := Below.size HG
    obtain ⟨A3, c3, rfl, hr3, _⟩ := o3.val
    rw [HNL.out]
    go_wp2_with fail
    refine (CX.out _ _ _ (by exact Rd.grows hr3 (by exact bel0)) (by exact Rd.grows hr2' (by exact bel0))).mono ?_; rintro e w4 ⟨v4, vs, rfl, o4, g_w4⟩
    have s_w4 := Below.size g_w4; (try simp at s_w4)
    clear ma_0 ma_1 ma_2 ma_l ma_f
    replace ma := ma.grows (w' := w4) (by exact bel1 g_w4)
    have ma_0 := ma.c0; have ma_1 := ma.c1; have ma_2 := ma.c2; have ma_l := ma.lt; have ma_f := ma.fz
    replace ha1 := ha1.grows (w' := w4) (by exact bel1 g_w4)
    replace hr2 := hr2.grows (w' := w4) (by exact bel1 g_w4)
    replace hr3 := hr3.grows (w' := w4) (by exact bel1 g_w4)
    replace HG : Grows w w4 := by exact bel2 g_w4 HG
    have h_w4 := Below.size HG
    generalize boxB ns s s.length = OK at *
    cases OK
    · obtain rfl : RES = none := HR1.out rfl
      go_wp2_with fail
      go_ret2
      exact ⟨_, [], rfl, RowsO.new_ _ rfl (by omega), by exact bel1 HG⟩
    · have hRES := HR2.out rfl
      have hb4 := HBL.out rfl
      rw [HBX.out rfl] at o4
      clear HR1 HR2 HBL HBX
      generalize boxF ns s s.length = rows at *
      subst hRES
      have hs3 : w.heap.size ≤ w3.heap.size := by omega
      obtain ⟨A4, c4, rfl, _, _⟩ := o4.val
      have HDEF := Lib.hid hdef
      clear hdef
      go_wp2_with fail
      go_loopw [10, 37] (fun o i wr => ∃ (I : Nat), i = .int .i64 I ∧ I ≤ rows.length ∧ OwnS wr w4.heap.size o (selV ⟨r, c, l⟩ b vs rows I) ∧ Grows w4 wr) (fun _ i _ => rows.length - (intOf i).toNat)
      case atStart => exact ⟨0, rfl, Nat.zero_le _, OwnS.new_ _ rfl (Nat.le_refl _), by exact bel0⟩
      case round =>
        obtain ⟨I, rfl, hI, ho, hg⟩ := hrel
        have hsw := Below.size hg
        by_cases hlt : I < rows.length
        · have i1 : (I : Int) < (rows.length : Int) := by omega
          obtain ⟨b8, o8, A5, c5, rfl, hb8, hc8, hr5, he5, how5⟩ := (o4.grows hg).cellAt hlt
          have hxl : (rows.getD I []).length ≤ 6 := by rw [HFL.out _ (rowsD_mem hlt)]; exact hs6
          have ma2 := ma.grows (w' := wr) (by exact bel4 hg g_w4 g_w3 g_w2)
          obtain ⟨m0, m1, m2⟩ := ma2.cells
          have HN0 := Lib.hid fun h => selV_none (g := ⟨r, c, l⟩) (b := b) (vs := vs) (rows := rows) (i := I) h
          have HN1 := Lib.hid fun k h => selV_some (g := ⟨r, c, l⟩) (b := b) (vs := vs) (rows := rows) (i := I) (k := k) h
          have hsl := selV_len (g := ⟨r, c, l⟩) (b := b) (vs := vs) (rows := rows) (i := I)
          rw [he5] at HN1
          have CP := Lib.hid fun W h => posFirst_c A5 (rows.getD I []) (rows.getD I []).length c5 W rfl h (by omega)
          have CW := Lib.hid fun W h h' => CV.out A5 (rows.getD I []) c5 W h h' (by omega)
          have K1 := Lib.hid fun h => HN0.out (shK_no1 (g := ⟨r, c, l⟩) (b := b) h)
          have K2 := Lib.hid fun h => HN0.out (shK_no2 (g := ⟨r, c, l⟩) (b := b) h)
          have K3 := Lib.hid fun h => HN0.out (shK_no3 (g := ⟨r, c, l⟩) (b := b) h)
          have K4 := Lib.hid fun h1 h2 h3 => HN1.out _ (shK_yes (g := ⟨r, c, l⟩) (b := b) h1 h2 h3)
          have K5 := Lib.hid fun h1 h2 => val_pos (g := l) (x := rows.getD I []) HDEF.out h1 (posV_some h2)
          simp only at K1 K2 K3 K4 K5
          clear HN0 HN1 he5
          have haw := ha1.grows (w' := wr) (by exact bel4 hg g_w4 g_w3 g_w2)
          generalize vVal r c l (rows.getD I []) = V at *
          generalize vOk r c l (rows.getD I []) = OK at *
          generalize posV (rows.getD I []) = PV at *
          generalize rows.getD I [] = x at *
          generalize selV ⟨r, c, l⟩ b vs rows I = S at *
          have hr5' : Rd wr A5 x := hr5
          cases PV
          · have HNX := Lib.hid (K1.out rfl)
            clear K1 K2 K3 K4 K5
            go_wp2_with fail
            refine (CP.out _ (by exact (Rd.grows hr5' (by exact bel0)))).mono ?_; rintro e w5 ⟨rfl, rfl⟩
            go_wp2_with fail
            go_round
            case rel => exact ⟨I + 1, by go_num, by omega, by rw [HNX.out]; exact ho, hg⟩
            case measure => simp [intOf]; omega
          · cases OK
            · have HNX := Lib.hid (K2.out rfl)
              clear K1 K2 K3 K4 K5
              go_wp2_with fail
              refine (CP.out _ (by exact (Rd.grows hr5' (by exact bel0)))).mono ?_; rintro e w5 ⟨rfl, rfl⟩
              go_wp2_with fail
              refine (CW.out _ (by exact (Rd.grows haw (by exact bel0))) (by exact (Rd.grows hr5' (by exact bel0)))).mono ?_; rintro e w6 ⟨rfl, g6⟩
              go_wp2_with fail
              go_round
              case rel => exact ⟨I + 1, by go_num, by omega, by rw [HNX.out]; exact ho.grows g6, by exact bel2 g6 hg⟩
              case measure => simp [intOf]; omega
            · have hV := K5.out rfl rfl
              by_cases hVb : V ≤ b
              · have HNX := Lib.hid (K4.out rfl rfl hVb)
                clear K1 K2 K3 K4 K5
                go_wp2_with fail
                refine (CP.out _ (by exact (Rd.grows hr5' (by exact bel0)))).mono ?_; rintro e w5 ⟨rfl, rfl⟩
                go_wp2_with fail
                refine (CW.out _ (by exact (Rd.grows haw (by exact bel0))) (by exact (Rd.grows hr5' (by exact bel0)))).mono ?_; rintro e w6 ⟨rfl, g6⟩
                have ho6 := ho.grows g6
                have hs6' := Below.size g6
                obtain ⟨A9, c9, rfl⟩ := ho6.val
                have hSL : S.length + 1 ≤ 1099511627776 := by omega
                go_wp2_with (at_builtin; refine wpList_appS1 rfl (.tmp 60) (.tmp 64) rfl _ _ V rfl w4.heap.size _ S (by rfl) ho6 (by first | rfl | (simp [go_sem]; done) | (simp; rfl)) hSL (by omega) ?_; intro v7 w7 ho7 hg7 hv7)
                obtain ⟨A10, c10, rfl⟩ := ho7.val
                have g7 : Below w4.heap.size w6 w7 := (Below.refl _ _).grown hg7 (by omega) fun k hk => (World.ownsRow.lt ho6 k hk).1
                clear hg7 hv7
                go_wp2_with fail
                go_round
                case rel => exact ⟨I + 1, by go_num, by omega, by rw [HNX.out]; exact ho7, Below.trans (show Grows w4 w6 by exact bel2 g6 hg) g7⟩
                case measure => simp [intOf]; omega
              · have HNX := Lib.hid (K3.out hVb)
                clear K1 K2 K3 K4 K5
                go_wp2_with fail
                refine (CP.out _ (by exact (Rd.grows hr5' (by exact bel0)))).mono ?_; rintro e w5 ⟨rfl, rfl⟩
                go_wp2_with fail
                refine (CW.out _ (by exact (Rd.grows haw (by exact bel0))) (by exact (Rd.grows hr5' (by exact bel0)))).mono ?_; rintro e w6 ⟨rfl, g6⟩
                go_wp2_with fail
                go_round
                case rel => exact ⟨I + 1, by go_num, by omega, by rw [HNX.out]; exact ho.grows g6, by exact bel2 g6 hg⟩
                case measure => simp [intOf]; omega
        · obtain rfl : I = rows.length := by omega
          have hok := o4.grows hg
          have hSR := selV_rows (g := ⟨r, c, l⟩) (b := b) (i := rows.length) hok (Nat.le_refl _)
          have hSK := keys_of (selV_snd (g := ⟨r, c, l⟩) (b := b) (vs := vs) (rows := rows) (i := rows.length) (Nat.le_refl _))
          rw [shL_all] at hSR hSK
          have hSB := selV_len (g := ⟨r, c, l⟩) (b := b) (vs := vs) (rows := rows) (i := rows.length)
          have hSO := Lib.hid fun q hq gg hgg => selV_own (g := ⟨r, c, l⟩) (b := b) (i := rows.length) o4 (Nat.le_refl _) (q := q) hq (gg := gg) hgg
          have hSN : ∀ q ∈ selV ⟨r, c, l⟩ b vs rows rows.length, -1000000 ≤ q.2 ∧ q.2 ≤ 1000000 := fun q hq => by
            obtain ⟨j, _, _, k, hk, e⟩ := selV_mem hq
            obtain ⟨rfl, h2, h3, h4⟩ := shK_some hk
            have := val_pos HDEF.out h2 (posV_some h4)
            rw [e]
            simp only at *
            omega
          have hSX : ∀ x ∈ rowsK (shL ⟨r, c, l⟩ b rows), x.length ≤ 1024 := fun x hx => by
            obtain ⟨k, hk, rfl⟩ := List.mem_map.1 hx
            rw [HFL.out _ (shL_mem hk).1]
            omega
          have CI := Lib.hid (ivo_c _ _ _ w3.heap.size wr (ho.less (by omega)) hSR (fun i hi bb hbb e => by
            have h1 := hSO.out _ (by rw [nthS_get _ _ hi]; exact List.getElem_mem _) bb hbb
            have h2 := (World.ownsRow.lt ho bb e).1
            omega) (fun i hi => hSN _ (by rw [nthS_get _ _ hi]; exact List.getElem_mem _)) hSX (by omega) (by omega))
          rw [hSK] at CI
          clear hSR hSK hSO hSN hSX
          obtain ⟨A9, c9, rfl⟩ := ho.val
          go_wp2_with fail
          refine CI.out.mono ?_; rintro e w9 ⟨v9, vs9, rfl, o9, g9⟩
          go_wp2_with fail
          go_ret2
          exact ⟨_, _, rfl, o9.less (by omega), Below.trans HG (Below.trans (show Below w.heap.size w4 wr from Below.mono hg (by omega)) (Below.mono g9 (by omega)))⟩
end
end Go.Proofs.YtbfkpfdkndnhkaaGreat

/- Contract: a vector put into its place, the reference's. -/
namespace Go.Proofs.YtbfkpfdkndnhkaaGreat
set_option linter.unusedSimpArgs false
set_option linter.unusedVariables false
open Go.RowKit

theorem RdV.other {w w' : World} {k : Option Nat} {A : Option Addr} {vs : List Value} (h : RdV w A vs) (hg : w.grownBy w' k) (hne : ∀ a, A = some a → k ≠ some a.block) : RdV w' A vs := fun i u hi => by
  obtain ⟨b, off, rfl, hb, hc⟩ := h i u hi
  exact ⟨b, off, rfl, Nat.lt_of_lt_of_le hb hg.size, (cell_keep (hg.block b hb (fun e => hne _ rfl e.symm))).trans hc⟩
theorem RdV.one (w : World) (u : Value) (t : TypeId) {b : Nat} (hb : w.heap.size = b) : RdV (w.alloc (.cells #[u] t)) (some ⟨b, 0, none⟩) [u] := fun i u' hi => by
  subst hb
  cases i with
  | zero =>
    simp at hi
    subst hi
    exact ⟨_, 0, rfl, by simp, by simp [go_sem]⟩
  | succ i => simp at hi
theorem step_appVn {ops : Array Oper} {o : Oper} {a : Act} {K : Act → World → Prop} {Q : Exit → Act → World → Prop} {E : Prop} (t ts : TypeId) (hu : Tryz.prog.underlying ts = some (.slice t)) (hi : (Tryz.prog.info? t).map (fun i => (i.zero, i.size, i.bytes)) = some (some (.slice none 0 0), 1, 24)) (hgd : o.guard = none) (s x : Operand)
    (ho : o.op = .call { callee := .builtin .append, args := #[s, x], argTypes := #[ts, ts] }) (w : World)
    (B : Nat) (v : Value) (vs : List Value) (hs : a.eval s = v) (hown : OwnV t w B v vs) (A : Option Addr) (us : List Value) (n c : Nat) (hx : a.eval x = .slice A n c) (hn : us.length = n) (hr : RdV w A us) (hu1 : ∀ u ∈ us, u.oneCell' = true)
    (hl : vs.length + us.length ≤ 1099511627776) (hB : B ≤ w.heap.size)
    (h : ∀ v' w', OwnV t w' B v' (vs ++ us) → w.grownBy w' v.ownBlock → (v'.ownBlock = v.ownBlock ∨ ∃ g, v'.ownBlock = some g ∧ w.heap.size ≤ g) → K (a.put o.dst v') w') :
    if Region.wanted o (yielded ops a.tmps) = true then Oper.wp Tryz.prog o a w K Q else E := by
  have hw : Region.wanted o (yielded ops a.tmps) = true := by simp [Region.wanted, hgd]
  rw [if_pos hw]
  subst hn
  obtain ⟨v', w', hrun, h2, h3, h4⟩ := run_appVn t ts hu hi w o.type B v vs hown A us c hr hu1 hl hB
  unfold Oper.wp execOp
  simp only [ho, resolve, invoke, builtin, Sem.run_bind, Sem.run_pure, Result.andThen_ok, List.map_toArray, List.map_cons, List.map_nil, hs, hx, hrun]
  exact h v' w' h2 h3 h4
def keysK (s : List KV) : List Int := s.map fun k => k.1
theorem keysK_length (s : List KV) : (keysK s).length = s.length := by simp [keysK]
theorem rowsK_length (s : List KV) : (rowsK s).length = s.length := by simp [rowsK]
theorem keysK_nth {s : List KV} {j : Nat} (h : j < s.length) : nth (keysK s) j = (s.getD j (0, [])).1 := by simp [nth, keysK, List.getD, h]
theorem rowsK_get {s : List KV} {j : Nat} (h : j < s.length) : (rowsK s)[j]'(by rw [rowsK_length]; exact h) = (s.getD j (0, [])).2 := by simp [rowsK, List.getD, h]
theorem rowsK_put (s : List KV) (v : KV) : rowsK (putK s v) = (rowsK s).take (posK s v s.length) ++ [v.2] ++ (rowsK s).drop (posK s v s.length) := by unfold putK rowsK; simp
theorem keysK_put (s : List KV) (v : KV) : keysK (putK s v) = (keysK s).take (posK s v s.length) ++ [v.1] ++ (keysK s).drop (posK s v s.length) := by unfold putK keysK; simp
theorem putK_length (s : List KV) (v : KV) : (putK s v).length = s.length + 1 := by rw [(putK_perm s v).length_eq]; rfl
theorem posK_step {s : List KV} {v : KV} {n j : Nat} (h : posK s v n = posK s v (j + 1)) (h2 : ltK v (s.getD j (0, [])) = true) : posK s v n = posK s v j := by rw [h, posK, if_pos h2]
theorem posK_stop {s : List KV} {v : KV} {n j : Nat} (h : posK s v n = posK s v (j + 1)) (h2 : ltK v (s.getD j (0, [])) = false) : posK s v n = j + 1 := by rw [h, posK, h2]; rfl
theorem ltK_more {v q : KV} (h : v.1 < q.1) : ltK v q = true := by simp [ltK, h]
theorem ltK_same {v q : KV} (h : q.1 = v.1) : ltK v q = lexB v.2 q.2 := by simp [ltK, h]
theorem ltK_not {v q : KV} (h : ¬ v.1 < q.1) (h2 : ¬ q.1 = v.1) : ltK v q = false := by
  have : ¬ v.1 = q.1 := fun e => h2 e.symm
  simp [ltK, h, this]
theorem rsi_one {w : World} {u : Value} {x : List Int} (h : RSI w u x) : u.oneCell' = true := by obtain ⟨A, c, rfl, _⟩ := h; rfl
theorem rdR_vals {w : World} {A : Option Addr} {L : List (List Int)} (h : RdR RSI w A L) : ∃ vs : List Value, vs.length = L.length ∧ RdV w A vs ∧ (∀ u ∈ vs, u.oneCell' = true) ∧ ∀ (i : Nat) (u : Value) (x : List Int), vs[i]? = some u → L[i]? = some x → RSI w u x := by
  obtain ⟨vs, h1, h2, h3⟩ := h
  refine ⟨vs, h1, h2, fun u hu => ?_, h3⟩
  obtain ⟨i, hi, rfl⟩ := List.getElem_of_mem hu
  exact rsi_one (h3 i _ _ (List.getElem?_eq_getElem hi) (List.getElem?_eq_getElem (by omega)))
/-- the put values read as the put rows -/
theorem vals_put {w w' : World} {A : Option Addr} {vs : List Value} {L : List (List Int)} {u : Value} {x : List Int} {k : Nat} (hl : vs.length = L.length) (h : ∀ (i : Nat) (u : Value) (x : List Int), vs[i]? = some u → L[i]? = some x → RSI w u x) (hu : RSI w u x) (hr : RdV w' A (vs.take k ++ [u] ++ vs.drop k)) (g : Grows w w') : RdR RSI w' A (L.take k ++ [x] ++ L.drop k) := by
  refine ⟨_, by simp [hl], hr, fun i a b h1 h2 => RSI.good.grows ?_ g⟩
  by_cases e : i < min k vs.length
  · rw [List.append_assoc, List.getElem?_append_left (by simp; omega), List.getElem?_take, if_pos (by omega)] at h1
    rw [List.append_assoc, List.getElem?_append_left (by simp; omega), List.getElem?_take, if_pos (by omega)] at h2
    exact h i a b h1 h2
  · rw [List.append_assoc, List.getElem?_append_right (by simp; omega)] at h1
    rw [List.append_assoc, List.getElem?_append_right (by simp; omega)] at h2
    simp only [List.length_take, ← hl] at h1 h2
    cases hj : i - min k vs.length with
    | zero =>
      rw [hj] at h1 h2
      simp at h1 h2
      subst h1 h2
      exact hu
    | succ j =>
      rw [hj] at h1 h2
      simp only [List.singleton_append, List.getElem?_cons_succ, List.getElem?_drop] at h1 h2
      exact h _ a b h1 h2
theorem rd_take {w : World} {A : Option Addr} {l : List Int} (h : Rd w A l) (k : Nat) : Rd w A (l.take k) := fun i hi => by
  rw [List.length_take] at hi
  obtain ⟨b, off, e, hb, hc⟩ := h.at_ i (by omega)
  refine ⟨b, off, e, hb, ?_⟩
  rw [hc]
  simp [nth, List.getD, show i < k by omega, show i < l.length by omega]
theorem RdV.take_ {w : World} {A : Option Addr} {vs : List Value} (h : RdV w A vs) (k : Nat) : RdV w A (vs.take k) := fun i u hi => by
  have h1 := (List.getElem?_eq_some_iff.1 hi).1
  rw [List.length_take] at h1
  rw [List.getElem?_take, if_pos (by omega)] at hi
  exact h i u hi
theorem RdV.slice1 {w : World} {A : Option Addr} {vs : List Value} (h : RdV w A vs) (k cap : Nat) (hk : k ≤ vs.length) (hc : vs.length ≤ cap) : RdV w (if cap = k then A else A.map (·.add (k * 1))) (vs.drop k) := by
  have := h.slice k vs.length hk (Nat.le_refl _) cap hc
  rwa [List.take_length] at this
theorem own_cap {w : World} {B n cap : Nat} {A : Option Addr} {l : List Int} (h : Own w B (.slice A n cap) l) : cap ≤ 9223372036854775807 := by
  rcases h.2 with ⟨e, _⟩ | ⟨g, cap', cur, e, _, _, _, h1, h2⟩
  · injection e with _ _ e; omega
  · injection e with _ _ e
    simp [maxLen] at *
    omega
theorem ownV_cap {t : TypeId} {w : World} {B n cap : Nat} {A : Option Addr} {vs : List Value} (h : OwnV t w B (.slice A n cap) vs) : cap ≤ 9223372036854775807 := by
  rcases h.2 with ⟨e, _⟩ | ⟨g, cap', cur, e, _, _, _, h1, h2⟩
  · injection e with _ _ e; omega
  · injection e with _ _ e
    simp [maxLen] at *
    omega

section
set_option maxHeartbeats 4000000
theorem l20Put_c (s : List KV) (A B X : Option Addr) (x : List Int) (z : Int) (n ca cb m cx : Nat) (w : World) (hn : s.length = n) (ha : RdR RSI w A (rowsK s)) (hb : Rd w B (keysK s)) (hx : Rd w X x) (hm : x.length = m) (hcx : m ≤ cx) (hlen : ∀ k ∈ s, k.2.length = m)
    (hca : n ≤ ca) (hcb : n ≤ cb) (hca2 : ca ≤ 9223372036854775807) (hcb2 : cb ≤ 9223372036854775807) (hl : n ≤ 1048576) (hl2 : m ≤ 1048576) :
    Calls Tryz.prog 22 #[.slice A n ca, .slice B n cb, .slice X m cx, .int .i64 z] w fun e w' => ∃ A' ca' B' cb', e = .returned (.tuple #[.slice A' (n + 1) ca', .slice B' (n + 1) cb']) ∧ RdR RSI w' A' (rowsK (putK s (z, x))) ∧ Rd w' B' (keysK (putK s (z, x))) ∧ n + 1 ≤ ca' ∧ n + 1 ≤ cb' ∧ ca' ≤ 9223372036854775807 ∧ cb' ≤ 9223372036854775807 ∧ Grows w w' := by
  subst hn
  have HX := Lib.hid (show RSI w (.slice X m cx) x from ⟨X, cx, by rw [hm], hx, by omega⟩)
  have HRP := Lib.hid (rowsK_put s (z, x))
  have HKP := Lib.hid (keysK_put s (z, x))
  have HPL := Lib.hid (posK_le s (z, x) s.length)
  have HLN := Lib.hid hlen
  have HM := Lib.hid hm
  clear hlen hm
  go_enter Tryz.func22, Tryz.ntmps22
  go_upto_block 0 with fail
  go_cut [10] (fun q wx => q = .int .i64 (posK s (z, x) s.length : Nat) ∧ Grows w wx)
  case first =>
    go_wp2_with fail
    go_loopw [10] (fun q wr => ∃ k : Nat, q = .int .i64 k ∧ k ≤ s.length ∧ posK s (z, x) s.length = posK s (z, x) k ∧ Grows w wr) (fun q _ => (intOf q).toNat)
    case atStart => exact ⟨s.length, rfl, Nat.le_refl _, rfl, by exact bel0⟩
    case round =>
      obtain ⟨k, rfl, hk, hp, hg⟩ := hrel
      have HP := Lib.hid hp
      clear hp
      rcases k with _ | j
      · have HP0 := Lib.hid (HP.out.trans (show posK s (z, x) 0 = 0 from rfl))
        have e0 : ((0 : Nat) : Int) = 0 := rfl
        go_wp2_with fail
        go_meet
        exact ⟨by (rw [HP0.out]; try rfl), hg⟩
      · have hj : j < s.length := by omega
        have e1 : ((j + 1 : Nat) : Int) = (j : Int) + 1 := by omega
        obtain ⟨b, o, rfl, hbs, hc⟩ := (hb.grows hg).at_ j (by rw [keysK_length]; exact hj)
        rw [keysK_nth hj] at hc
        obtain ⟨b2, o2, u2, rfl, hbs2, hc2, Au, cu, rfl, hru, hcu⟩ := (ha.grows RSI.good hg).at_ j (by rw [rowsK_length]; exact hj)
        rw [rowsK_get hj] at hc2 hru hcu
        have hql : (s.getD j (0, [])).2.length = m := HLN.out _ (by simp [List.getD, hj])
        have HY := Lib.hid fun h => posK_step (s := s) (v := (z, x)) HP.out h
        have HN := Lib.hid fun h => posK_stop (s := s) (v := (z, x)) HP.out h
        generalize hq : s.getD j (0, []) = q at *
        clear hq
        obtain ⟨qv, qx⟩ := q
        simp only at hc hc2 hru hcu hql
        have HQL := Lib.hid hql
        rw [hql] at hc2
        have L1 := Lib.hid fun h => ltK_more (v := (z, x)) (q := (qv, qx)) h
        have L2 := Lib.hid fun h => ltK_same (v := (z, x)) (q := (qv, qx)) h
        have L3 := Lib.hid fun h h2 => ltK_not (v := (z, x)) (q := (qv, qx)) h h2
        simp only at L1 L2 L3
        have i1 : (0 : Int) < (j : Int) + 1 := by omega
        have i2 : ¬ (j : Int) < 0 := by omega
        have i3 : (j : Int) < (s.length : Int) := by omega
        have CL := Lib.hid fun W h h' => l20Less_c X Au x qx m cx cu W HM.out HQL.out h h' (by omega)
        have hxr := hx.grows hg
        have k1 : IntKind.i64.wrap ((j : Int) + 1 - 1) = (j : Int) := by rw [show (j : Int) + 1 - 1 = (j : Int) by omega]; exact IntWalk.i64_in _ (by omega)
        simp only [e1]
        clear hql
        by_cases h1 : z < qv
        · have HT := Lib.hid (HY.out (L1.out h1))
          clear HY HN L1 L2 L3
          go_wp2_with fail
          go_round
          case rel => exact ⟨j, by go_num, by omega, HT.out, hg⟩
          case measure => (simp [intOf] <;> omega)
        · by_cases h2 : qv = z
          · have L4 := L2.out h2
            have h2b : (qv == z) = true := by simpa using h2
            clear L1 L2 L3
            cases hlx : lexB x qx
            · have HT := Lib.hid (HN.out (L4.trans hlx))
              rw [hlx] at CL
              clear HY HN L4 hlx
              go_wp2_with fail
              refine (CL.out _ (by exact (Rd.grows hxr (by exact bel0))) (by exact (Rd.grows hru (by exact bel0)))).mono ?_; rintro e w5 ⟨rfl, g5⟩
              go_wp2_with fail
              go_meet
              exact ⟨by (rw [HT.out]; try rfl), by exact bel2 g5 hg⟩
            · have HT := Lib.hid (HY.out (L4.trans hlx))
              rw [hlx] at CL
              clear HY HN L4 hlx
              go_wp2_with fail
              refine (CL.out _ (by exact (Rd.grows hxr (by exact bel0))) (by exact (Rd.grows hru (by exact bel0)))).mono ?_; rintro e w5 ⟨rfl, g5⟩
              go_wp2_with fail
              go_round
              case rel => exact ⟨j, by go_num, by omega, HT.out, by exact bel2 g5 hg⟩
              case measure => (simp [intOf] <;> omega)
          · have HT := Lib.hid (HN.out (L3.out h1 h2))
            have h2b : (qv == z) = false := by simpa using h2
            clear HY HN L1 L2 L3
            go_wp2_with fail
            go_meet
            exact ⟨by (rw [HT.out]; try rfl), hg⟩
  case rest =>
    obtain ⟨rfl, hg⟩ := hcut
    have hk := HPL.out
    generalize posK s (z, x) s.length = k at *
    obtain ⟨wa, rfl⟩ : ∃ x : World, x = wc := ⟨_, rfl⟩
    obtain ⟨vs, hvl, hrv, hv1, hvR⟩ := rdR_vals (ha.grows RSI.good hg)
    have hux := RSI.good.grows HX.out hg
    have hrb := hb.grows hg
    rw [rowsK_length] at hvl
    have HRP' := Lib.hid (show ∀ W A', RdV W A' (vs.take k ++ [.slice X m cx] ++ vs.drop k) → Grows wa W → RdR RSI W A' (rowsK (putK s (z, x))) from fun W A' h g => by rw [HRP.out]; exact vals_put (by rw [rowsK_length]; exact hvl) hvR hux h g)
    have hkv : k ≤ vs.length := by omega
    have hs1 := hrv.take_ k
    have hs2 := hrv.slice1 k ca hkv (by omega)
    rw [Nat.mul_one] at hs2
    have HT1 := Lib.hid (show (vs.take k).length = k by rw [List.length_take]; omega)
    have HT2 := Lib.hid (show (vs.drop k).length = s.length - k by rw [List.length_drop]; omega)
    have HV1 := Lib.hid (show ∀ u ∈ vs.take k, u.oneCell' = true from fun u hu => hv1 u (List.mem_of_mem_take hu))
    have HV2 := Lib.hid (show ∀ u ∈ vs.drop k, u.oneCell' = true from fun u hu => hv1 u (List.mem_of_mem_drop hu))
    have hb1 := rd_take hrb k
    have hb2 := hrb.slice k s.length hk (by rw [keysK_length]; exact Nat.le_refl _) cb (by rw [keysK_length]; exact hcb)
    rw [List.take_of_length_le (by rw [keysK_length]; exact Nat.le_refl _)] at hb2
    rw [Nat.mul_one] at hb2
    have HB1 := Lib.hid (show ((keysK s).take k).length = k by rw [List.length_take, keysK_length]; omega)
    have HB2 := Lib.hid (show ((keysK s).drop k).length = s.length - k by rw [List.length_drop, keysK_length])
    generalize (keysK s).take k = kt at *
    generalize (keysK s).drop k = kd at *
    have HHK := Lib.hid hk
    have HRV := Lib.hid hrv
    clear HRP hvR hux hrv hv1
    generalize vs.take k = vt at *
    generalize vs.drop k = vd at *
    have HKV := Lib.hid hkv
    have hfar : ∀ (W : World) (B : Nat) (v : Value), OwnV 24 W B v (vt ++ [.slice X m cx] ++ vd) → ∃ A' c', v = .slice A' (s.length + 1) c' ∧ RdV W A' (vt ++ [.slice X m cx] ++ vd) ∧ s.length + 1 ≤ c' ∧ c' ≤ 9223372036854775807 := fun W B v h => by
      obtain ⟨A', c', e, h1, h2⟩ := h.val
      have hlen : (vt ++ [Value.slice X m cx] ++ vd).length = s.length + 1 := by simp [HT1.out, HT2.out]; have := HHK.out; omega
      rw [hlen] at e h2
      refine ⟨A', c', e, h1, h2, ?_⟩
      subst e
      exact ownV_cap h
    have HFAR := Lib.hid hfar
    clear hfar hk hkv
    have n1 : OwnV 24 (wa.alloc (.cells #[] 24)).drew wa.heap.size (.slice (some ⟨wa.heap.size, 0, none⟩) 0 0) [] := (OwnV.new_ _ wa rfl (Nat.le_refl _)).drew
    have n2 : OwnV 24 ((wa.alloc (.cells #[.slice X m cx] 24)).alloc (.cells #[] 24)).drew wa.heap.size (.slice (some ⟨wa.heap.size + 1, 0, none⟩) 0 0) [] := (OwnV.new_ _ _ (by simp) (by simp)).drew
    have n3 : OwnV 24 ((wa.alloc (.cells #[] 24)).alloc (.cells #[.slice X m cx] 24)).drew wa.heap.size (.slice (some ⟨wa.heap.size, 0, none⟩) 0 0) [] := ((OwnV.new_ _ wa rfl (Nat.le_refl _)).alloc _).drew
    have q2 : RdV ((wa.alloc (.cells #[.slice X m cx] 24)).alloc (.cells #[] 24)).drew (some ⟨wa.heap.size, 0, none⟩) [.slice X m cx] := (RdV.one wa _ _ rfl).grows (by exact bel0)
    have q3 : RdV ((wa.alloc (.cells #[] 24)).alloc (.cells #[.slice X m cx] 24)).drew (some ⟨wa.heap.size + 1, 0, none⟩) [.slice X m cx] := (RdV.one (wa.alloc (.cells #[] 24)) _ _ (by simp)).grows (by exact bel0)
    go_upto_region 4 with fail
    go_cut [11] (fun q wx => ∃ A' c', q = .slice A' (s.length + 1) c' ∧ RdV wx A' (vt ++ [.slice X m cx] ++ vd) ∧ s.length + 1 ≤ c' ∧ c' ≤ 9223372036854775807 ∧ Grows wa wx)
    case first =>
      have hkn : (k : Int) ≤ (ca : Int) := by have := HHK.out; omega
      have hks : (k : Int) ≤ (s.length : Int) := by have := HHK.out; omega
      go_region_held3 (fun _ => True) (trivial)
        (first
          | (refine step_appVn 24 29 und_ii info_is rfl (.tmp 46) (.tmp 49) rfl _ wa.heap.size _ [] (by rfl) (by first | exact n1 | exact n2 | exact n3) _ vt k _ (by rfl) HT1.out (by exact RdV.grows hs1 (by exact bel0)) HV1.out (by rw [HT1.out]; simp; omega) (by simp <;> omega) ?_; intro v5 w5 ho5 hg5 hv5; (first | (have hh : ((wa.alloc (.cells #[.slice X m cx] 24)).alloc (.cells #[] 24)).drew.grownBy w5 (some (wa.heap.size + 1)) := hg5; have q5 := q2.other hh (by intro a ha e; cases ha; simp at e); have hb5 : Grows wa w5 := Below.trans (show Grows wa ((wa.alloc (.cells #[.slice X m cx] 24)).alloc (.cells #[] 24)).drew by exact bel0) (below_appR n2 (by simp <;> omega) hh)) | (have hh : ((wa.alloc (.cells #[] 24)).alloc (.cells #[.slice X m cx] 24)).drew.grownBy w5 (some wa.heap.size) := hg5; have q5 := q3.other hh (by intro a ha e; cases ha; simp at e); have hb5 : Grows wa w5 := Below.trans (show Grows wa ((wa.alloc (.cells #[] 24)).alloc (.cells #[.slice X m cx] 24)).drew by exact bel0) (below_appR n3 (by simp <;> omega) hh)) | (have hh : (wa.alloc (.cells #[] 24)).drew.grownBy w5 (some wa.heap.size) := hg5; have hb5 : Grows wa w5 := Below.trans (show Grows wa (wa.alloc (.cells #[] 24)).drew by exact bel0) (below_appR n1 (by simp <;> omega) hh))); rw [List.nil_append] at ho5; obtain ⟨A5, c5, rfl, _, _⟩ := ho5.val; have hs5 := Below.size hb5; clear hg5 hv5)
          | (refine step_appVn 24 29 und_ii info_is rfl (.tmp 50) (.tmp 52) rfl _ wa.heap.size _ vt (by rfl) (by first | exact ho5 | exact ho5.alloc _) _ [.slice X m cx] 1 1 (by rfl) rfl (by first | exact q5 | exact RdV.one _ _ _ rfl) (by intro u hu; simp at hu; subst hu; rfl) (by rw [HT1.out]; simp; omega) (by first | omega | (simp; omega)) ?_; intro v6 w6 ho6 hg6 hv6; have hb6 : Grows wa w6 := (by first | exact Below.trans hb5 (below_appR ho5 (by omega) hg6) | exact Below.trans hb5 (Below.trans (show Below wa.heap.size w5 (w5.alloc (.cells #[.slice X m cx] 24)) by exact bel0) (below_appR (ho5.alloc _) (by simp; omega) hg6))); obtain ⟨A6, c6, rfl, _, _⟩ := ho6.val; have hs6 := Below.size hb6; clear hg6 hv6)
          | (generalize (if ca = k then A else Option.map (fun x => x.add k) A) = AU at *; refine step_appVn 24 29 und_ii info_is rfl (.tmp 53) (.tmp 56) rfl _ wa.heap.size _ (vt ++ [.slice X m cx]) (by rfl) ho6 _ vd (s.length - k) _ (by rfl) HT2.out (by exact RdV.grows hs2 hb6) HV2.out (by rw [List.length_append, HT1.out, HT2.out]; simp; omega) (by omega) ?_; intro v7 w7 ho7 hg7 hv7; have hb7 : Grows wa w7 := Below.trans hb6 (below_appR ho6 (by omega) hg7); obtain ⟨A7, c7, hv7e, hr7, hc7, hc7'⟩ := HFAR.out _ _ _ ho7; subst hv7e; clear hg7 hv7))
      all_goals
        go_wp2_with fail
        go_meet
        exact ⟨A7, c7, rfl, hr7, hc7, hc7', hb7⟩
    case rest =>
      obtain ⟨A', ca', rfl, hrA, hcA, hcA', hgA⟩ := hcut
      obtain ⟨wb, rfl⟩ : ∃ x : World, x = wc := ⟨_, rfl⟩
      have HRA := Lib.hid (HRP'.out _ _ hrA hgA)
      have hi1 := hb1.grows hgA
      have hi2 := hb2.grows hgA
      have hgB : Grows w wb := Below.trans hg (Below.mono hgA (Below.size hg))
      have m1 : Own (wb.alloc (.cells #[] 3)).drew wb.heap.size (.slice (some ⟨wb.heap.size, 0, none⟩) 0 0) [] := (Own.new_ wb rfl (Nat.le_refl _)).drew
      have m2 : Own ((wb.alloc (.cells #[.int .i64 z] 3)).alloc (.cells #[] 3)).drew wb.heap.size (.slice (some ⟨wb.heap.size + 1, 0, none⟩) 0 0) [] := (Own.new_ _ (by simp) (by simp)).drew
      have m3 : Own ((wb.alloc (.cells #[] 3)).alloc (.cells #[.int .i64 z] 3)).drew wb.heap.size (.slice (some ⟨wb.heap.size, 0, none⟩) 0 0) [] := ((Own.new_ wb rfl (Nat.le_refl _)).alloc _).drew
      have p2 : Rd ((wb.alloc (.cells #[.int .i64 z] 3)).alloc (.cells #[] 3)).drew (some ⟨wb.heap.size, 0, none⟩) [z] := (Rd.one wb z).grows (by exact bel0)
      have p3 : Rd ((wb.alloc (.cells #[] 3)).alloc (.cells #[.int .i64 z] 3)).drew (some ⟨wb.heap.size + 1, 0, none⟩) [z] := (show Rd ((wb.alloc (.cells #[] 3)).alloc (.cells #[.int .i64 z] 3)) (some ⟨wb.heap.size + 1, 0, none⟩) [z] by simpa using Rd.one (wb.alloc (.cells #[] 3)) z).grows (by exact bel0)
      have HKQ := Lib.hid (show ∀ (W : World) (B : Nat) (v : Value), Own W B v (kt ++ [z] ++ kd) → ∃ A' c', v = .slice A' (s.length + 1) c' ∧ Rd W A' (keysK (putK s (z, x))) ∧ s.length + 1 ≤ c' ∧ c' ≤ 9223372036854775807 from fun W B v h => by
        obtain ⟨A', c', e, h1, h2⟩ := h.val
        have hlen : (kt ++ [z] ++ kd).length = s.length + 1 := by simp [HB1.out, HB2.out]; have := HHK.out; omega
        rw [hlen] at e h2
        subst e
        exact ⟨A', c', rfl, by rw [HKP.out]; exact h1, h2, own_cap h⟩)
      go_upto_region 5 with fail
      go_cut [12] (fun q wx => ∃ A' c', q = .slice A' (s.length + 1) c' ∧ Rd wx A' (keysK (putK s (z, x))) ∧ s.length + 1 ≤ c' ∧ c' ≤ 9223372036854775807 ∧ Grows wb wx)
      case first =>
        have hkn : (k : Int) ≤ (cb : Int) := by have := HHK.out; omega
        have hks : (k : Int) ≤ (s.length : Int) := by have := HHK.out; omega
        go_region_held3 (fun _ => True) (trivial)
          (first
            | (refine step_app rfl (.tmp 58) (.tmp 61) rfl _ wb.heap.size _ [] (by rfl) (by first | exact m1 | exact m2 | exact m3) _ kt k _ (by rfl) HB1.out (by exact Rd.grows hi1 (by exact bel0)) (by rw [HB1.out]; simp; omega) (by simp <;> omega) ?_; intro v5 w5 ho5 hg5 hv5; (first | (have hh : ((wb.alloc (.cells #[.int .i64 z] 3)).alloc (.cells #[] 3)).drew.grownBy w5 (some (wb.heap.size + 1)) := hg5; have q5 := Rd.other (c := 1) p2 hh (by intro a ha e; obtain ⟨_, rfl⟩ := adR_some ha; simp at e); have hb5 : Grows wb w5 := Below.trans (show Grows wb ((wb.alloc (.cells #[.int .i64 z] 3)).alloc (.cells #[] 3)).drew by exact bel0) (below_app m2 (by simp <;> omega) hh)) | (have hh : ((wb.alloc (.cells #[] 3)).alloc (.cells #[.int .i64 z] 3)).drew.grownBy w5 (some wb.heap.size) := hg5; have q5 := Rd.other (c := 1) p3 hh (by intro a ha e; obtain ⟨_, rfl⟩ := adR_some ha; simp at e); have hb5 : Grows wb w5 := Below.trans (show Grows wb ((wb.alloc (.cells #[] 3)).alloc (.cells #[.int .i64 z] 3)).drew by exact bel0) (below_app m3 (by simp <;> omega) hh)) | (have hh : (wb.alloc (.cells #[] 3)).drew.grownBy w5 (some wb.heap.size) := hg5; have hb5 : Grows wb w5 := Below.trans (show Grows wb (wb.alloc (.cells #[] 3)).drew by exact bel0) (below_app m1 (by simp <;> omega) hh))); rw [List.nil_append] at ho5; obtain ⟨A5, c5, rfl, _, _⟩ := ho5.val; have hs5 := Below.size hb5; clear hg5 hv5)
            | (refine step_app rfl (.tmp 62) (.tmp 64) rfl _ wb.heap.size _ kt (by rfl) (by first | exact ho5 | exact ho5.alloc _) _ [z] 1 1 (by rfl) rfl (by first | exact q5 | exact Rd.one _ _) (by rw [HB1.out]; simp; omega) (by first | omega | (simp; omega)) ?_; intro v6 w6 ho6 hg6 hv6; have hb6 : Grows wb w6 := (by first | exact Below.trans hb5 (below_app ho5 (by omega) hg6) | exact Below.trans hb5 (Below.trans (show Below wb.heap.size w5 (w5.alloc (.cells #[.int .i64 z] 3)) by exact bel0) (below_app (ho5.alloc _) (by simp; omega) hg6))); obtain ⟨A6, c6, rfl, _, _⟩ := ho6.val; have hs6 := Below.size hb6; clear hg6 hv6)
            | (generalize (if cb = k then B else Option.map (fun x => x.add k) B) = AU at *; refine step_app rfl (.tmp 65) (.tmp 68) rfl _ wb.heap.size _ (kt ++ [z]) (by rfl) ho6 _ kd (s.length - k) _ (by rfl) HB2.out (by exact Rd.grows hi2 hb6) (by rw [List.length_append, HB1.out, HB2.out]; simp; omega) (by omega) ?_; intro v7 w7 ho7 hg7 hv7; have hb7 : Grows wb w7 := Below.trans hb6 (below_app ho6 (by omega) hg7); obtain ⟨A7, c7, hv7e, hr7, hc7, hc7'⟩ := HKQ.out _ _ _ ho7; subst hv7e; clear hg7 hv7))
        all_goals
          go_wp2_with fail
          go_meet
          exact ⟨A7, c7, rfl, hr7, hc7, hc7', hb7⟩
      case rest =>
        obtain ⟨B', cb', rfl, hrB, hcB, hcB', hgC⟩ := hcut
        go_wp2_with fail
        go_ret2
        exact ⟨A', ca', B', cb', rfl, HRA.out.grows RSI.good hgC, hrB, hcA, hcB, hcA', hcB', Below.trans hgB (Below.mono hgC (Below.size hgB))⟩
end
end Go.Proofs.YtbfkpfdkndnhkaaGreat

/- Contract: the short vectors, the reference's. -/
namespace Go.Proofs.YtbfkpfdkndnhkaaGreat
set_option linter.unusedSimpArgs false
set_option linter.unusedVariables false
open Go.RowKit

/-- a list of vectors that is read, or nothing -/
def RowsGet (o : Option (List KV)) (w : World) (e : Ending) (w' : World) : Prop := ∃ A c, e = .returned (.tuple #[.slice A (oRows o).length c, .bool o.isSome]) ∧ RdR RSI w' A (oRows o) ∧ Grows w w'
theorem rowsGet_out {o : Option (List KV)} {w w' : World} {e : Ending} (h : RowsGet o w e w') : ∃ A c, e = .returned (.tuple #[.slice A (oRows o).length c, .bool o.isSome]) ∧ RdR RSI w' A (oRows o) ∧ Grows w w' := h
theorem rdR_nil (w : World) (A : Option Addr) : RdR RSI w A [] := ⟨[], rfl, RdV.nil _ _, fun i u x h => by simp at h⟩
theorem shU_len {g : MX} {b : Int} {rows : List (List Int)} {i : Nat} : (shU g b rows i).length ≤ i := by
  unfold shU
  rw [(putsK_perm (l := []) (r := shL g b (rows.take i))).length_eq, List.nil_append]
  unfold shL
  refine Nat.le_trans (List.length_filterMap_le _ _) ?_
  rw [List.length_take]; omega
theorem shU_mem {g : MX} {b : Int} {rows : List (List Int)} {i : Nat} {k : KV} (h : k ∈ shU g b rows i) : k.2 ∈ rows := by
  unfold shU at h
  have h1 : k ∈ shL g b (rows.take i) := by simpa using (putsK_perm (l := []) (r := shL g b (rows.take i))).mem_iff.1 h
  exact List.mem_of_mem_take (shL_mem h1).1
theorem shU_all {g : MX} {b : Int} {rows : List (List Int)} : shU g b rows rows.length = putsK [] (shL g b rows) := by unfold shU; rw [shL_all]
theorem negL_succ {s : List Int} {i : Nat} (h : i < s.length) : negL (s.take (i + 1)) = negL (s.take i) ++ [-(nth s i)] := by
  unfold negL
  rw [List.take_add_one, List.getElem?_eq_getElem h, List.map_append]; simp [nth_get _ _ h]

section
set_option maxHeartbeats 4000000
set_option maxRecDepth 100000
theorem sShv_c (r c b : Int) (A : Option Addr) (l : List Int) (n cap : Nat) (w : World) (hn : l.length = n) (ha : Rd w A l) (hl : n ≤ 1099511627776) :
    Calls Tryz.prog 7 #[.agg #[.int .i64 r, .int .i64 c, .slice A n cap], .int .i64 b] w (RowsGet (shvO ⟨r, c, l⟩ b) w) := by
  have CB := fun W h => sBox_c r c b A l n cap W hn h hl
  have CV := Lib.hid fun (A' : Option Addr) (x : List Int) (c' : Nat) W h h' (hx : x.length ≤ 1099511627776) => sValueAt_c r c A A' l x n x.length cap c' W hn rfl h h' hl hx
  obtain ⟨w1, hw1⟩ : ∃ w1, w1 = w.alloc (.cells #[.int .i64 r, .int .i64 c, .slice A n cap] 26) := ⟨_, rfl⟩
  have ma : MBox w1 w.heap.size r c (.slice A n cap) := by rw [hw1]; exact MBox.mk_ _ _ _ _ _
  have HG : Grows w w1 := by rw [hw1]; exact bel0
  have HS1 : w1.heap.size = w.heap.size + 1 := by rw [hw1]; simp
  have HW1 := Lib.hid hw1
  have ha1 := ha.grows HG
  have X1 := Lib.hid fun s (h : boxO ⟨r, c, l⟩ b = some s) => boxO_length h
  have X2 := Lib.hid fun s (h : boxO ⟨r, c, l⟩ b = some s) => negL_box h
  have X5 := Lib.hid fun s (h : boxO ⟨r, c, l⟩ b = some s) => boxO_cells h
  obtain ⟨RES, hRES⟩ : ∃ x, x = shvO ⟨r, c, l⟩ b := ⟨_, rfl⟩
  rw [← hRES]
  have HR := Lib.hid hRES
  obtain ⟨BO, hBO⟩ : ∃ x, x = boxO ⟨r, c, l⟩ b := ⟨_, rfl⟩
  have HBO := Lib.hid hBO
  rw [← hBO] at CB
  have CB' := Lib.hid CB
  clear hw1 CB hRES hBO
  go_enter Tryz.func7, Tryz.ntmps7
  go_wp2_with fail
  rw [← HW1.out]
  have ma_0 := ma.c0; have ma_1 := ma.c1; have ma_2 := ma.c2; have ma_l := ma.lt; have ma_f := ma.fz
  refine (CB'.out _ (by exact Rd.grows ha1 (by exact bel0))).mono ?_; rintro e w2 ⟨v2, rfl, o2, g_w2⟩
  have s_w2 := Below.size g_w2; (try simp at s_w2)
  clear ma_0 ma_1 ma_2 ma_l ma_f
  replace ma := ma.grows (w' := w2) (by exact bel1 g_w2)
  have ma_0 := ma.c0; have ma_1 := ma.c1; have ma_2 := ma.c2; have ma_l := ma.lt; have ma_f := ma.fz
  replace ha1 := ha1.grows (w' := w2) (by exact bel1 g_w2)
  replace HG : Grows w w2 := by exact bel2 g_w2 HG
  have h_w2 := Below.size HG
  obtain ⟨A2, c2, rfl, hr2, _⟩ := o2.val
  cases BO with
  | none =>
    obtain rfl : RES = none := by rw [HR.out, shvO_none HBO.out.symm]
    go_wp2_with fail
    go_ret2
    exact ⟨_, _, rfl, rdR_nil _ _, by exact bel1 HG⟩
  | some s =>
    have hs6 := X1.out s HBO.out.symm
    have hbd := X2.out s HBO.out.symm
    have hcl := Lib.hid (X5.out s HBO.out.symm)
    have HR1 := Lib.hid fun h => HR.out.trans (shvO_big HBO.out.symm h)
    have HR2 := Lib.hid fun h => HR.out.trans (shvO_some HBO.out.symm h)
    have hr2' : Rd w2 A2 s := hr2
    have CX := Lib.hid fun W A3 c3 h h' => l20Box_c A3 A2 (negL s) s s.length c3 c2 W (negL_length s) rfl h h' (by omega) hbd
    have HBL := Lib.hid fun (h : boxB (negL s) s s.length = true) => boxB_len h
    have HBX := Lib.hid fun (h : boxB (negL s) s s.length = true) => boxR_yes h
    have HFL := Lib.hid fun (v : List Int) (h : v ∈ boxF (negL s) s s.length) => boxF_len h
    have HNL := Lib.hid (negL_length s)
    clear hbd X1 X2 X5
    go_wp2_with fail
    go_loopw [8, 9] (fun o i wr => ∃ (I : Nat), i = .int .i64 I ∧ I ≤ s.length ∧ Own wr w2.heap.size o (negL (s.take I)) ∧ Grows w2 wr) (fun _ i _ => s.length - (intOf i).toNat)
    case atStart => exact ⟨0, rfl, Nat.zero_le _, Own.new_ _ rfl (Nat.le_refl _), by exact bel0⟩
    case round =>
      obtain ⟨I, rfl, hI, ho, hg⟩ := hrel
      obtain ⟨A8, c8, rfl, hr8, _⟩ := ho.val
      have hsw := Below.size hg
      have hsl : (negL (s.take I)).length = I := by rw [negL_length, List.length_take]; omega
      by_cases hlt : I < s.length
      · obtain ⟨bb, off, rfl, hbs, hc⟩ := (hr2'.grows hg).at_ I hlt
        have i1 : (I : Int) < (s.length : Int) := by omega
        have hbi := hcl.out I hlt
        have HNX := Lib.hid (negL_succ hlt)
        have k1 : IntKind.i64.wrap (-(nth s I)) = -(nth s I) := IntWalk.i64_in _ (by omega)
        generalize nth s I = q at *
        generalize negL (s.take I) = F at *
        have HSL := Lib.hid hsl
        clear hsl
        go_wp2_with (at_builtin; refine wpList_app1 rfl (.tmp 33) (.tmp 39) rfl _ (-q) w2.heap.size _ F (by rfl) ho (by rfl) (by have := HSL.out; omega) (by omega) ?_; intro v7 w7 ho7 hg7 _)
        obtain ⟨A7, c7, rfl, _, _⟩ := ho7.val
        have hb7 : Below w2.heap.size wr w7 := below_app ho (by omega) hg7
        go_wp2_with fail
        go_round
        case rel => exact ⟨I + 1, by go_num, by omega, by rw [HNX.out]; exact ho7, Below.trans hg hb7⟩
        case measure => simp [intOf]; omega
      · obtain rfl : I = s.length := by omega
        have HE := show negL (s.take s.length) = negL s by rw [List.take_length]
        rw [HE] at hr8 ⊢
        rw [HNL.out]
        have hrS := hr2'.grows hg
        obtain ⟨w3, rfl⟩ : ∃ x : World, x = wr := ⟨_, rfl⟩
        clear HE ho hsl
        go_wp2_with fail
        refine (CX.out _ _ _ (by exact (Rd.grows hr8 (by exact bel0))) (by exact (Rd.grows hrS (by exact bel0)))).mono ?_; rintro e w4 ⟨v4, vs, rfl, o4, g4⟩
        have hs4 := Below.size g4
        have HG4 : Grows w w4 := by exact bel3 g4 hg HG
        have ma4 := ma.grows (w' := w4) (by exact bel3 g4 hg g_w2)
        have ha4 := ha1.grows (w' := w4) (by exact bel3 g4 hg g_w2)
        generalize boxB (negL s) s s.length = OK at *
        cases OK
        · obtain rfl : RES = none := HR1.out rfl
          go_wp2_with fail
          go_ret2
          exact ⟨_, _, rfl, rdR_nil _ _, by exact bel1 HG4⟩
        · have hRES := HR2.out rfl
          have hb4 := HBL.out rfl
          rw [HBX.out rfl] at o4
          clear HR1 HR2 HBL HBX
          generalize boxF (negL s) s s.length = rows at *
          obtain ⟨A4, c4, rfl, _, _⟩ := o4.val
          rw [← shU_all] at hRES
          have HRES := Lib.hid hRES
          have HS6 := Lib.hid hs6
          clear hRES hr8 hrS
          go_wp2_with fail
          go_loopw [12, 13, 14] (fun o v i wr => ∃ (I : Nat) (A' : Option Addr) (c' : Nat) (B' : Option Addr) (d' : Nat), i = .int .i64 I ∧ I ≤ rows.length ∧ o = .slice A' (shU ⟨r, c, l⟩ b rows I).length c' ∧ v = .slice B' (shU ⟨r, c, l⟩ b rows I).length d' ∧ RdR RSI wr A' (rowsK (shU ⟨r, c, l⟩ b rows I)) ∧ Rd wr B' (keysK (shU ⟨r, c, l⟩ b rows I)) ∧ (shU ⟨r, c, l⟩ b rows I).length ≤ c' ∧ (shU ⟨r, c, l⟩ b rows I).length ≤ d' ∧ c' ≤ 9223372036854775807 ∧ d' ≤ 9223372036854775807 ∧ Grows w4 wr) (fun _ _ i _ => rows.length - (intOf i).toNat)
          case atStart => exact ⟨0, _, _, _, _, rfl, Nat.zero_le _, rfl, rfl, rdR_nil _ _, Rd.nil _ _, Nat.zero_le _, Nat.zero_le _, by decide, by decide, by exact bel0⟩
          case round =>
            obtain ⟨I, A5, c5, B5, d5, rfl, hI, rfl, rfl, hrA, hrB, hk1, hk2, hk3, hk4, hg5⟩ := hrel
            by_cases hlt : I < rows.length
            · have i1 : (I : Int) < (rows.length : Int) := by omega
              obtain ⟨b8, o8, A6, c6, rfl, hb8, hc8, hr6, he6, how6⟩ := (o4.grows hg5).cellAt hlt
              have hcap6 := how6.caps.2
              have hxl : (rows.getD I []).length = s.length := HFL.out _ (rowsD_mem hlt)
              have ma5 := ma4.grows hg5
              obtain ⟨m0, m1, m2⟩ := ma5.cells
              have x0 := ma5.ext.1; have x1 := ma5.ext.2.1; have x2 := ma5.ext.2.2; have x3 := ext_is hc8
              have ha5 := ha4.grows hg5
              have hUL := shU_len (g := ⟨r, c, l⟩) (b := b) (rows := rows) (i := I)
              have HUM := Lib.hid (show ∀ k ∈ shU ⟨r, c, l⟩ b rows I, k.2.length = (rows.getD I []).length from fun k hk => by rw [hxl]; exact HFL.out _ (shU_mem hk))
              have K1 := Lib.hid fun h => shU_none (g := ⟨r, c, l⟩) (b := b) hlt (shK_no1 (g := ⟨r, c, l⟩) (b := b) h)
              have K2 := Lib.hid fun h => shU_none (g := ⟨r, c, l⟩) (b := b) hlt (shK_no2 (g := ⟨r, c, l⟩) (b := b) h)
              have K3 := Lib.hid fun h => shU_none (g := ⟨r, c, l⟩) (b := b) hlt (shK_no3 (g := ⟨r, c, l⟩) (b := b) h)
              have K4 := Lib.hid fun h1 h2 h3 => shU_some (g := ⟨r, c, l⟩) (b := b) hlt (shK_yes (g := ⟨r, c, l⟩) (b := b) h1 h2 h3)
              have CP := Lib.hid fun W h => l20Pos_c A6 (rows.getD I []) (rows.getD I []).length c6 W rfl h (by omega)
              have CW := Lib.hid fun W h h' => CV.out A6 (rows.getD I []) c6 W h h' (by omega)
              simp only at K1 K2 K3 K4
              have CPT := Lib.hid fun z W h1 h2 h3 => l20Put_c (shU ⟨r, c, l⟩ b rows I) A5 B5 A6 (rows.getD I []) z (shU ⟨r, c, l⟩ b rows I).length c5 d5 (rows.getD I []).length c6 W rfl h1 h2 h3 rfl hcap6.1 HUM.out hk1 hk2 hk3 hk4 (by omega) (by omega)
              have HPL := Lib.hid fun v => putK_length (shU ⟨r, c, l⟩ b rows I) v
              clear he6 how6 hxl
              generalize vVal r c l (rows.getD I []) = V at *
              generalize vOk r c l (rows.getD I []) = OK at *
              generalize posV (rows.getD I []) = PV at *
              generalize rows.getD I [] = x at *
              generalize shU ⟨r, c, l⟩ b rows I = S at *
              cases OK
              · have HNX := Lib.hid (K2.out rfl)
                clear K1 K2 K3 K4
                go_wp2_with fail
                ((refine wp_region_ext (by kernel_rfl) (by kernel_rfl) ?_); (repeat (go_big_quiet_step ((go_at_call 20; with_reducible exact extC (CW.out _ (Rd.ext ha5 _) (Rd.ext hr6 _)))))); refine wpQuiet_nil ?_; rintro w6 ⟨w60, hw60⟩; have g6 := grows_of_ext hw60; clear hw60 w60)
                go_wp2_with fail
                go_round
                case rel => exact ⟨I + 1, A5, c5, B5, d5, by go_num, by omega, by rw [HNX.out], by rw [HNX.out], by rw [HNX.out]; exact hrA.grows RSI.good g6, by rw [HNX.out]; exact hrB.grows g6, by rw [HNX.out]; exact hk1, by rw [HNX.out]; exact hk2, hk3, hk4, by exact bel2 g6 hg5⟩
                case measure => simp [intOf]; omega
              · by_cases hVb : V ≤ b
                · cases PV
                  · have HNX := Lib.hid (K1.out rfl)
                    clear K1 K2 K3 K4
                    go_wp2_with fail
                    ((refine wp_region_ext (by kernel_rfl) (by kernel_rfl) ?_); (repeat (go_big_quiet_step ((go_at_call 20; with_reducible exact extC (CW.out _ (Rd.ext ha5 _) (Rd.ext hr6 _)))))); refine wpQuiet_nil ?_; rintro w6 ⟨w60, hw60⟩; have g6 := grows_of_ext hw60; clear hw60 w60)
                    have hc9 : w6.cell? ⟨b8, o8 + I, none⟩ = some (.slice A6 x.length c6) := (g6.cell (p := ⟨b8, o8 + I, none⟩) hb8).trans hc8
                    go_wp2_with fail
                    refine (CP.out _ (by exact (Rd.grows hr6 (by exact bel1 g6)))).mono ?_; rintro e w7 ⟨rfl, rfl⟩
                    go_wp2_with fail
                    go_round
                    case rel => exact ⟨I + 1, A5, c5, B5, d5, by go_num, by omega, by rw [HNX.out], by rw [HNX.out], by rw [HNX.out]; exact hrA.grows RSI.good g6, by rw [HNX.out]; exact hrB.grows g6, by rw [HNX.out]; exact hk1, by rw [HNX.out]; exact hk2, hk3, hk4, by exact bel2 g6 hg5⟩
                    case measure => simp [intOf]; omega
                  · have HNX := Lib.hid (K4.out rfl rfl hVb)
                    clear K1 K2 K3 K4
                    go_wp2_with fail
                    ((refine wp_region_ext (by kernel_rfl) (by kernel_rfl) ?_); (repeat (go_big_quiet_step ((go_at_call 20; with_reducible exact extC (CW.out _ (Rd.ext ha5 _) (Rd.ext hr6 _)))))); refine wpQuiet_nil ?_; rintro w6 ⟨w60, hw60⟩; have g6 := grows_of_ext hw60; clear hw60 w60)
                    have hc9 : w6.cell? ⟨b8, o8 + I, none⟩ = some (.slice A6 x.length c6) := (g6.cell (p := ⟨b8, o8 + I, none⟩) hb8).trans hc8
                    go_wp2_with fail
                    refine (CP.out _ (by exact (Rd.grows hr6 (by exact bel1 g6)))).mono ?_; rintro e w7 ⟨rfl, rfl⟩
                    go_wp2_with fail
                    refine (CPT.out _ _ (hrA.grows RSI.good g6) (hrB.grows g6) (by exact (Rd.grows hr6 (by exact bel1 g6)))).mono ?_; rintro e w8 ⟨A9, c9, B9, d9, rfl, q1, q2, q3, q4, q5, q6, g8⟩
                    go_wp2_with fail
                    go_round
                    case rel => exact ⟨I + 1, A9, c9, B9, d9, by go_num, by omega, by rw [HNX.out, HPL.out], by rw [HNX.out, HPL.out], by rw [HNX.out]; exact q1, by rw [HNX.out]; exact q2, by rw [HNX.out, HPL.out]; exact q3, by rw [HNX.out, HPL.out]; exact q4, q5, q6, by exact bel3 g8 g6 hg5⟩
                    case measure => simp [intOf]; omega
                · have HNX := Lib.hid (K3.out hVb)
                  clear K1 K2 K3 K4
                  go_wp2_with fail
                  ((refine wp_region_ext (by kernel_rfl) (by kernel_rfl) ?_); (repeat (go_big_quiet_step ((go_at_call 20; with_reducible exact extC (CW.out _ (Rd.ext ha5 _) (Rd.ext hr6 _)))))); refine wpQuiet_nil ?_; rintro w6 ⟨w60, hw60⟩; have g6 := grows_of_ext hw60; clear hw60 w60)
                  go_wp2_with fail
                  go_round
                  case rel => exact ⟨I + 1, A5, c5, B5, d5, by go_num, by omega, by rw [HNX.out], by rw [HNX.out], by rw [HNX.out]; exact hrA.grows RSI.good g6, by rw [HNX.out]; exact hrB.grows g6, by rw [HNX.out]; exact hk1, by rw [HNX.out]; exact hk2, hk3, hk4, by exact bel2 g6 hg5⟩
                  case measure => simp [intOf]; omega
            · obtain rfl : I = rows.length := by omega
              obtain rfl : RES = some (shU ⟨r, c, l⟩ b rows rows.length) := HRES.out
              have HRL := rowsK_length (shU ⟨r, c, l⟩ b rows rows.length)
              have HRL' := Lib.hid HRL
              clear HRL
              go_wp2_with fail
              go_ret2
              exact ⟨A5, c5, by rw [show oRows (some (shU ⟨r, c, l⟩ b rows rows.length)) = rowsK (shU ⟨r, c, l⟩ b rows rows.length) from rfl, HRL'.out]; rfl, hrA, by exact bel2 hg5 HG4⟩
end
end Go.Proofs.YtbfkpfdkndnhkaaGreat

/- Plain: how many short vectors there are at most, and how long they are. -/
namespace Go.Proofs.YtbfkpfdkndnhkaaGreat
set_option linter.unusedSimpArgs false
set_option linter.unusedVariables false
open Go.RowKit

theorem shvO_rows {g : MX} {b : Int} {s : List KV} (h : shvO g b = some s) : ∃ x, boxO g b = some x ∧ boxB (negL x) x x.length = true ∧ s = putsK [] (shL g b (boxF (negL x) x x.length)) := by
  unfold shvO at h
  obtain ⟨x, h1, h2⟩ := Option.bind_eq_some_iff.1 h
  split at h2
  · rename_i hh
    cases h2
    exact ⟨x, h1, hh, rfl⟩
  · cases h2
theorem shvO_len {g : MX} {b : Int} {s : List KV} (h : shvO g b = some s) : s.length ≤ 4000 := by
  obtain ⟨x, _, h2, rfl⟩ := shvO_rows h
  rw [(putsK_perm (l := []) (r := shL g b (boxF (negL x) x x.length))).length_eq, List.nil_append]
  unfold shL
  exact Nat.le_trans (List.length_filterMap_le _ _) (boxB_len h2)
theorem shvO_row {g : MX} {b : Int} {s : List KV} (h : shvO g b = some s) {k : KV} (hk : k ∈ s) : k.2.length ≤ 6 := by
  obtain ⟨x, h1, h2, rfl⟩ := shvO_rows h
  have hm : k ∈ shL g b (boxF (negL x) x x.length) := by simpa using (putsK_perm (l := []) (r := shL g b (boxF (negL x) x x.length))).mem_iff.1 hk
  rw [boxF_len (shL_mem hm).1]
  exact boxO_length h1
theorem oRows_len {o : Option (List KV)} (h : ∀ s, o = some s → s.length ≤ 4000) : (oRows o).length ≤ 4000 := by
  cases o with
  | none => simp [oRows, rowsK]
  | some s => show (rowsK s).length ≤ 4000; rw [rowsK_length]; exact h s rfl
theorem oRows_row {o : Option (List KV)} (h : ∀ s, o = some s → ∀ k ∈ s, k.2.length ≤ 6) : ∀ x ∈ oRows o, x.length ≤ 1024 := by
  cases o with
  | none => intro x hx; simp [oRows, rowsK] at hx
  | some s =>
    intro x hx
    obtain ⟨k, hk, rfl⟩ := List.mem_map.1 (show x ∈ rowsK s from hx)
    have := h s rfl k hk
    omega
end Go.Proofs.YtbfkpfdkndnhkaaGreat
