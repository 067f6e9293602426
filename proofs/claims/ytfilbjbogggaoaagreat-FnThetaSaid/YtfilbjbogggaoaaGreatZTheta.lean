/- The row of FnTheta: proved for every input, no condition beyond those of the row. -/
import Derived.Test.YtfilbjbogggaoaaGreatPkDr
import Derived.Test.YtfilbjbogggaoaaGreatPkO
import Derived.Test.YtfilbjbogggaoaaGreatPkP
import Derived.Test.YtfilbjbogggaoaaGreatPkV
import Derived.Test.YtfilbjbogggaoaaGreatQDrw7
import Derived.Test.YtfilbjbogggaoaaGreatQFacts
import Derived.Test.YtfilbjbogggaoaaGreatQLwR
import Derived.Test.YtfilbjbogggaoaaGreatQThF

namespace Go.Proofs.YtfilbjbogggaoaaGreat
set_option linter.unusedSimpArgs false
set_option linter.unusedVariables false
open Go.RowKit
set_option linter.unusedVariables false

section
set_option maxHeartbeats 8000000
set_option maxRecDepth 100000
theorem lawThe_c (A : Option Addr) (lc : List Int) (cap : Nat) (w : World) (hi : InCode w A lc cap) :
    Calls Tryz.prog 8 #[.slice A lc.length cap] w fun e w' => e = .returned (.bool true) ∧ Grows w w' := by
  obtain ⟨hr, hc1, hc2⟩ := hi
  simp only [maxLen] at hc2
  have CB := big_c A lc.length cap w (by omega)
  by_cases hn : lc.length ≤ 1048576
  rotate_left
  · rw [decide_eq_true (by omega)] at CB
    have CB' := Lib.hid CB
    clear CB
    go_enter Tryz.func8, Tryz.ntmps8
    go_wp2_with fail
    refine CB'.out.mono ?_; rintro e w' ⟨rfl, rfl⟩
    go_wp2_with fail
    go_ret
    exact ⟨rfl, by exact bel0⟩
  · rw [decide_eq_false (by omega)] at CB
    have CB' := Lib.hid CB
    have CD := Lib.hid (askDrawThetaOf_c A lc.length cap w hr hn)
    have CX := Lib.hid fun N W h hN => mix_c A lc.length cap N W h hn hN
    have HR := Lib.hid hr
    clear CB
    go_enter Tryz.func8, Tryz.ntmps8
    go_wp2_with fail
    refine CB'.out.mono ?_; rintro e w' ⟨rfl, h0⟩
    have h1 := h0.symm
    clear h0
    subst h1
    go_wp2_with fail
    refine CD.out.mono ?_; rintro e w2 ⟨r, c, V, cv, l, x, rfl, hrb, hl, o2, HG⟩
    have rd2 := o2.rd'
    obtain ⟨_, hcv, hcv2⟩ := o2.caps
    have h_w2 := Below.size HG
    have CS := Lib.hid fun W h => (iTht_c r c x V l l.length cv W rfl hcv hcv2 h (by omega)).mono fun _ _ h => lRet_out h
    have CT := Lib.hid fun W h => (sTht_c r c x V l l.length cv W rfl hcv hcv2 h (by omega)).mono fun _ _ h => lRet_out h
    have CTH := Lib.hid fun (H : MX) Vh ch W (h1 : H.l.length ≤ ch) (h2 : ch ≤ 9223372036854775807) (h3 : H.l.length ≤ 1099511627776) h => (iTht_c H.r H.c x Vh H.l H.l.length ch W rfl h1 h2 h h3).mono fun _ _ h => lRet_out h
    have CCB := Lib.hid fun (m : MX) Vm cm W (hm : m.l.length ≤ 576) h1 h2 => (iCB_c r c m.r m.c V Vm l m.l l.length m.l.length cv cm W rfl rfl h1 h2 (by omega) (by omega)).mono fun _ _ h => matRet_out h
    have CDS := Lib.hid fun Vk ck W h1 h2 => iDirectSum_c r c 1 1 V Vk l [2] l.length 1 cv ck W rfl rfl h1 h2 (by omega) (by omega)
    have HLX := Lib.hid fun (m : MX) => oM_length (o := cbO ⟨r, c, l⟩ m) fun m h => cbO_ok h
    have HLD := Lib.hid (dsV_length r c l 1 1 [2])
    have HCH := Lib.hid fun (N : Nat) u (hN : (N : Int) = max 0 (min r 6)) (hu : MixR N u) => the_change (g := ⟨r, c, l⟩) (x := x) hN hu
    have HSD := Lib.hid (the_side (r := r) (c := c) (l := l) (x := x))
    have HT1 := Lib.hid (thO_len2 ⟨r, c, l⟩ x)
    have HT2 := Lib.hid (thO_len2 ⟨1, 1, [2]⟩ x)
    have HT3 := Lib.hid (thO_len2 ⟨dsR r c l 1 1 [2], dsR r c l 1 1 [2], dsV r c l 1 1 [2]⟩ x)
    have CTK := Lib.hid fun Vk ck W (h1 : 1 ≤ ck) (h2 : ck ≤ 9223372036854775807) h => (iTht_c 1 1 x Vk [2] 1 ck W rfl h1 h2 h (by omega)).mono fun _ _ h => lRet_out h
    have CTS := Lib.hid fun Vs cs W h1 h2 h => (iTht_c (dsR r c l 1 1 [2]) (dsR r c l 1 1 [2]) x Vs (dsV r c l 1 1 [2]) (dsV r c l 1 1 [2]).length cs W rfl h1 h2 h (by have := HLD.out; omega)).mono fun _ _ h => lRet_out h
    generalize thO ⟨r, c, l⟩ x = T at *
    generalize thO ⟨1, 1, [2]⟩ x = TK at *
    generalize thO ⟨dsR r c l 1 1 [2], dsR r c l 1 1 [2], dsV r c l 1 1 [2]⟩ x = TS at *
    generalize dsR r c l 1 1 [2] = dr at *
    generalize dsV r c l 1 1 [2] = dl at *
    generalize dsOk r c l 1 1 [2] = four at *
    generalize T.isSome = one at *
    generalize oL T = a at *
    generalize TK.isSome = six at *
    generalize oL TK = d at *
    generalize TS.isSome = five at *
    generalize oL TS = cc at *
    clear CD hr hc1 hc2 o2
    go_wp2_with fail
    refine (CS.out _ (by exact Rd.grows rd2 (by exact bel0))).mono ?_; rintro e w3 ⟨v3, rfl, o3, g_w3⟩
    have s_w3 := Below.size g_w3; (try simp at s_w3)
    replace rd2 := rd2.grows (w' := w3) (by exact bel1 g_w3)
    have mg : MBox w3 (w2.heap.size) r c (.slice V l.length cv) := MBox.grows (MBox.new_ w2 r c (.slice V l.length cv) 26 (by simp)) (w' := w3) (by exact bel1 g_w3)
    have mg_0 := mg.c0; have mg_1 := mg.c1; have mg_2 := mg.c2; have mg_l := mg.lt; have mg_f := mg.fz
    replace HG : Grows w w3 := by exact bel2 g_w3 HG
    have h_w3 := Below.size HG
    obtain ⟨A3, c3, rfl, rd3, _⟩ := o3.val
    obtain ⟨_, hc3, _⟩ := o3.caps
    go_wp2_with fail
    refine (CT.out _ (by exact Rd.grows rd2 (by exact bel0))).mono ?_; rintro e w4 ⟨v4, rfl, o4, g_w4⟩
    have s_w4 := Below.size g_w4; (try simp at s_w4)
    replace rd2 := rd2.grows (w' := w4) (by exact bel1 g_w4)
    clear mg_0 mg_1 mg_2 mg_l mg_f
    replace mg := mg.grows (w' := w4) (by exact bel1 g_w4)
    have mg_0 := mg.c0; have mg_1 := mg.c1; have mg_2 := mg.c2; have mg_l := mg.lt; have mg_f := mg.fz
    replace rd3 := rd3.grows (w' := w4) (by exact bel1 g_w4)
    replace HG : Grows w w4 := by exact bel2 g_w4 HG
    have h_w4 := Below.size HG
    obtain ⟨A4, c4, rfl, rd4, _⟩ := o4.val
    clear CS CT o3 o4 rd4
    go_upto_region 8 with fail
    go_cut [9, 10] (fun s9 s10 wx => ∃ (gh : Nat) (H : MX) (Vh : Option Addr) (ch : Nat) (two : Bool), s9 = .pointer (some ⟨gh, 0, none⟩) ∧ s10 = .bool two ∧ RowKit.Hid (H.l.length ≤ 1048576) ∧ RowKit.Hid ((one && two && (thO H x).isSome) = true → eqL a (oL (thO H x)) = true) ∧ Own wx w4.heap.size (.slice Vh H.l.length ch) H.l ∧ MBox wx gh H.r H.c (.slice Vh H.l.length ch) ∧ Grows w4 wx)
    case first =>
      have HRW : CodeR w4 w4.heap.size A lc.length := HR.out.up HG
      obtain ⟨N, hN⟩ : ∃ N : Nat, (N : Int) = max 0 (min r 6) := ⟨(max 0 (min r 6)).toNat, by omega⟩
      have CXR0 := fun W h => CX.out N W h (by omega)
      rw [hN] at CXR0
      have CXR := Lib.hid CXR0
      have HCN := Lib.hid fun u hu => HCH.out N u hN hu
      have hN24 : N ≤ 24 := by omega
      clear hN CXR0
      go_region_held3 (fun W => W.cell? ⟨w2.heap.size, 0, none⟩ = some (.int .i64 r) ∧ W.cell? ⟨w2.heap.size, 1, none⟩ = some (.int .i64 c) ∧ W.cell? ⟨w2.heap.size, 2, none⟩ = some (.slice V l.length cv)) ((refine MBox.cells (mg.grows ?_); first | exact bel2 g9 g8 | exact bel1 g8 | exact bel0))
        (first
         | (go_at_call 42; refine (CXR.out _ (by exact HRW.up (by exact bel0))).mono ?_; rintro e w8 ⟨u, Vm, cm, rfl, hmx, om, g8⟩; have z8 := Below.size g8; (try simp at z8); have rdm := om.rd'; (try (have q := (MBox.mk_ w4 0 0 (.slice none 0 0) 26).grows (w' := w8) (Grows.trans (show Grows _ _ from (Below.refl _ _).drew) g8))))
         | (go_at_call 20; refine (CCB.out u Vm cm _ (hmx.len (by omega)) (by exact (Rd.grows rd2 (by exact bel1 g8))) (by exact (Rd.grows rdm (by exact bel0)))).mono ?_; rintro e w9 ⟨v9, rfl, ho9, g9⟩; obtain ⟨A9, c9, rfl, hr9, _⟩ := ho9.val; have z9 := Below.size g9; (try simp at z9); (first | (replace q := q.grows g9) | (have q := MBox.grows (MBox.mk_ w8 0 0 (.slice none 0 0) 26) g9) | skip); (try (obtain ⟨q0, q1, q2⟩ := q.cells; have qf := q.fz; have ql := q.lt))))
      all_goals
        go_wp2_with fail
        go_meet
        exact ⟨_, oM (cbO ⟨r, c, l⟩ u), _, _, _, rfl, rfl, Lib.hid (by have := HLX.out u; omega), Lib.hid (HCN.out u hmx), by (have hb_ := fun k hk => World.ownsRow.lt ho9 k hk; have ho_ := Own.less ho9 (show w4.heap.size ≤ _ by first | omega | (simp; done) | (simp; omega)); (repeat' (first | with_reducible exact ho_ | with_reducible refine Own.alloc ?_ _ | with_reducible refine Own.drew ?_ | with_reducible refine Own.far ?_ ?_ _)); all_goals first | (intro k hk; have := hb_ k hk; (try simp at this); (try simp); omega) | omega | (simp; done) | (simp; omega)), by first | exact MBox.put q _ _ _ | exact MBox.mk_ _ _ _ _ _ | exact MBox.put (MBox.mk_ _ _ _ _ _) _ _ _, by exact bel2 g9 g8⟩
    case rest =>
      obtain ⟨gh, H, Vh, ch, two, rfl, rfl, HLH, HC, oh, mh, hg5⟩ := hcut
      obtain ⟨w5, rfl⟩ : ∃ x : World, x = wc := ⟨_, rfl⟩
      clear HLX HCH CCB CX
      have s_w5 := Below.size hg5; (try simp at s_w5)
      replace rd2 := rd2.grows (w' := w5) (by exact bel1 hg5)
      clear mg_0 mg_1 mg_2 mg_l mg_f
      replace mg := mg.grows (w' := w5) (by exact bel1 hg5)
      have mg_0 := mg.c0; have mg_1 := mg.c1; have mg_2 := mg.c2; have mg_l := mg.lt; have mg_f := mg.fz
      replace rd3 := rd3.grows (w' := w5) (by exact bel1 hg5)
      replace HG : Grows w w5 := by exact bel2 hg5 HG
      have h_w5 := Below.size HG
      have rdh := oh.rd'
      obtain ⟨_, hch, hch2⟩ := oh.caps
      have mh_0 := mh.c0; have mh_1 := mh.c1; have mh_2 := mh.c2; have mh_l := mh.lt; have mh_f := mh.fz
      have CH := Lib.hid fun W h => CTH.out H Vh ch W hch hch2 (by have := HLH.out; omega) h
      have HT4 := Lib.hid (thO_len2 H x)
      generalize thO H x = TH at *
      generalize TH.isSome = three at *
      generalize oL TH = b at *
      clear oh CTH
      go_wp2_with fail
      refine (CH.out _ (by exact Rd.grows rdh (by exact bel0))).mono ?_; rintro e w6 ⟨v6, rfl, o6, g_w6⟩
      have s_w6 := Below.size g_w6; (try simp at s_w6)
      replace rd2 := rd2.grows (w' := w6) (by exact bel1 g_w6)
      clear mg_0 mg_1 mg_2 mg_l mg_f
      replace mg := mg.grows (w' := w6) (by exact bel1 g_w6)
      have mg_0 := mg.c0; have mg_1 := mg.c1; have mg_2 := mg.c2; have mg_l := mg.lt; have mg_f := mg.fz
      replace rd3 := rd3.grows (w' := w6) (by exact bel1 g_w6)
      replace rdh := rdh.grows (w' := w6) (by exact bel1 g_w6)
      clear mh_0 mh_1 mh_2 mh_l mh_f
      replace mh := mh.grows (w' := w6) (by exact bel1 g_w6)
      have mh_0 := mh.c0; have mh_1 := mh.c1; have mh_2 := mh.c2; have mh_l := mh.lt; have mh_f := mh.fz
      replace HG : Grows w w6 := by exact bel2 g_w6 HG
      have h_w6 := Below.size HG
      obtain ⟨A6, c6, rfl, rd6, _⟩ := o6.val
      clear CH o6
      have CQ := Lib.hid fun W h h' => sameInts_c A3 A6 a b c3 c6 W h h' (by have := HT1.out; omega) (by have := HT4.out; omega)
      generalize eqL a b = eqv at *
      go_upto_region 10 with fail
      go_cut [73] (fun s73 wx => s73 = .bool false ∧ Grows w6 wx)
      case first =>
        have HCC := HC.out
        clear HC HSD
        cases one
        · clear HCC; go_wp2_with fail; go_meet; exact ⟨rfl, by exact bel0⟩
        · cases two
          · clear HCC; go_wp2_with fail; go_meet; exact ⟨rfl, by exact bel0⟩
          · cases three
            · clear HCC; go_wp2_with fail; go_meet; exact ⟨rfl, by exact bel0⟩
            · obtain rfl := HCC rfl
              clear HCC
              go_wp2_with fail
              refine (CQ.out _ (Rd.grows rd3 (by exact bel0)) (Rd.grows rd6 (by exact bel0))).mono ?_; rintro e w7 ⟨rfl, g7⟩
              go_wp2_with fail
              go_meet
              exact ⟨rfl, by exact bel1 g7⟩
      case rest =>
        obtain ⟨rfl, hg7⟩ := hcut
        obtain ⟨w7, rfl⟩ : ∃ x : World, x = wc := ⟨_, rfl⟩
        clear HC CQ
        have s_w7 := Below.size hg7; (try simp at s_w7)
        replace rd2 := rd2.grows (w' := w7) (by exact bel1 hg7)
        clear mg_0 mg_1 mg_2 mg_l mg_f
        replace mg := mg.grows (w' := w7) (by exact bel1 hg7)
        have mg_0 := mg.c0; have mg_1 := mg.c1; have mg_2 := mg.c2; have mg_l := mg.lt; have mg_f := mg.fz
        replace rd3 := rd3.grows (w' := w7) (by exact bel1 hg7)
        replace rdh := rdh.grows (w' := w7) (by exact bel1 hg7)
        clear mh_0 mh_1 mh_2 mh_l mh_f
        replace mh := mh.grows (w' := w7) (by exact bel1 hg7)
        have mh_0 := mh.c0; have mh_1 := mh.c1; have mh_2 := mh.c2; have mh_l := mh.lt; have mh_f := mh.fz
        replace rd6 := rd6.grows (w' := w7) (by exact bel1 hg7)
        replace HG : Grows w w7 := by exact bel2 hg7 HG
        have h_w7 := Below.size HG
        clear mh_0 mh_1 mh_2 mh_l mh_f
        clear rd6 rdh mh
        go_upto_region 12 with fail
        go_cut [13] (fun s13 wx => ∃ (gk : Nat) (Vk : Option Addr) (ck : Nat), s13 = .pointer (some ⟨gk, 0, none⟩) ∧ 1 ≤ ck ∧ ck ≤ 9223372036854775807 ∧ Rd wx Vk [2] ∧ MBox wx gk 1 1 (.slice Vk 1 ck) ∧ Grows w7 wx)
        case first =>
          go_wp2_with fail
          go_meet
          refine ⟨_, _, _, rfl, ?_, ?_, ?_, by first | exact MBox.new_ _ _ _ _ _ (by simp) | exact MBox.mk_ _ _ _ _ _ | exact MBox.put (MBox.mk_ _ _ _ _ _) _ _ _, by exact bel0⟩
          · omega
          · omega
          · intro i hi
            obtain rfl : i = 0 := by simpa using hi
            exact ⟨_, _, rfl, by simp; omega, by simp [go_sem, nth]⟩
        case rest =>
          obtain ⟨gk, Vk, ck, rfl, hck, hck2, rdk, mk, hg8⟩ := hcut
          obtain ⟨w8, rfl⟩ : ∃ x : World, x = wc := ⟨_, rfl⟩
          have s_w8 := Below.size hg8; (try simp at s_w8)
          replace rd2 := rd2.grows (w' := w8) (by exact bel1 hg8)
          clear mg_0 mg_1 mg_2 mg_l mg_f
          replace mg := mg.grows (w' := w8) (by exact bel1 hg8)
          have mg_0 := mg.c0; have mg_1 := mg.c1; have mg_2 := mg.c2; have mg_l := mg.lt; have mg_f := mg.fz
          replace rd3 := rd3.grows (w' := w8) (by exact bel1 hg8)
          replace HG : Grows w w8 := by exact bel2 hg8 HG
          have h_w8 := Below.size HG
          have mk_0 := mk.c0; have mk_1 := mk.c1; have mk_2 := mk.c2; have mk_l := mk.lt; have mk_f := mk.fz
          have CK1 := Lib.hid fun W h => CTK.out Vk ck W hck hck2 h
          clear CTK
          go_wp2_with fail
          refine (CDS.out Vk ck _ (by exact Rd.grows rd2 (by exact bel0)) (by exact Rd.grows rdk (by exact bel0))).mono ?_; rintro e w9 ⟨v9, rfl, o9, g_w9⟩
          have s_w9 := Below.size g_w9; (try simp at s_w9)
          replace rd2 := rd2.grows (w' := w9) (by exact bel1 g_w9)
          clear mg_0 mg_1 mg_2 mg_l mg_f
          replace mg := mg.grows (w' := w9) (by exact bel1 g_w9)
          have mg_0 := mg.c0; have mg_1 := mg.c1; have mg_2 := mg.c2; have mg_l := mg.lt; have mg_f := mg.fz
          replace rd3 := rd3.grows (w' := w9) (by exact bel1 g_w9)
          replace rdk := rdk.grows (w' := w9) (by exact bel1 g_w9)
          clear mk_0 mk_1 mk_2 mk_l mk_f
          replace mk := mk.grows (w' := w9) (by exact bel1 g_w9)
          have mk_0 := mk.c0; have mk_1 := mk.c1; have mk_2 := mk.c2; have mk_l := mk.lt; have mk_f := mk.fz
          replace HG : Grows w w9 := by exact bel2 g_w9 HG
          have h_w9 := Below.size HG
          obtain ⟨A9, c9, rfl, rd9, _⟩ := o9.val
          obtain ⟨_, hc9, hc9'⟩ := o9.caps
          have CS1 := Lib.hid fun W h => CTS.out A9 c9 W hc9 hc9' h
          clear CDS CTS o9
          go_wp2_with fail
          refine (CS1.out _ (by exact Rd.grows rd9 (by exact bel0))).mono ?_; rintro e w10 ⟨v10, rfl, o10, g_w10⟩
          have s_w10 := Below.size g_w10; (try simp at s_w10)
          replace rd2 := rd2.grows (w' := w10) (by exact bel1 g_w10)
          clear mg_0 mg_1 mg_2 mg_l mg_f
          replace mg := mg.grows (w' := w10) (by exact bel1 g_w10)
          have mg_0 := mg.c0; have mg_1 := mg.c1; have mg_2 := mg.c2; have mg_l := mg.lt; have mg_f := mg.fz
          replace rd3 := rd3.grows (w' := w10) (by exact bel1 g_w10)
          replace rdk := rdk.grows (w' := w10) (by exact bel1 g_w10)
          clear mk_0 mk_1 mk_2 mk_l mk_f
          replace mk := mk.grows (w' := w10) (by exact bel1 g_w10)
          have mk_0 := mk.c0; have mk_1 := mk.c1; have mk_2 := mk.c2; have mk_l := mk.lt; have mk_f := mk.fz
          replace rd9 := rd9.grows (w' := w10) (by exact bel1 g_w10)
          have ms : MBox w10 (w9.heap.size) dr dr (.slice A9 dl.length c9) := MBox.grows (MBox.new_ w9 dr dr (.slice A9 dl.length c9) 26 (by simp)) (w' := w10) (by exact bel1 g_w10)
          have ms_0 := ms.c0; have ms_1 := ms.c1; have ms_2 := ms.c2; have ms_l := ms.lt; have ms_f := ms.fz
          replace HG : Grows w w10 := by exact bel2 g_w10 HG
          have h_w10 := Below.size HG
          obtain ⟨A10, c10, rfl, rd10, _⟩ := o10.val
          go_wp2_with fail
          refine (CK1.out _ (by exact Rd.grows rdk (by exact bel0))).mono ?_; rintro e w11 ⟨v11, rfl, o11, g_w11⟩
          have s_w11 := Below.size g_w11; (try simp at s_w11)
          replace rd2 := rd2.grows (w' := w11) (by exact bel1 g_w11)
          clear mg_0 mg_1 mg_2 mg_l mg_f
          replace mg := mg.grows (w' := w11) (by exact bel1 g_w11)
          have mg_0 := mg.c0; have mg_1 := mg.c1; have mg_2 := mg.c2; have mg_l := mg.lt; have mg_f := mg.fz
          replace rd3 := rd3.grows (w' := w11) (by exact bel1 g_w11)
          replace rdk := rdk.grows (w' := w11) (by exact bel1 g_w11)
          clear mk_0 mk_1 mk_2 mk_l mk_f
          replace mk := mk.grows (w' := w11) (by exact bel1 g_w11)
          have mk_0 := mk.c0; have mk_1 := mk.c1; have mk_2 := mk.c2; have mk_l := mk.lt; have mk_f := mk.fz
          replace rd9 := rd9.grows (w' := w11) (by exact bel1 g_w11)
          clear ms_0 ms_1 ms_2 ms_l ms_f
          replace ms := ms.grows (w' := w11) (by exact bel1 g_w11)
          have ms_0 := ms.c0; have ms_1 := ms.c1; have ms_2 := ms.c2; have ms_l := ms.lt; have ms_f := ms.fz
          replace rd10 := rd10.grows (w' := w11) (by exact bel1 g_w11)
          replace HG : Grows w w11 := by exact bel2 g_w11 HG
          have h_w11 := Below.size HG
          obtain ⟨A11, c11, rfl, rd11, _⟩ := o11.val
          obtain ⟨_, hc11, _⟩ := o11.caps
          have CJ := Lib.hid fun W h h' => iJT_c A3 A11 a d c3 c11 W h h' (by have := HT1.out; omega) (by have := HT2.out; omega) hc3 hc11
          have HJL := Lib.hid (jres_length a d (by have := HT1.out; omega))
          generalize jok a d = seven at *
          generalize jres a d = j at *
          clear CS1 CK1 o10 o11
          go_wp2_with fail
          refine (CJ.out _ (by exact Rd.grows rd3 (by exact bel0)) (by exact Rd.grows rd11 (by exact bel0))).mono ?_; rintro e w12 ⟨v12, rfl, o12, g_w12⟩
          have s_w12 := Below.size g_w12; (try simp at s_w12)
          replace rd2 := rd2.grows (w' := w12) (by exact bel1 g_w12)
          clear mg_0 mg_1 mg_2 mg_l mg_f
          replace mg := mg.grows (w' := w12) (by exact bel1 g_w12)
          have mg_0 := mg.c0; have mg_1 := mg.c1; have mg_2 := mg.c2; have mg_l := mg.lt; have mg_f := mg.fz
          replace rd3 := rd3.grows (w' := w12) (by exact bel1 g_w12)
          replace rdk := rdk.grows (w' := w12) (by exact bel1 g_w12)
          clear mk_0 mk_1 mk_2 mk_l mk_f
          replace mk := mk.grows (w' := w12) (by exact bel1 g_w12)
          have mk_0 := mk.c0; have mk_1 := mk.c1; have mk_2 := mk.c2; have mk_l := mk.lt; have mk_f := mk.fz
          replace rd9 := rd9.grows (w' := w12) (by exact bel1 g_w12)
          clear ms_0 ms_1 ms_2 ms_l ms_f
          replace ms := ms.grows (w' := w12) (by exact bel1 g_w12)
          have ms_0 := ms.c0; have ms_1 := ms.c1; have ms_2 := ms.c2; have ms_l := ms.lt; have ms_f := ms.fz
          replace rd10 := rd10.grows (w' := w12) (by exact bel1 g_w12)
          replace rd11 := rd11.grows (w' := w12) (by exact bel1 g_w12)
          replace HG : Grows w w12 := by exact bel2 g_w12 HG
          have h_w12 := Below.size HG
          obtain ⟨A12, c12, rfl, rd12, _⟩ := o12.val
          have CQ := Lib.hid fun W h h' => sameInts_c A10 A12 cc j c10 c12 W h h' (by have := HT3.out; omega) (by have := HJL.out; omega)
          generalize eqL cc j = eqv2 at *
          have HSS := HSD.out
          clear HSD CJ o12 mg_0 mg_1 mg_2 mg_l mg_f mk_0 mk_1 mk_2 mk_l mk_f ms_0 ms_1 ms_2 ms_l ms_f mg mk ms
          cases one
          · clear HSS; go_wp2_with fail; go_ret; exact ⟨rfl, by exact bel1 HG⟩
          · cases four
            · clear HSS; go_wp2_with fail; go_ret; exact ⟨rfl, by exact bel1 HG⟩
            · cases five
              · clear HSS; go_wp2_with fail; go_ret; exact ⟨rfl, by exact bel1 HG⟩
              · cases six
                · clear HSS; go_wp2_with fail; go_ret; exact ⟨rfl, by exact bel1 HG⟩
                · cases seven
                  · clear HSS; go_wp2_with fail; go_ret; exact ⟨rfl, by exact bel1 HG⟩
                  · obtain rfl := HSS rfl
                    clear HSS
                    go_wp2_with fail
                    refine (CQ.out _ (Rd.grows rd10 (by exact bel0)) (Rd.grows rd12 (by exact bel0))).mono ?_; rintro e w13 ⟨rfl, g13⟩
                    go_wp2_with fail
                    go_ret
                    exact ⟨rfl, by exact bel2 g13 HG⟩
end
end Go.Proofs.YtfilbjbogggaoaaGreat


namespace Go.Proofs.YtfilbjbogggaoaaGreat
set_option linter.unusedSimpArgs false
set_option linter.unusedVariables false
open Go.ChangeShapes Go.WideShapes Go.ChangeAt Go.RowKit Go.Joins
set_option linter.unusedVariables false

set_option maxRecDepth 100000 in
theorem fnTheta_lifted (os : Os) (started : os.Started) (H : Type) (enc : TypeId × Value → H) :
    ReturnsInHanded {} Tryz.checked os 8 .any (Rows.fnThetaSpec.pre6 enc Tryz.prog Tryz.f8 Rows.fnThetaRow.domain false) (Rows.fnThetaSpec.post enc Tryz.prog Tryz.f8 false true false false) := by
  refine returnsInHanded_of_change (C := Tryz.checked) own started (by kernel_rfl) Tryz.func8
    (ChangeSpec.witness6 (enc := enc) (C := Tryz.checked) false ⟨#[], #[.slice none 0 0], []⟩ 8 (by kernel_rfl) (by kernel_rfl) (by kernel_rfl) (by kernel_rfl)) ?_
  intro W base args ds gs before hval0 hW hcnd _
  have hval : ∀ (j : Nat) t v, Tryz.f8.params[j]? = some t → args[j]? = some v → Value.okWide Tryz.prog W .any base t v := hval0
  have hW' := hW
  obtain ⟨p, q, hA0, hV, rfl, hfz, hnd⟩ := hW
  have hA : DataW.TrodAll enc Tryz.prog W 0 (fun _ => true) true Tryz.f8.params.toList args.toList ds p := hA0
  rw [Tryz.params8] at hA hval
  obtain ⟨v0, vs0, d0, ds0, p0, q0, hargs, rfl, rfl, h0, r0⟩ := trodAll_cons hA
  obtain ⟨rfl, rfl, rfl⟩ := trodAll_nil r0
  obtain rfl : args = #[v0] := by cases args; simp_all
  obtain ⟨rfl, rfl⟩ := trodVars_none hV
  have k0 := h0
  have lt0 : ∀ x ∈ p0, x.block < W.heap.size := by obtain ⟨m, hm⟩ := k0; exact DataW.trod_lt m _ _ _ hm
  obtain ⟨a00, len0, cap0, rfl⟩ := okWide_slice Tryz.underlying22 (hval 0 22 v0 rfl rfl)
  obtain ⟨A0, l0, c0, e0, ir0⟩ : ∃ A l c, Value.slice a00 len0 cap0 = .slice A (List.length l) c ∧ InCode W A l c := by obtain ⟨fuel, hf⟩ := h0; simp only [Value.cells] at hf; exact open_code hf
  rw [e0] at hval hW' k0 ⊢
  clear hA0 hval0
  refine (lawThe_c A0 l0 c0 W ir0).mono fun e W' ⟨he, bel⟩ => ?_
  subst he
  exact ⟨_, rfl, _, _, _, [], _, [], hW', trodAll_mk1 (shut_bool Tryz.underlying4 _), (trodAll_cons_mk (Below.trod laidOut (by kernel_rfl) (of_decide_eq_true (by kernel_rfl)) k0 bel lt0) trodAll_mk0), rfl, bel.frame _, fun h => by cases h⟩

theorem fnTheta_closed : joinedFacts Tryz.pinned.checked.prog 8 Tryz.f8 Rows.fnThetaSpec Rows.fnThetaRow = true := by
  unfold joinedFacts
  rw [fLaid, fRowed, fStops, fEnter, fLift, fMake]
  change _ = true
  kernel_rfl
/-- The statement. -/
theorem fnTheta_holds : Rows.FnThetaSaid :=
  OpenClaim.holds_of_wide 8 Tryz.f8 rfl rfl rfl rfl rfl rfl rfl ⟨rfl, rfl, rfl, rfl, rfl⟩ rfl rfl rfl rfl rfl (by kernel_rfl) Tryz.func8 fnTheta_closed
    (of_decide_eq_true (by kernel_rfl)) (by unfold Func.isWrapper; first | (rw [if_pos (by decide +kernel)]; kernel_rfl) | (rw [if_neg (by decide +kernel)]; exact ⟨rfl, rfl⟩))
    (fun os started H enc _ => fnTheta_lifted os started H enc)
end Go.Proofs.YtfilbjbogggaoaaGreat
