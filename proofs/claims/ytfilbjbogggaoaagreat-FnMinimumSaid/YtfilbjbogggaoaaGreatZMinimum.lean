/- The row of FnMinimum: proved for every input, no condition beyond those of the row. -/
import Derived.Test.YtfilbjbogggaoaaGreatPkDr
import Derived.Test.YtfilbjbogggaoaaGreatPkO
import Derived.Test.YtfilbjbogggaoaaGreatPkV
import Derived.Test.YtfilbjbogggaoaaGreatQFacts
import Derived.Test.YtfilbjbogggaoaaGreatQFmT

namespace Go.Proofs.YtfilbjbogggaoaaGreat
set_option linter.unusedSimpArgs false
set_option linter.unusedVariables false
open Go.RowKit
set_option linter.unusedVariables false

theorem rowsK_mem {s : List KV} {m : Nat} (h : m < (rowsK s).length) : ∃ k ∈ s, k.2 = (rowsK s)[m] := by
  have := List.getElem_mem h
  obtain ⟨k, hk, e⟩ := List.mem_map.1 this
  exact ⟨k, hk, e⟩
section
set_option maxHeartbeats 8000000
set_option maxRecDepth 100000
/-- the calls about a form with a least value -/
theorem fmn_calls {r c : Int} {V : Option Addr} {l : List Int} {cv : Nat} (hcv : l.length ≤ cv) (hcv2 : cv ≤ 9223372036854775807) (hl : l.length ≤ 1099511627776) {n : Int} (h : minO ⟨r, c, l⟩ = some n) :
    ∃ (R m : Nat) (L : List (List Int)), r = R ∧ 1 ≤ R ∧ R ≤ 6 ∧ L.length = m + 1 ∧ m + 1 ≤ 4000 ∧
      (∀ W, Rd W V l → Calls Tryz.prog 41 #[.agg #[.int .i64 r, .int .i64 c, .slice V l.length cv]] W fun e w' => ∃ A cc, e = .returned (.tuple #[.slice A L.length cc, .bool true]) ∧ RdR RSI w' A L ∧ Grows W w') ∧
      (∀ W, Rd W V l → Calls Tryz.prog 43 #[.agg #[.int .i64 r, .int .i64 c, .slice V l.length cv]] W fun e w' => e = .returned (.tuple #[.int .i64 (2 * (L.length : Int)), .bool true]) ∧ Grows W w') ∧
      (∀ v ∈ L, v.length ≤ 6 ∧ ∀ W A cc, Rd W V l → Rd W A v → Calls Tryz.prog 15 #[.agg #[.int .i64 r, .int .i64 c, .slice V l.length cv], .slice A v.length cc] W fun e w' => e = .returned (.tuple #[.int .i64 n, .bool true]) ∧ Grows W w') := by
  obtain ⟨R, s, h1, h2, h3, hs, hp, h4, hk, hall⟩ := fmn_facts h
  have e1 : (rowsK s).length = s.length := rowsK_length s
  refine ⟨R, s.length - 1, rowsK s, h1, h2, h3, by omega, by omega, fun W hW => ?_, fun W hW => ?_, fun v hv => ?_⟩
  · refine (iSht_c r c V l l.length cv W rfl hcv hcv2 hW hl).mono fun e w' he => ?_
    rw [hs] at he
    obtain ⟨A, cc, he, hr, g⟩ := iRows_out he
    exact ⟨A, cc, he, hr, g⟩
  · refine (iKis_c r c V l l.length cv W rfl hcv hcv2 hW hl).mono fun e w' he => ?_
    rw [hk] at he
    obtain ⟨he, g⟩ := minRet_out he
    exact ⟨by rw [he, e1]; rfl, g⟩
  · obtain ⟨k, hk, rfl⟩ := List.mem_map.1 hv
    obtain ⟨k1, k2, k3⟩ := hall k hk
    refine ⟨k1, fun W A cc hW hA => (iValueAt_c r c V A l k.2 l.length k.2.length cv cc W rfl rfl hW hA hl (by omega)).mono fun e w' he => ?_⟩
    rw [show vVal r c l k.2 = n from k3, show vOk r c l k.2 = true from k2] at he
    exact he
theorem lawFmn_c (A : Option Addr) (lc : List Int) (cap : Nat) (w : World) (hi : InCode w A lc cap) :
    Calls Tryz.prog 7 #[.slice A lc.length cap] w fun e w' => e = .returned (.bool true) ∧ Grows w w' := by
  obtain ⟨hr, hc1, hc2⟩ := hi
  simp only [maxLen] at hc2
  have CB := big_c A lc.length cap w (by omega)
  by_cases hn : lc.length ≤ 1048576
  rotate_left
  · rw [decide_eq_true (by omega)] at CB
    have CB' := Lib.hid CB
    clear CB
    go_enter Tryz.func7, Tryz.ntmps7
    go_wp2_with fail
    refine CB'.out.mono ?_; rintro e w' ⟨rfl, rfl⟩
    go_wp2_with fail
    go_ret
    exact ⟨rfl, by exact bel0⟩
  · rw [decide_eq_false (by omega)] at CB
    have CB' := Lib.hid CB
    have CD := Lib.hid (matDrawMinimumOf_c A lc.length cap w hr hn)
    have CX := Lib.hid fun N W h hN => mix_c A lc.length cap N W h hn hN
    have HR := Lib.hid hr
    clear CB
    go_enter Tryz.func7, Tryz.ntmps7
    go_wp2_with fail
    refine CB'.out.mono ?_; rintro e w' ⟨rfl, h0⟩
    have h1 := h0.symm
    clear h0
    subst h1
    go_wp2_with fail
    refine CD.out.mono ?_; rintro e w2 ⟨r, c, V, cv, l, rfl, hrb, hl, o2, HG⟩
    have rd2 := o2.rd'
    obtain ⟨_, hcv, hcv2⟩ := o2.caps
    have h_w2 := Below.size HG
    have CM := Lib.hid fun W h => (iMin_c r c V l l.length cv W rfl hcv hcv2 h (by omega)).mono fun _ _ h => minRet_out h
    have CT := Lib.hid fun W h => (sMin_c r c V l l.length cv W rfl hcv hcv2 h (by omega)).mono fun _ _ h => minRet_out h
    have HF := Lib.hid fun n (h : minO ⟨r, c, l⟩ = some n) => fmn_calls (V := V) hcv hcv2 (by omega) h
    have HCH := Lib.hid fun n u (h : minO ⟨r, c, l⟩ = some n) (hu : MixR r.toNat u) => fmn_change (u := u) h hu
    have CCB := Lib.hid fun (m : MX) Vm cm W (hm : m.l.length ≤ 576) h1 h2 => (iCB_c r c m.r m.c V Vm l m.l l.length m.l.length cv cm W rfl rfl h1 h2 (by omega) (by omega)).mono fun _ _ h => matRet_out h
    have HLX := Lib.hid fun (m : MX) => oM_length (o := cbO ⟨r, c, l⟩ m) fun m h => cbO_ok h
    generalize minO ⟨r, c, l⟩ = MO at *
    clear CD hr hc1 hc2 o2
    go_wp2_with fail
    refine (CM.out _ (by exact Rd.grows rd2 (by exact bel0))).mono ?_; rintro e w3 ⟨rfl, g_w3⟩
    have s_w3 := Below.size g_w3; (try simp at s_w3)
    replace rd2 := rd2.grows (w' := w3) (by exact bel1 g_w3)
    have mg : MBox w3 (w2.heap.size) r c (.slice V l.length cv) := MBox.grows (MBox.new_ w2 r c (.slice V l.length cv) 26 (by simp)) (w' := w3) (by exact bel1 g_w3)
    have mg_0 := mg.c0; have mg_1 := mg.c1; have mg_2 := mg.c2; have mg_l := mg.lt; have mg_f := mg.fz
    replace HG : Grows w w3 := by exact bel2 g_w3 HG
    have h_w3 := Below.size HG
    go_wp2_with fail
    refine (CT.out _ (by exact Rd.grows rd2 (by exact bel0))).mono ?_; rintro e w4 ⟨rfl, g_w4⟩
    have s_w4 := Below.size g_w4; (try simp at s_w4)
    replace rd2 := rd2.grows (w' := w4) (by exact bel1 g_w4)
    clear mg_0 mg_1 mg_2 mg_l mg_f
    replace mg := mg.grows (w' := w4) (by exact bel1 g_w4)
    have mg_0 := mg.c0; have mg_1 := mg.c1; have mg_2 := mg.c2; have mg_l := mg.lt; have mg_f := mg.fz
    replace HG : Grows w w4 := by exact bel2 g_w4 HG
    have h_w4 := Below.size HG
    clear CM CT
    cases MO with
    | none =>
      have e0 : oN (none : Option Int) = 0 := rfl
      go_wp2_with fail
      go_ret
      exact ⟨rfl, by exact bel1 HG⟩
    | some n =>
      obtain ⟨R, m, L, rfl, hR1, hR6, hLm, hm4, CS1, CK1, CV1⟩ := HF.out n rfl
      have CS := Lib.hid CS1
      have CK := Lib.hid CK1
      have CV := Lib.hid CV1
      have HL := Lib.hid hLm
      have HCN := Lib.hid fun u hu => HCH.out n u rfl hu
      have e0 : oN (some n) = n := rfl
      rw [Int.toNat_natCast] at HCN
      obtain ⟨N, hN⟩ : ∃ N, N = L.length := ⟨_, rfl⟩
      rw [← hN] at CS1 CK1 hLm
      have CS := Lib.hid CS1
      have CK := Lib.hid CK1
      have HN := Lib.hid hN
      have HNm := Lib.hid hLm
      clear HF HCH CS1 CK1 CV1 hLm hN
      go_wp2_with fail
      refine (CS.out _ (by exact Rd.grows rd2 (by exact bel0))).mono ?_; rintro e w5 ⟨A5, c5, rfl, hr5, g_w5⟩
      have s_w5 := Below.size g_w5; (try simp at s_w5)
      replace rd2 := rd2.grows (w' := w5) (by exact bel1 g_w5)
      clear mg_0 mg_1 mg_2 mg_l mg_f
      replace mg := mg.grows (w' := w5) (by exact bel1 g_w5)
      have mg_0 := mg.c0; have mg_1 := mg.c1; have mg_2 := mg.c2; have mg_l := mg.lt; have mg_f := mg.fz
      replace HG : Grows w w5 := by exact bel2 g_w5 HG
      have h_w5 := Below.size HG
      clear CS
      go_upto_region 11 with fail
      go_cut [10, 11] (fun s10 s11 wx => ∃ (gh : Nat) (H : MX) (Vh : Option Addr) (ch : Nat) (one : Bool), s10 = .pointer (some ⟨gh, 0, none⟩) ∧ s11 = .bool one ∧ RowKit.Hid (H.l.length ≤ 1048576) ∧ RowKit.Hid ((one && (minO H).isSome) = true → oN (minO H) = n) ∧ Own wx w5.heap.size (.slice Vh H.l.length ch) H.l ∧ MBox wx gh H.r H.c (.slice Vh H.l.length ch) ∧ Grows w5 wx)
      case first =>
        have HRW : CodeR w5 w5.heap.size A lc.length := HR.out.up HG
        have CXR := Lib.hid fun W h => CX.out R W h (by omega)
        go_region_held3 (fun W => W.cell? ⟨w2.heap.size, 0, none⟩ = some (.int .i64 R) ∧ W.cell? ⟨w2.heap.size, 1, none⟩ = some (.int .i64 c) ∧ W.cell? ⟨w2.heap.size, 2, none⟩ = some (.slice V l.length cv)) ((refine MBox.cells (mg.grows ?_); first | exact bel2 g9 g8 | exact bel1 g8 | exact bel0))
          (first
           | (go_at_call 42; refine (CXR.out _ (by exact HRW.up (by exact bel0))).mono ?_; rintro e w8 ⟨u, Vm, cm, rfl, hmx, om, g8⟩; have z8 := Below.size g8; (try simp at z8); have rdm := om.rd'; (try (have q := (MBox.mk_ w5 0 0 (.slice none 0 0) 26).grows (w' := w8) (Grows.trans (show Grows _ _ from (Below.refl _ _).drew) g8))))
           | (go_at_call 20; refine (CCB.out u Vm cm _ (hmx.len (by omega)) (by exact (Rd.grows rd2 (by exact bel1 g8))) (by exact (Rd.grows rdm (by exact bel0)))).mono ?_; rintro e w9 ⟨v9, rfl, ho9, g9⟩; obtain ⟨A9, c9, rfl, hr9, _⟩ := ho9.val; have z9 := Below.size g9; (try simp at z9); (first | (replace q := q.grows g9) | (have q := MBox.grows (MBox.mk_ w8 0 0 (.slice none 0 0) 26) g9) | skip); (try (obtain ⟨q0, q1, q2⟩ := q.cells; have qf := q.fz; have ql := q.lt))))
        all_goals
          go_wp2_with fail
          go_meet
          exact ⟨_, oM (cbO ⟨R, c, l⟩ u), _, _, _, rfl, rfl, Lib.hid (by have := HLX.out u; omega), Lib.hid (HCN.out u hmx), by (have hb_ := fun k hk => World.ownsRow.lt ho9 k hk; have ho_ := Own.less ho9 (show w5.heap.size ≤ _ by first | omega | (simp; done) | (simp; omega)); (repeat' (first | with_reducible exact ho_ | with_reducible refine Own.alloc ?_ _ | with_reducible refine Own.drew ?_ | with_reducible refine Own.far ?_ ?_ _)); all_goals first | (intro k hk; have := hb_ k hk; (try simp at this); (try simp); omega) | omega | (simp; done) | (simp; omega)), by first | exact MBox.put q _ _ _ | exact MBox.mk_ _ _ _ _ _ | exact MBox.put (MBox.mk_ _ _ _ _ _) _ _ _, by exact bel2 g9 g8⟩
      case rest =>
        obtain ⟨gh, H, Vh, ch, one, rfl, rfl, HLH, HC, oh, mh, hg6⟩ := hcut
        obtain ⟨w6, rfl⟩ : ∃ x : World, x = wc := ⟨_, rfl⟩
        clear HLX HCN CCB CX
        have s_w6 := Below.size hg6; (try simp at s_w6)
        replace rd2 := rd2.grows (w' := w6) (by exact bel1 hg6)
        clear mg_0 mg_1 mg_2 mg_l mg_f
        replace mg := mg.grows (w' := w6) (by exact bel1 hg6)
        have mg_0 := mg.c0; have mg_1 := mg.c1; have mg_2 := mg.c2; have mg_l := mg.lt; have mg_f := mg.fz
        replace hr5 := hr5.grows RSI.good (w' := w6) (by exact bel1 hg6)
        replace HG : Grows w w6 := by exact bel2 hg6 HG
        have h_w6 := Below.size HG
        have rdh := oh.rd'
        obtain ⟨_, hch, hch2⟩ := oh.caps
        have mh_0 := mh.c0; have mh_1 := mh.c1; have mh_2 := mh.c2; have mh_l := mh.lt; have mh_f := mh.fz
        have CH := Lib.hid fun W h => (iMin_c H.r H.c Vh H.l H.l.length ch W rfl hch hch2 h (by have := HLH.out; omega)).mono fun _ _ h => minRet_out h
        generalize minO H = MH at *
        clear oh
        go_wp2_with fail
        refine (CH.out _ (by exact Rd.grows rdh (by exact bel0))).mono ?_; rintro e w7 ⟨rfl, g_w7⟩
        have s_w7 := Below.size g_w7; (try simp at s_w7)
        replace rd2 := rd2.grows (w' := w7) (by exact bel1 g_w7)
        clear mg_0 mg_1 mg_2 mg_l mg_f
        replace mg := mg.grows (w' := w7) (by exact bel1 g_w7)
        have mg_0 := mg.c0; have mg_1 := mg.c1; have mg_2 := mg.c2; have mg_l := mg.lt; have mg_f := mg.fz
        replace hr5 := hr5.grows RSI.good (w' := w7) (by exact bel1 g_w7)
        replace rdh := rdh.grows (w' := w7) (by exact bel1 g_w7)
        clear mh_0 mh_1 mh_2 mh_l mh_f
        replace mh := mh.grows (w' := w7) (by exact bel1 g_w7)
        have mh_0 := mh.c0; have mh_1 := mh.c1; have mh_2 := mh.c2; have mh_l := mh.lt; have mh_f := mh.fz
        replace HG : Grows w w7 := by exact bel2 g_w7 HG
        have h_w7 := Below.size HG
        go_wp2_with fail
        refine (CK.out _ (by exact Rd.grows rd2 (by exact bel0))).mono ?_; rintro e w8 ⟨rfl, g_w8⟩
        have s_w8 := Below.size g_w8; (try simp at s_w8)
        replace rd2 := rd2.grows (w' := w8) (by exact bel1 g_w8)
        clear mg_0 mg_1 mg_2 mg_l mg_f
        replace mg := mg.grows (w' := w8) (by exact bel1 g_w8)
        have mg_0 := mg.c0; have mg_1 := mg.c1; have mg_2 := mg.c2; have mg_l := mg.lt; have mg_f := mg.fz
        replace hr5 := hr5.grows RSI.good (w' := w8) (by exact bel1 g_w8)
        replace rdh := rdh.grows (w' := w8) (by exact bel1 g_w8)
        clear mh_0 mh_1 mh_2 mh_l mh_f
        replace mh := mh.grows (w' := w8) (by exact bel1 g_w8)
        have mh_0 := mh.c0; have mh_1 := mh.c1; have mh_2 := mh.c2; have mh_l := mh.lt; have mh_f := mh.fz
        replace HG : Grows w w8 := by exact bel2 g_w8 HG
        have h_w8 := Below.size HG
        clear CH CK
        have hmL : m < L.length := by have := HL.out; omega
        have hN1 := HNm.out
        obtain ⟨b8, o8, u8, rfl, hb8, hc8, A6, c6, rfl, hr6, _⟩ := hr5.at_ m hmL
        obtain ⟨hv6, CVV⟩ := CV.out _ (List.getElem_mem hmL)
        generalize L[m] = v at *
        have CW' := Lib.hid fun W h h' => CVV W A6 c6 h h'
        have i1 : (m : Int) < (N : Int) := by omega
        have i2 : IntKind.i64.wrap ((N : Int) - 1) = (m : Int) := by rw [IntWalk.i64_in _ (by omega)]; omega
        have i3 : IntKind.i64.wrap (2 * (N : Int)) = 2 * (N : Int) := IntWalk.i64_in _ (by omega)
        have i4 : ¬ (N : Int) = 0 := by omega
        have i5 : m < N := by omega
        have x0 := mg.ext.1; have x1 := mg.ext.2.1; have x2 := mg.ext.2.2; have x3 := ext_is hc8
        clear CV CVV hr5 mg_0 mg_1 mg_2 mg_l mg_f mh_0 mh_1 mh_2 mh_l mh_f mh rdh hN1 HL HNm HN
        go_wp2_with fail
        ((refine wp_region_ext (by kernel_rfl) (by kernel_rfl) ?_); (repeat (go_big_quiet_step ((go_at_call 15; with_reducible exact extC (CW'.out _ (Rd.ext rd2 _) (Rd.ext hr6 _)))))); refine wpQuiet_nil ?_; rintro w9 ⟨w90, hw90⟩; have g9 := grows_of_ext hw90; clear hw90 w90)
        have HC' := HC.out
        clear HC
        cases one
        · clear HC'
          go_wp2_with fail
          go_ret
          exact ⟨by simp, by exact bel2 g9 HG⟩
        · cases MH with
          | none =>
            clear HC'
            go_wp2_with fail
            go_ret
            exact ⟨by simp, by exact bel2 g9 HG⟩
          | some x =>
            obtain rfl : x = n := HC' rfl
            clear HC'
            go_wp2_with fail
            go_ret
            exact ⟨by simp, by exact bel2 g9 HG⟩
end
end Go.Proofs.YtfilbjbogggaoaaGreat


namespace Go.Proofs.YtfilbjbogggaoaaGreat
set_option linter.unusedSimpArgs false
set_option linter.unusedVariables false
open Go.ChangeShapes Go.WideShapes Go.ChangeAt Go.RowKit Go.Joins
set_option linter.unusedVariables false

set_option maxRecDepth 100000 in
theorem fnMinimum_lifted (os : Os) (started : os.Started) (H : Type) (enc : TypeId × Value → H) :
    ReturnsInHanded {} Tryz.checked os 7 .any (Rows.fnMinimumSpec.pre6 enc Tryz.prog Tryz.f7 Rows.fnMinimumRow.domain false) (Rows.fnMinimumSpec.post enc Tryz.prog Tryz.f7 false true false false) := by
  refine returnsInHanded_of_change (C := Tryz.checked) own started (by kernel_rfl) Tryz.func7
    (ChangeSpec.witness6 (enc := enc) (C := Tryz.checked) false ⟨#[], #[.slice none 0 0], []⟩ 8 (by kernel_rfl) (by kernel_rfl) (by kernel_rfl) (by kernel_rfl)) ?_
  intro W base args ds gs before hval0 hW hcnd _
  have hval : ∀ (j : Nat) t v, Tryz.f7.params[j]? = some t → args[j]? = some v → Value.okWide Tryz.prog W .any base t v := hval0
  have hW' := hW
  obtain ⟨p, q, hA0, hV, rfl, hfz, hnd⟩ := hW
  have hA : DataW.TrodAll enc Tryz.prog W 0 (fun _ => true) true Tryz.f7.params.toList args.toList ds p := hA0
  rw [Tryz.params7] at hA hval
  obtain ⟨v0, vs0, d0, ds0, p0, q0, hargs, rfl, rfl, h0, r0⟩ := trodAll_cons hA
  obtain ⟨rfl, rfl, rfl⟩ := trodAll_nil r0
  obtain rfl : args = #[v0] := by cases args; simp_all
  obtain ⟨rfl, rfl⟩ := trodVars_none hV
  have k0 := h0
  have lt0 : ∀ x ∈ p0, x.block < W.heap.size := by obtain ⟨m, hm⟩ := k0; exact DataW.trod_lt m _ _ _ hm
  obtain ⟨a00, len0, cap0, rfl⟩ := okWide_slice Tryz.underlying22 (hval 0 22 v0 rfl rfl)
  obtain ⟨A0, l0, c0, e0, ir0⟩ : ∃ A l c, Value.slice a00 len0 cap0 = .slice A (List.length l) c ∧ InCode W A l c := by obtain ⟨fuel, hf⟩ := h0; simp only [Value.cells] at hf; exact open_code hf
  rw [e0] at hval hW' k0 ⊢
  clear hA0 hval0
  refine (lawFmn_c A0 l0 c0 W ir0).mono fun e W' ⟨he, bel⟩ => ?_
  subst he
  exact ⟨_, rfl, _, _, _, [], _, [], hW', trodAll_mk1 (shut_bool Tryz.underlying4 _), (trodAll_cons_mk (Below.trod laidOut (by kernel_rfl) (of_decide_eq_true (by kernel_rfl)) k0 bel lt0) trodAll_mk0), rfl, bel.frame _, fun h => by cases h⟩

theorem fnMinimum_closed : joinedFacts Tryz.pinned.checked.prog 7 Tryz.f7 Rows.fnMinimumSpec Rows.fnMinimumRow = true := by
  unfold joinedFacts
  rw [fLaid, fRowed, fStops, fEnter, fLift, fMake]
  change _ = true
  kernel_rfl
/-- The statement. -/
theorem fnMinimum_holds : Rows.FnMinimumSaid :=
  OpenClaim.holds_of_wide 7 Tryz.f7 rfl rfl rfl rfl rfl rfl rfl ⟨rfl, rfl, rfl, rfl, rfl⟩ rfl rfl rfl rfl rfl (by kernel_rfl) Tryz.func7 fnMinimum_closed
    (of_decide_eq_true (by kernel_rfl)) (by unfold Func.isWrapper; first | (rw [if_pos (by decide +kernel)]; kernel_rfl) | (rw [if_neg (by decide +kernel)]; exact ⟨rfl, rfl⟩))
    (fun os started H enc _ => fnMinimum_lifted os started H enc)
end Go.Proofs.YtfilbjbogggaoaaGreat
