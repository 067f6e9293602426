/- Contracts and lemmas, put together. -/
import Derived.Deep.CutBlock
import Derived.Deep.DeepCutAuto
import Derived.Test.YthajmffhgbenpaaPkGh
import Derived.Test.YthajmffhgbenpaaPkH
/- The program's Hermite form: small lemmas, a block of a text. -/
namespace Go.Proofs.Ythajmffhgbenpaa
set_option linter.unusedSimpArgs false
set_option linter.unusedVariables false
open Go.RowKit

theorem WBox.drew_ {w : World} {b : Nat} {R C : Int} {A U V : Value} {bd : Bool} (h : WBox w b R C A U V bd) : WBox w.drew b R C A U V bd := h.grows (by exact bel0)
theorem WBox.far {w : World} {b : Nat} {R C : Int} {A U V : Value} {bd : Bool} (h : WBox w b R C A U V bd) {p : Addr} (hne : b ≠ p.block) (u : Value) : WBox (w.setCell p u) b R C A U V bd :=
  h.of_block (Below.heap_setCell _ _ _ _ hne) (by simp [World.setCell])
theorem wk6 {w : World} {b : Nat} {R C : Int} {A U V : Value} {bd : Bool} (h : WBox w b R C A U V bd) : w.cell? ⟨b, 0, none⟩ = some (.int .i64 R) ∧ w.cell? ⟨b, 1, none⟩ = some (.int .i64 C) ∧ w.cell? ⟨b, 2, none⟩ = some A ∧ w.cell? ⟨b, 3, none⟩ = some (.int .i64 R) ∧ w.cell? ⟨b, 4, none⟩ = some (.int .i64 R) ∧ w.cell? ⟨b, 5, none⟩ = some U := ⟨h.c0, h.c1, h.c2, h.c3, h.c4, h.c5⟩
theorem elimF_none {R C t j p k k' : Nat} {s : LL} (h : elimF R C t j p s k = none) (hk : k ≤ k') : elimF R C t j p s k' = none := by
  induction k' with
  | zero => rw [show k = 0 by omega] at h; exact h
  | succ k' ih =>
    by_cases e : k = k' + 1
    · rw [← e]; exact h
    · rw [elimF, ih (by omega)]; rfl
theorem upF_none {R C t j k k' : Nat} {s : LL} (h : upF R C t j s k = none) (hk : k ≤ k') : upF R C t j s k' = none := by
  induction k' with
  | zero => rw [show k = 0 by omega] at h; exact h
  | succ k' ih =>
    by_cases e : k = k' + 1
    · rw [← e]; exact h
    · rw [upF, ih (by omega)]; rfl
theorem elimE_skip {R C t j p i : Nat} {s z : LL} (hi : t ≤ i) (h : some z = elimF R C t j p s (i - t)) (hc : i = p ∨ nth z.1 (i * C + j) = 0) : some z = elimF R C t j p s (i + 1 - t) := by
  rw [sub_up hi, elimF, ← h, show t + (i - t) = i by omega]
  simp only [Option.bind_some]
  rw [if_pos hc]
theorem elimE_next {R C t j p i : Nat} {s z : LL} (hi : t ≤ i) (h : some z = elimF R C t j p s (i - t)) (h1 : i ≠ p) (h2 : nth z.1 (i * C + j) ≠ 0) : addS R C i p (-(nth z.1 (i * C + j) / nth z.1 (p * C + j))) z = elimF R C t j p s (i + 1 - t) := by
  rw [sub_up hi, elimF, ← h, show t + (i - t) = i by omega]
  simp only [Option.bind_some]
  rw [if_neg (not_or.2 ⟨h1, h2⟩)]

/-- The block of number k in a text. -/
def blockOf (k : Nat) : Code → Option Code
  | .seq a b => (blockOf k a).orElse fun _ => blockOf k b
  | .cond _ a b => (blockOf k a).orElse fun _ => blockOf k b
  | .block i c => if i = k then some (.block i c) else blockOf k c
  | .loop c => blockOf k c
  | _ => none

end Go.Proofs.Ythajmffhgbenpaa

/- The program's Hermite form: a column's rows, once. -/
namespace Go.Proofs.Ythajmffhgbenpaa
set_option linter.unusedSimpArgs false
set_option linter.unusedVariables false
open Go.RowKit

section
set_option maxHeartbeats 20000000
set_option maxRecDepth 100000
theorem blk4_c {u0 u2 u3 u4 u10 u11 u12 u13 u14 u15 u16 u17 u18 u19 u20 u21 u22 u23 u24 u25 u26 u27 u28 u29 u30 u31 u32 u33 u34 u35 u36 u37 u38 u39 u40 u41 u42 u43 u44 u45 u46 u47 u48 u49 u50 u51 u52 u53 u54 u55 u56 u57 u58 u59 u60 u61 u62 u63 u64 u65 u66 u67 u68 u69 u70 u71 u72 u73 u74 u75 u76 u77 u78 u79 u80 u81 u82 u83 u84 u85 u86 u87 u88 u89 u90 u91 u92 u93 u94 u95 u96 u97 u98 u99 u100 u101 u102 u103 u104 u105 u106 u107 u108 u109 u110 u111 u112 u113 u114 u115 u116 u117 u118 u119 u120 u121 u122 u123 u124 u125 u126 u127 u128 u129 u130 u131 u132 u133 u134 u135 u136 u137 u138 u139 u140 u141 u142 u143 u144 u145 u146 u147 u148 u149 u150 u151 u152 u153 u154 u155 u156 u157 u158 u159 u160 u161 u162 u163 u164 u165 u166 u167 u168 u169 u170 u171 u172 u173 u174 u175 u176 u177 u178 u179 u180 u181 u182 u183 u184 u185 u186 u187 u188 u189 u190 u191 u192 u193 u194 u195 u196 u197 u198 u199 : Value} {m b R C n T J : Nat} {A A' U V : Option Addr} {cap ca cu cv : Nat} {P : Nat} {y : LL} {w2 w : World} {Q : Exit → Act → World → Prop} {J' K' : Act → World → Prop}
    (MG : RowKit.Hid (∀ wr, Below w2.heap.size w2 wr → MBox wr m (R : Int) (C : Int) (.slice A n cap))) (HNR : RowKit.Hid (n = R * C)) (hR : R ≤ 24) (hC : C ≤ 24) (hT : T < R) (hlt : J < C)
    (hPT : T ≤ P) (hPR : P < R) (HO : RowKit.Hid (Ok2 R C y)) (HLS : RowKit.Hid (Lst R C T J P y.1)) (hst : WkO w w2.heap.size b R C n (R * R) (C * C) A' U V ca cu cv (some y) (idL C)) (hb : Below w2.heap.size w2 w)
    (hJ : ∀ a' w', (∃ (x9 x10 x11 x12 x62 x63 x64 x65 x66 x67 x68 x69 x70 x71 x72 x73 x74 x75 x76 x77 x78 x79 x80 x81 x82 x83 x84 x85 x86 x87 x88 x89 x90 x91 x92 x93 x94 x95 x96 x97 x98 x99 x100 x101 x102 x103 x104 x105 x106 x107 x108 x109 x110 x111 x112 : Value), (∃ st : Option LL, RowKit.Hid (st = elimF R C T J P y (R - T)) ∧ WkO w' w2.heap.size b R C n (R * R) (C * C) A' U V ca cu cv st (idL C) ∧ Below w2.heap.size w2 w') ∧ a' = (⟨List.toArray (u0 :: Value.pointer (some ⟨m, 0, none⟩) :: u2 :: u3 :: u4 :: Value.pointer (some ⟨b, 0, none⟩) :: Value.int .i64 (T : Nat) :: Value.int .i64 (J : Nat) :: Value.int .i64 (P : Nat) :: x9 :: x10 :: x11 :: x12 :: u13 :: u14 :: u15 :: u16 :: u17 :: u18 :: u19 :: u20 :: u21 :: u22 :: u23 :: u24 :: u25 :: u26 :: u27 :: u28 :: u29 :: u30 :: u31 :: u32 :: u33 :: u34 :: u35 :: u36 :: u37 :: u38 :: u39 :: u40 :: u41 :: u42 :: u43 :: u44 :: u45 :: u46 :: u47 :: u48 :: u49 :: u50 :: u51 :: u52 :: u53 :: u54 :: u55 :: u56 :: u57 :: u58 :: u59 :: u60 :: u61 :: x62 :: x63 :: x64 :: x65 :: x66 :: x67 :: x68 :: x69 :: x70 :: x71 :: x72 :: x73 :: x74 :: x75 :: x76 :: x77 :: x78 :: x79 :: x80 :: x81 :: x82 :: x83 :: x84 :: x85 :: x86 :: x87 :: x88 :: x89 :: x90 :: x91 :: x92 :: x93 :: x94 :: x95 :: x96 :: x97 :: x98 :: x99 :: x100 :: x101 :: x102 :: x103 :: x104 :: x105 :: x106 :: x107 :: x108 :: x109 :: x110 :: x111 :: x112 :: u113 :: u114 :: u115 :: u116 :: u117 :: u118 :: u119 :: u120 :: u121 :: u122 :: u123 :: u124 :: u125 :: u126 :: u127 :: u128 :: u129 :: u130 :: u131 :: u132 :: u133 :: u134 :: u135 :: u136 :: u137 :: u138 :: u139 :: u140 :: u141 :: u142 :: u143 :: u144 :: u145 :: u146 :: u147 :: u148 :: u149 :: u150 :: u151 :: u152 :: u153 :: u154 :: u155 :: u156 :: u157 :: u158 :: u159 :: u160 :: u161 :: u162 :: u163 :: u164 :: u165 :: u166 :: u167 :: u168 :: u169 :: u170 :: u171 :: u172 :: u173 :: u174 :: u175 :: u176 :: u177 :: u178 :: u179 :: u180 :: u181 :: u182 :: u183 :: u184 :: u185 :: u186 :: u187 :: u188 :: u189 :: u190 :: u191 :: u192 :: u193 :: u194 :: u195 :: u196 :: u197 :: u198 :: u199 :: []), []⟩ : Act)) → J' a' w') (hK : ∀ a' w', Met J' a' w' → K' a' w') :
    Code.wp Try.prog ((blockOf 4 (Try.f31.body.getD .skip)).getD .skip) (Exit.then K' Q) ⟨List.toArray (u0 :: Value.pointer (some ⟨m, 0, none⟩) :: u2 :: u3 :: u4 :: Value.pointer (some ⟨b, 0, none⟩) :: Value.int .i64 (T : Nat) :: Value.int .i64 (J : Nat) :: Value.int .i64 (P : Nat) :: Value.int .i64 (T : Nat) :: u10 :: u11 :: u12 :: u13 :: u14 :: u15 :: u16 :: u17 :: u18 :: u19 :: u20 :: u21 :: u22 :: u23 :: u24 :: u25 :: u26 :: u27 :: u28 :: u29 :: u30 :: u31 :: u32 :: u33 :: u34 :: u35 :: u36 :: u37 :: u38 :: u39 :: u40 :: u41 :: u42 :: u43 :: u44 :: u45 :: u46 :: u47 :: u48 :: u49 :: u50 :: u51 :: u52 :: u53 :: u54 :: u55 :: u56 :: u57 :: u58 :: u59 :: u60 :: u61 :: u62 :: u63 :: u64 :: u65 :: u66 :: u67 :: u68 :: u69 :: u70 :: u71 :: u72 :: u73 :: u74 :: u75 :: u76 :: u77 :: u78 :: u79 :: u80 :: u81 :: u82 :: u83 :: u84 :: u85 :: u86 :: u87 :: u88 :: u89 :: u90 :: u91 :: u92 :: u93 :: u94 :: u95 :: u96 :: u97 :: u98 :: u99 :: u100 :: u101 :: u102 :: u103 :: u104 :: u105 :: u106 :: u107 :: u108 :: u109 :: u110 :: u111 :: u112 :: u113 :: u114 :: u115 :: u116 :: u117 :: u118 :: u119 :: u120 :: u121 :: u122 :: u123 :: u124 :: u125 :: u126 :: u127 :: u128 :: u129 :: u130 :: u131 :: u132 :: u133 :: u134 :: u135 :: u136 :: u137 :: u138 :: u139 :: u140 :: u141 :: u142 :: u143 :: u144 :: u145 :: u146 :: u147 :: u148 :: u149 :: u150 :: u151 :: u152 :: u153 :: u154 :: u155 :: u156 :: u157 :: u158 :: u159 :: u160 :: u161 :: u162 :: u163 :: u164 :: u165 :: u166 :: u167 :: u168 :: u169 :: u170 :: u171 :: u172 :: u173 :: u174 :: u175 :: u176 :: u177 :: u178 :: u179 :: u180 :: u181 :: u182 :: u183 :: u184 :: u185 :: u186 :: u187 :: u188 :: u189 :: u190 :: u191 :: u192 :: u193 :: u194 :: u195 :: u196 :: u197 :: u198 :: u199 :: []), []⟩ w := by
  conv => arg 2; whnf
  have hRC : R * C ≤ 576 := Nat.mul_le_mul hR hC
  have HIC := Lib.hid fun i (hi : i < R) => (show i * C ≤ 576 from by have := Nat.mul_le_mul_right C (Nat.le_of_lt hi); omega)
  have CC := Lib.hid fun (z : LL) (ok : Ok2 R C z) (i J : Nat) (hi : i < R) (hJ : J < C) W h => at_c R C A' z.1 n ca i J W (ok.l1.trans HNR.out.symm) h (castMul i C) (by have := castMulLe (HIC.out i hi); omega) (castPos i C J) (castLt (by rw [ok.l1]; exact idx_lt hi hJ)) (by rw [ok.l1]; omega)
  have CD := Lib.hid fun x y W h1 h2 h3 => iDivF_c x y W h1 h2 h3
  have CO := Lib.hid fun i j t (z : LL) W ok hi hj hij ht h => addW_c R C n (R * R) (C * C) w2.heap.size b i j t A' U V ca cu cv z (idL C) W HNR.out rfl hR hC ok hi hj hij ht h
  go_wp2_with fail
  go_loopw [9] (fun i wr => ∃ (K : Nat) (st : Option LL), i = .int .i64 K ∧ T ≤ K ∧ K ≤ R ∧ RowKit.Hid (st = elimF R C T J P y (K - T)) ∧ WkO wr w2.heap.size b R C n (R * R) (C * C) A' U V ca cu cv st (idL C) ∧ Below w2.heap.size w2 wr) (fun i _ => R - (intOf i).toNat)
  case atStart => exact ⟨T, some y, rfl, Nat.le_refl _, by omega, Lib.hid (by rw [Nat.sub_self]; rfl), hst, hb⟩
  case round =>
    clear hst hb
    obtain ⟨K, st, rfl, hTK, hK, HE, hst, hb⟩ := hrel
    obtain ⟨a0, a1, a2⟩ := (MG.out wr hb).cells
    cases st with
    | none =>
      obtain ⟨na, nu, wk⟩ := hst.none
      obtain ⟨b0, b1, b2, b3, b4, b5, b6, b7, b8, b9⟩ := wk.bx.cells
      have HN := Lib.hid (show none = elimF R C T J P y (R - T) from (elimF_none HE.out.symm (by omega)).symm)
      by_cases hKR : K < R
      · have hKR' : (K : Int) < (R : Int) := by omega
        go_wp2_with fail
        go_meet
        exact ⟨none, HN, hst, hb⟩
      · have hKR' : ¬ (K : Int) < (R : Int) := by omega
        go_wp2_with fail
        go_meet
        exact ⟨none, HN, hst, hb⟩
    | some z =>
      have wk := hst.some
      obtain ⟨b0, b1, b2, b3, b4, b5, b6, b7, b8, b9⟩ := wk.bx.cells
      have EI1 := elimF_EI HO.out HLS.out.lo HLS.out.hi hlt HLS.out.ne (by omega) HE.out.symm
      have hokz := Lib.hid EI1.ok
      have hpz : nth z.1 (P * C + J) ≠ 0 := by rw [EI1.same P J hPR hlt (.inr (.inr rfl))]; exact HLS.out.ne
      by_cases hKR : K < R
      · have hKR' : (K : Int) < (R : Int) := by omega
        by_cases hKP : K = P
        · have e1 : ((K : Int) != (P : Int)) = false := by rw [bne_eq_false_iff_eq]; omega
          have HE' := Lib.hid (elimE_skip hTK HE.out (.inl hKP))
          clear hKP EI1 hpz
          go_wp2_with fail
          go_round
          case rel => exact ⟨K + 1, some z, by go_num, by omega, by omega, HE', hst, hb⟩
          case measure => simp [intOf]; omega
        · have e1 : ((K : Int) != (P : Int)) = true := by rw [bne_iff_ne]; omega
          have C2 := fun W h => CC.out z hokz.out K J hKR hlt W h
          rw [castIdx] at C2
          by_cases hz : nth z.1 (K * C + J) = 0
          · have HE' := Lib.hid (elimE_skip hTK HE.out (.inr hz))
            rw [hz] at C2
            have C2' := Lib.hid C2
            clear hKP hz C2 EI1 hpz
            go_wp2_with fail
            refine (C2'.out _ (wk.oa.rd')).mono ?_; rintro e w5 ⟨rfl, g5⟩
            have hb5 : Below w2.heap.size w2 w5 := by exact bel2 g5 hb
            go_wp2_with fail
            go_round
            case rel => exact ⟨K + 1, some z, by go_num, by omega, by omega, HE', hst.grows g5, hb5⟩
            case measure => simp [intOf]; omega
          · have hz' : (nth z.1 (K * C + J) != 0) = true := by simpa using hz
            have hn1 := (allNum_iff _).1 EI1.ok.n1 (K * C + J) (by rw [EI1.ok.l1]; exact idx_lt hKR hlt)
            have hn2 := (allNum_iff _).1 EI1.ok.n1 (P * C + J) (by rw [EI1.ok.l1]; exact idx_lt hPR hlt)
            have C3 := fun W h => CC.out z hokz.out P J hPR hlt W h
            rw [castIdx] at C3
            have CDV := fun W => CD.out (nth z.1 (K * C + J)) (nth z.1 (P * C + J)) W hn1 hn2 hpz
            have hq := (isNum_iff _).1 (flQ_num (n := nth z.1 (K * C + J)) (d := nth z.1 (P * C + J)))
            rw [flQ_yes hn1 hn2 hpz] at hq
            have CO1 := fun W h => CO.out K P (-(nth z.1 (K * C + J) / nth z.1 (P * C + J))) z W hokz.out hKR hPR hKP (by rw [isNum_iff]; omega) h
            have HE' := Lib.hid (elimE_next hTK HE.out hKP hz)
            have C2' := Lib.hid C2
            have C3' := Lib.hid C3
            clear hKP hz C2 C3 EI1 hpz hn1 hn2
            generalize nth z.1 (K * C + J) / nth z.1 (P * C + J) = q at *
            generalize nth z.1 (K * C + J) % nth z.1 (P * C + J) = q1 at *
            generalize nth z.1 (K * C + J) = c1 at *
            generalize nth z.1 (P * C + J) = c2 at *
            have CDV' := Lib.hid CDV
            have CO1' := Lib.hid CO1
            clear CDV CO1
            go_wp2_with fail
            refine (C2'.out _ (wk.oa.rd')).mono ?_; rintro e w5 ⟨rfl, g5⟩
            replace hst := hst.grows g5
            replace hb : Below w2.heap.size w2 w5 := by exact bel2 g5 hb
            clear b0 b1 b2 b3 b4 b5 b6 b7 b8 b9 wk a0 a1 a2 g5
            have wk := hst.some
            have hrd := wk.oa.rd'
            obtain ⟨d0, d1, d2, d9⟩ := wk.bx.ext
            go_wp2_with fail
            ((refine wp_region_ext (by kernel_rfl) (by kernel_rfl) ?_); (repeat (go_big_quiet_step ((first | (go_at_call 62; with_reducible exact extC (C2'.out _ (Rd.ext hrd _))) | (go_at_call 62; with_reducible exact extC (C3'.out _ (Rd.ext hrd _))) | (go_at_call 70; with_reducible exact extC (CDV'.out _)))))); refine wpQuiet_nil ?_; rintro w6 ⟨w60, hw60⟩; have g6 := grows_of_ext hw60; clear hw60 w60)
            have hst6 := hst.grows g6
            have hb6 : Below w2.heap.size w2 w6 := by exact bel2 g6 hb
            clear d0 d1 d2 d9 hrd
            go_wp2_with fail
            refine (CO1'.out _ hst6).mono ?_; rintro e w7 ⟨rfl, hst7, hb7⟩
            have hb8 : Below w2.heap.size w2 w7 := by exact bel2 hb7 hb6
            clear hb7
            go_wp2_with fail
            go_round
            case rel => exact ⟨K + 1, _, by go_num, by omega, by omega, HE', hst7, hb8⟩
            case measure => simp [intOf]; omega
      · have eK : K = R := by omega
        have HE2 := Lib.hid (show some z = elimF R C T J P y (R - T) by have h := HE.out; rw [eK] at h; exact h)
        have hKR' : ¬ (K : Int) < (R : Int) := by omega
        clear EI1 hpz eK
        go_wp2_with fail
        go_meet
        exact ⟨some z, HE2, hst, hb⟩
end
end Go.Proofs.Ythajmffhgbenpaa

/- The program's Hermite form: the rows above. -/
namespace Go.Proofs.Ythajmffhgbenpaa
set_option linter.unusedSimpArgs false
set_option linter.unusedVariables false
open Go.RowKit

section
set_option maxHeartbeats 20000000
set_option maxRecDepth 100000
theorem blk6_c {u0 u2 u3 u4 u8 u9 u10 u11 u12 u14 u15 u16 u17 u18 u19 u20 u21 u22 u23 u24 u25 u26 u27 u28 u29 u30 u31 u32 u33 u34 u35 u36 u37 u38 u39 u40 u41 u42 u43 u44 u45 u46 u47 u48 u49 u50 u51 u52 u53 u54 u55 u56 u57 u58 u59 u60 u61 u62 u63 u64 u65 u66 u67 u68 u69 u70 u71 u72 u73 u74 u75 u76 u77 u78 u79 u80 u81 u82 u83 u84 u85 u86 u87 u88 u89 u90 u91 u92 u93 u94 u95 u96 u97 u98 u99 u100 u101 u102 u103 u104 u105 u106 u107 u108 u109 u110 u111 u112 u113 u114 u115 u116 u117 u118 u119 u120 u121 u122 u123 u124 u125 u126 u127 u128 u129 u130 u131 u132 u133 u134 u135 u136 u137 u138 u139 u140 u141 u142 u143 u144 u145 u146 u147 u148 u149 u150 u151 u152 u153 u154 u155 u156 u157 u158 u159 u160 u161 u162 u163 u164 u165 u166 u167 u168 u169 u170 u171 u172 u173 u174 u175 u176 u177 u178 u179 u180 u181 u182 u183 u184 u185 u186 u187 u188 u189 u190 u191 u192 u193 u194 u195 u196 u197 u198 u199 : Value} {m b R C n T J : Nat} {A A' U V : Option Addr} {cap ca cu cv : Nat} {y2 : LL} {w2 w : World} {Q : Exit → Act → World → Prop} {J' K' : Act → World → Prop}
    (MG : RowKit.Hid (∀ wr, Below w2.heap.size w2 wr → MBox wr m (R : Int) (C : Int) (.slice A n cap))) (HNR : RowKit.Hid (n = R * C)) (hR : R ≤ 24) (hC : C ≤ 24) (hT : T < R) (hlt : J < C)
    (HO2 : RowKit.Hid (Ok2 R C y2)) (HN2 : RowKit.Hid (nth y2.1 (T * C + J) ≠ 0)) (hst : WkO w w2.heap.size b R C n (R * R) (C * C) A' U V ca cu cv (some y2) (idL C)) (hb : Below w2.heap.size w2 w)
    (hJ : ∀ a' w', (∃ (x13 x14 x15 x16 x147 x148 x149 x150 x151 x152 x153 x154 x155 x156 x157 x158 x159 x160 x161 x162 x163 x164 x165 x166 x167 x168 x169 x170 x171 x172 x173 x174 x175 x176 x177 x178 x179 x180 x181 x182 x183 : Value), (∃ st : Option LL, RowKit.Hid (st = upF R C T J y2 T) ∧ WkO w' w2.heap.size b R C n (R * R) (C * C) A' U V ca cu cv st (idL C) ∧ Below w2.heap.size w2 w') ∧ a' = (⟨List.toArray (u0 :: Value.pointer (some ⟨m, 0, none⟩) :: u2 :: u3 :: u4 :: Value.pointer (some ⟨b, 0, none⟩) :: Value.int .i64 (T : Nat) :: Value.int .i64 (J : Nat) :: u8 :: u9 :: u10 :: u11 :: u12 :: x13 :: x14 :: x15 :: x16 :: u17 :: u18 :: u19 :: u20 :: u21 :: u22 :: u23 :: u24 :: u25 :: u26 :: u27 :: u28 :: u29 :: u30 :: u31 :: u32 :: u33 :: u34 :: u35 :: u36 :: u37 :: u38 :: u39 :: u40 :: u41 :: u42 :: u43 :: u44 :: u45 :: u46 :: u47 :: u48 :: u49 :: u50 :: u51 :: u52 :: u53 :: u54 :: u55 :: u56 :: u57 :: u58 :: u59 :: u60 :: u61 :: u62 :: u63 :: u64 :: u65 :: u66 :: u67 :: u68 :: u69 :: u70 :: u71 :: u72 :: u73 :: u74 :: u75 :: u76 :: u77 :: u78 :: u79 :: u80 :: u81 :: u82 :: u83 :: u84 :: u85 :: u86 :: u87 :: u88 :: u89 :: u90 :: u91 :: u92 :: u93 :: u94 :: u95 :: u96 :: u97 :: u98 :: u99 :: u100 :: u101 :: u102 :: u103 :: u104 :: u105 :: u106 :: u107 :: u108 :: u109 :: u110 :: u111 :: u112 :: u113 :: u114 :: u115 :: u116 :: u117 :: u118 :: u119 :: u120 :: u121 :: u122 :: u123 :: u124 :: u125 :: u126 :: u127 :: u128 :: u129 :: u130 :: u131 :: u132 :: u133 :: u134 :: u135 :: u136 :: u137 :: u138 :: u139 :: u140 :: u141 :: u142 :: u143 :: u144 :: u145 :: u146 :: x147 :: x148 :: x149 :: x150 :: x151 :: x152 :: x153 :: x154 :: x155 :: x156 :: x157 :: x158 :: x159 :: x160 :: x161 :: x162 :: x163 :: x164 :: x165 :: x166 :: x167 :: x168 :: x169 :: x170 :: x171 :: x172 :: x173 :: x174 :: x175 :: x176 :: x177 :: x178 :: x179 :: x180 :: x181 :: x182 :: x183 :: u184 :: u185 :: u186 :: u187 :: u188 :: u189 :: u190 :: u191 :: u192 :: u193 :: u194 :: u195 :: u196 :: u197 :: u198 :: u199 :: []), []⟩ : Act)) → J' a' w') (hK : ∀ a' w', Met J' a' w' → K' a' w') :
    Code.wp Try.prog ((blockOf 6 (Try.f31.body.getD .skip)).getD .skip) (Exit.then K' Q) ⟨List.toArray (u0 :: Value.pointer (some ⟨m, 0, none⟩) :: u2 :: u3 :: u4 :: Value.pointer (some ⟨b, 0, none⟩) :: Value.int .i64 (T : Nat) :: Value.int .i64 (J : Nat) :: u8 :: u9 :: u10 :: u11 :: u12 :: Value.int .i64 0 :: u14 :: u15 :: u16 :: u17 :: u18 :: u19 :: u20 :: u21 :: u22 :: u23 :: u24 :: u25 :: u26 :: u27 :: u28 :: u29 :: u30 :: u31 :: u32 :: u33 :: u34 :: u35 :: u36 :: u37 :: u38 :: u39 :: u40 :: u41 :: u42 :: u43 :: u44 :: u45 :: u46 :: u47 :: u48 :: u49 :: u50 :: u51 :: u52 :: u53 :: u54 :: u55 :: u56 :: u57 :: u58 :: u59 :: u60 :: u61 :: u62 :: u63 :: u64 :: u65 :: u66 :: u67 :: u68 :: u69 :: u70 :: u71 :: u72 :: u73 :: u74 :: u75 :: u76 :: u77 :: u78 :: u79 :: u80 :: u81 :: u82 :: u83 :: u84 :: u85 :: u86 :: u87 :: u88 :: u89 :: u90 :: u91 :: u92 :: u93 :: u94 :: u95 :: u96 :: u97 :: u98 :: u99 :: u100 :: u101 :: u102 :: u103 :: u104 :: u105 :: u106 :: u107 :: u108 :: u109 :: u110 :: u111 :: u112 :: u113 :: u114 :: u115 :: u116 :: u117 :: u118 :: u119 :: u120 :: u121 :: u122 :: u123 :: u124 :: u125 :: u126 :: u127 :: u128 :: u129 :: u130 :: u131 :: u132 :: u133 :: u134 :: u135 :: u136 :: u137 :: u138 :: u139 :: u140 :: u141 :: u142 :: u143 :: u144 :: u145 :: u146 :: u147 :: u148 :: u149 :: u150 :: u151 :: u152 :: u153 :: u154 :: u155 :: u156 :: u157 :: u158 :: u159 :: u160 :: u161 :: u162 :: u163 :: u164 :: u165 :: u166 :: u167 :: u168 :: u169 :: u170 :: u171 :: u172 :: u173 :: u174 :: u175 :: u176 :: u177 :: u178 :: u179 :: u180 :: u181 :: u182 :: u183 :: u184 :: u185 :: u186 :: u187 :: u188 :: u189 :: u190 :: u191 :: u192 :: u193 :: u194 :: u195 :: u196 :: u197 :: u198 :: u199 :: []), []⟩ w := by
  conv => arg 2; whnf
  have hRC : R * C ≤ 576 := Nat.mul_le_mul hR hC
  have HIC := Lib.hid fun i (hi : i < R) => (show i * C ≤ 576 from by have := Nat.mul_le_mul_right C (Nat.le_of_lt hi); omega)
  have CC := Lib.hid fun (z : LL) (ok : Ok2 R C z) (i J : Nat) (hi : i < R) (hJ : J < C) W h => at_c R C A' z.1 n ca i J W (ok.l1.trans HNR.out.symm) h (castMul i C) (by have := castMulLe (HIC.out i hi); omega) (castPos i C J) (castLt (by rw [ok.l1]; exact idx_lt hi hJ)) (by rw [ok.l1]; omega)
  have CD := Lib.hid fun x y W h1 h2 h3 => iDivF_c x y W h1 h2 h3
  have CO := Lib.hid fun i j t (z : LL) W ok hi hj hij ht h => addW_c R C n (R * R) (C * C) w2.heap.size b i j t A' U V ca cu cv z (idL C) W HNR.out rfl hR hC ok hi hj hij ht h
  go_wp2_with fail
  go_loopw [13] (fun i wr => ∃ (K : Nat) (st : Option LL), i = .int .i64 K ∧ K ≤ T ∧ RowKit.Hid (st = upF R C T J y2 K) ∧ WkO wr w2.heap.size b R C n (R * R) (C * C) A' U V ca cu cv st (idL C) ∧ Below w2.heap.size w2 wr) (fun i _ => T - (intOf i).toNat)
  case atStart => exact ⟨0, some y2, rfl, Nat.zero_le _, Lib.hid rfl, hst, hb⟩
  case round =>
    clear hst hb
    obtain ⟨K, st, rfl, hK, HU4, hst, hb⟩ := hrel
    cases st with
    | none =>
      obtain ⟨na, nu, wk⟩ := hst.none
      obtain ⟨b0, b1, b2, b3, b4, b5, b6, b7, b8, b9⟩ := wk.bx.cells
      have HN := Lib.hid (show none = upF R C T J y2 T from (upF_none HU4.out.symm hK).symm)
      by_cases hKT : K < T
      · have hKT' : (K : Int) < (T : Int) := by omega
        go_wp2_with fail
        go_meet
        exact ⟨none, HN, hst, hb⟩
      · have hKT' : ¬ (K : Int) < (T : Int) := by omega
        go_wp2_with fail
        go_meet
        exact ⟨none, HN, hst, hb⟩
    | some z =>
      have wk := hst.some
      obtain ⟨b0, b1, b2, b3, b4, b5, b6, b7, b8, b9⟩ := wk.bx.cells
      have U4 := upF_UI HO2.out hT hlt HN2.out hK HU4.out.symm
      have hokz := Lib.hid U4.ok
      have hpz : nth z.1 (T * C + J) ≠ 0 := by rw [U4.same T J hT hlt hK]; exact HN2.out
      by_cases hKT : K < T
      · have hKT' : (K : Int) < (T : Int) := by omega
        have hKR : K < R := by omega
        have hn1 := (allNum_iff _).1 U4.ok.n1 (K * C + J) (by rw [U4.ok.l1]; exact idx_lt hKR hlt)
        have hn2 := (allNum_iff _).1 U4.ok.n1 (T * C + J) (by rw [U4.ok.l1]; exact idx_lt hT hlt)
        have C2 := fun W h => CC.out z hokz.out K J hKR hlt W h
        rw [castIdx] at C2
        have C3 := fun W h => CC.out z hokz.out T J hT hlt W h
        rw [castIdx] at C3
        have CDV := fun W => CD.out (nth z.1 (K * C + J)) (nth z.1 (T * C + J)) W hn1 hn2 hpz
        have hq := (isNum_iff _).1 (flQ_num (n := nth z.1 (K * C + J)) (d := nth z.1 (T * C + J)))
        rw [flQ_yes hn1 hn2 hpz] at hq
        have CO1 := fun W h => CO.out K T (-(nth z.1 (K * C + J) / nth z.1 (T * C + J))) z W hokz.out hKR hT (by omega) (by rw [isNum_iff]; omega) h
        have HU5 := Lib.hid (show addS R C K T (-(nth z.1 (K * C + J) / nth z.1 (T * C + J))) z = upF R C T J y2 (K + 1) by rw [upF, ← HU4.out]; rfl)
        have C2' := Lib.hid C2
        have C3' := Lib.hid C3
        clear C2 C3 U4 hpz hn1 hn2
        generalize nth z.1 (K * C + J) / nth z.1 (T * C + J) = q at *
        generalize nth z.1 (K * C + J) % nth z.1 (T * C + J) = q1 at *
        generalize nth z.1 (K * C + J) = c1 at *
        generalize nth z.1 (T * C + J) = c2 at *
        have CDV' := Lib.hid CDV
        have CO1' := Lib.hid CO1
        clear CDV CO1
        have hrd := wk.oa.rd'
        go_wp2_with fail
        clear b0 b1 b2 b3 b4 b5 b6 b7 b8 b9
        obtain ⟨d0, d1, d2, d9⟩ := wk.bx.ext
        ((refine wp_region_ext (by kernel_rfl) (by kernel_rfl) ?_); (repeat (go_big_quiet_step ((first | (go_at_call 62; with_reducible exact extC (C2'.out _ (Rd.ext hrd _))) | (go_at_call 62; with_reducible exact extC (C3'.out _ (Rd.ext hrd _))) | (go_at_call 70; with_reducible exact extC (CDV'.out _)))))); refine wpQuiet_nil ?_; rintro w6 ⟨w60, hw60⟩; have g6 := grows_of_ext hw60; clear hw60 w60)
        have hst6 := hst.grows g6
        have hb6 : Below w2.heap.size w2 w6 := by exact bel2 g6 hb
        clear d0 d1 d2 d9 hrd
        go_wp2_with fail
        refine (CO1'.out _ hst6).mono ?_; rintro e w7 ⟨rfl, hst7, hb7⟩
        have hb8 : Below w2.heap.size w2 w7 := by exact bel2 hb7 hb6
        clear hb7
        go_wp2_with fail
        go_round
        case rel => exact ⟨K + 1, _, by go_num, by omega, HU5, hst7, hb8⟩
        case measure => simp [intOf]; omega
      · obtain rfl : K = T := by omega
        clear U4 hpz
        go_wp2_with fail
        go_meet
        exact ⟨some z, HU4, hst, hb⟩
end
end Go.Proofs.Ythajmffhgbenpaa

/- The program's Hermite form: a column. -/
namespace Go.Proofs.Ythajmffhgbenpaa
set_option linter.unusedSimpArgs false
set_option linter.unusedVariables false
open Go.RowKit

section
set_option maxHeartbeats 20000000
set_option maxRecDepth 100000
theorem blk2_c {u0 u2 u3 u4 u9 u10 u11 u12 u13 u14 u15 u16 u17 u18 u19 u20 u21 u22 u23 u24 u25 u26 u27 u28 u29 u30 u31 u32 u33 u34 u35 u36 u37 u38 u39 u40 u41 u42 u43 u44 u45 u46 u47 u48 u49 u50 u51 u52 u53 u54 u55 u56 u57 u58 u59 u60 u61 u62 u63 u64 u65 u66 u67 u68 u69 u70 u71 u72 u73 u74 u75 u76 u77 u78 u79 u80 u81 u82 u83 u84 u85 u86 u87 u88 u89 u90 u91 u92 u93 u94 u95 u96 u97 u98 u99 u100 u101 u102 u103 u104 u105 u106 u107 u108 u109 u110 u111 u112 u113 u114 u115 u116 u117 u118 u119 u120 u121 u122 u123 u124 u125 u126 u127 u128 u129 u130 u131 u132 u133 u134 u135 u136 u137 u138 u139 u140 u141 u142 u143 u144 u145 u146 u147 u148 u149 u150 u151 u152 u153 u154 u155 u156 u157 u158 u159 u160 u161 u162 u163 u164 u165 u166 u167 u168 u169 u170 u171 u172 u173 u174 u175 u176 u177 u178 u179 u180 u181 u182 u183 u184 u185 u186 u187 u188 u189 u190 u191 u192 u193 u194 u195 u196 u197 u198 u199 : Value} {m b R C n T J : Nat} {A A' U V : Option Addr} {cap ca cu cv : Nat} {p0 : Nat} {x : LL} {w2 w : World} {Q : Exit → Act → World → Prop} {J' K' : Act → World → Prop}
    (MG : RowKit.Hid (∀ wr, Below w2.heap.size w2 wr → MBox wr m (R : Int) (C : Int) (.slice A n cap))) (HNR : RowKit.Hid (n = R * C)) (hR : R ≤ 24) (hC : C ≤ 24) (hT : T < R) (hlt : J < C)
    (HO : RowKit.Hid (Ok2 R C x)) (HLS : RowKit.Hid (Lst R C T J p0 x.1)) (hst : WkO w w2.heap.size b R C n (R * R) (C * C) A' U V ca cu cv (some x) (idL C)) (hb : Below w2.heap.size w2 w)
    (hJ : ∀ a' w', (∃ (x8 x9 x10 x11 x12 x49 x50 x51 x52 x53 x54 x55 x56 x57 x58 x59 x60 x61 x62 x63 x64 x65 x66 x67 x68 x69 x70 x71 x72 x73 x74 x75 x76 x77 x78 x79 x80 x81 x82 x83 x84 x85 x86 x87 x88 x89 x90 x91 x92 x93 x94 x95 x96 x97 x98 x99 x100 x101 x102 x103 x104 x105 x106 x107 x108 x109 x110 x111 x112 x113 x114 x115 x116 x117 x118 x119 x120 x121 : Value), (∃ (P : Nat) (st : Option LL), x8 = .int .i64 P ∧ RowKit.Hid ((st = none → redM R C T J x p0 = none) ∧ ∀ y, st = some y → Ok2 R C y ∧ Lst R C T J P y.1 ∧ redM R C T J y P = redM R C T J x p0 ∧ othB R C T J P y.1 = false) ∧ WkO w' w2.heap.size b R C n (R * R) (C * C) A' U V ca cu cv st (idL C) ∧ Below w2.heap.size w2 w') ∧ a' = (⟨List.toArray (u0 :: Value.pointer (some ⟨m, 0, none⟩) :: u2 :: u3 :: u4 :: Value.pointer (some ⟨b, 0, none⟩) :: Value.int .i64 (T : Nat) :: Value.int .i64 (J : Nat) :: x8 :: x9 :: x10 :: x11 :: x12 :: u13 :: u14 :: u15 :: u16 :: u17 :: u18 :: u19 :: u20 :: u21 :: u22 :: u23 :: u24 :: u25 :: u26 :: u27 :: u28 :: u29 :: u30 :: u31 :: u32 :: u33 :: u34 :: u35 :: u36 :: u37 :: u38 :: u39 :: u40 :: u41 :: u42 :: u43 :: u44 :: u45 :: u46 :: u47 :: u48 :: x49 :: x50 :: x51 :: x52 :: x53 :: x54 :: x55 :: x56 :: x57 :: x58 :: x59 :: x60 :: x61 :: x62 :: x63 :: x64 :: x65 :: x66 :: x67 :: x68 :: x69 :: x70 :: x71 :: x72 :: x73 :: x74 :: x75 :: x76 :: x77 :: x78 :: x79 :: x80 :: x81 :: x82 :: x83 :: x84 :: x85 :: x86 :: x87 :: x88 :: x89 :: x90 :: x91 :: x92 :: x93 :: x94 :: x95 :: x96 :: x97 :: x98 :: x99 :: x100 :: x101 :: x102 :: x103 :: x104 :: x105 :: x106 :: x107 :: x108 :: x109 :: x110 :: x111 :: x112 :: x113 :: x114 :: x115 :: x116 :: x117 :: x118 :: x119 :: x120 :: x121 :: u122 :: u123 :: u124 :: u125 :: u126 :: u127 :: u128 :: u129 :: u130 :: u131 :: u132 :: u133 :: u134 :: u135 :: u136 :: u137 :: u138 :: u139 :: u140 :: u141 :: u142 :: u143 :: u144 :: u145 :: u146 :: u147 :: u148 :: u149 :: u150 :: u151 :: u152 :: u153 :: u154 :: u155 :: u156 :: u157 :: u158 :: u159 :: u160 :: u161 :: u162 :: u163 :: u164 :: u165 :: u166 :: u167 :: u168 :: u169 :: u170 :: u171 :: u172 :: u173 :: u174 :: u175 :: u176 :: u177 :: u178 :: u179 :: u180 :: u181 :: u182 :: u183 :: u184 :: u185 :: u186 :: u187 :: u188 :: u189 :: u190 :: u191 :: u192 :: u193 :: u194 :: u195 :: u196 :: u197 :: u198 :: u199 :: []), []⟩ : Act)) → J' a' w') (hK : ∀ a' w', Met J' a' w' → K' a' w') :
    Code.wp Try.prog ((blockOf 2 (Try.f31.body.getD .skip)).getD .skip) (Exit.then K' Q) ⟨List.toArray (u0 :: Value.pointer (some ⟨m, 0, none⟩) :: u2 :: u3 :: u4 :: Value.pointer (some ⟨b, 0, none⟩) :: Value.int .i64 (T : Nat) :: Value.int .i64 (J : Nat) :: Value.int .i64 (p0 : Nat) :: u9 :: u10 :: u11 :: u12 :: u13 :: u14 :: u15 :: u16 :: u17 :: u18 :: u19 :: u20 :: u21 :: u22 :: u23 :: u24 :: u25 :: u26 :: u27 :: u28 :: u29 :: u30 :: u31 :: u32 :: u33 :: u34 :: u35 :: u36 :: u37 :: u38 :: u39 :: u40 :: u41 :: u42 :: u43 :: u44 :: u45 :: u46 :: u47 :: u48 :: u49 :: u50 :: u51 :: u52 :: u53 :: u54 :: u55 :: u56 :: u57 :: u58 :: u59 :: u60 :: u61 :: u62 :: u63 :: u64 :: u65 :: u66 :: u67 :: u68 :: u69 :: u70 :: u71 :: u72 :: u73 :: u74 :: u75 :: u76 :: u77 :: u78 :: u79 :: u80 :: u81 :: u82 :: u83 :: u84 :: u85 :: u86 :: u87 :: u88 :: u89 :: u90 :: u91 :: u92 :: u93 :: u94 :: u95 :: u96 :: u97 :: u98 :: u99 :: u100 :: u101 :: u102 :: u103 :: u104 :: u105 :: u106 :: u107 :: u108 :: u109 :: u110 :: u111 :: u112 :: u113 :: u114 :: u115 :: u116 :: u117 :: u118 :: u119 :: u120 :: u121 :: u122 :: u123 :: u124 :: u125 :: u126 :: u127 :: u128 :: u129 :: u130 :: u131 :: u132 :: u133 :: u134 :: u135 :: u136 :: u137 :: u138 :: u139 :: u140 :: u141 :: u142 :: u143 :: u144 :: u145 :: u146 :: u147 :: u148 :: u149 :: u150 :: u151 :: u152 :: u153 :: u154 :: u155 :: u156 :: u157 :: u158 :: u159 :: u160 :: u161 :: u162 :: u163 :: u164 :: u165 :: u166 :: u167 :: u168 :: u169 :: u170 :: u171 :: u172 :: u173 :: u174 :: u175 :: u176 :: u177 :: u178 :: u179 :: u180 :: u181 :: u182 :: u183 :: u184 :: u185 :: u186 :: u187 :: u188 :: u189 :: u190 :: u191 :: u192 :: u193 :: u194 :: u195 :: u196 :: u197 :: u198 :: u199 :: []), []⟩ w := by
  conv => arg 2; whnf
  have hRC : R * C ≤ 576 := Nat.mul_le_mul hR hC
  have HIC := Lib.hid fun i (hi : i < R) => (show i * C ≤ 576 from by have := Nat.mul_le_mul_right C (Nat.le_of_lt hi); omega)
  have CL := Lib.hid fun T J (x : LL) (hT : T ≤ R) (hJ : J < C) (ok : Ok2 R C x) W (h : Wk W w2.heap.size b R C n (R * R) (C * C) A' U V ca cu cv x.1 x.2 (idL C) false) => leastIn_c R C n (R * R) (C * C) w2.heap.size b T J A' U V ca cu cv x.1 x.2 (idL C) false W h (ok.l1.trans HNR.out.symm) HNR.out hR hC hT hJ (fun i hi => (allNum_iff _).1 ok.n1 i (by rw [ok.l1, ← HNR.out]; exact hi))
  have CA := Lib.hid fun T J P (x : LL) (hT : T ≤ R) (hJ : J < C) (ok : Ok2 R C x) W (h : Wk W w2.heap.size b R C n (R * R) (C * C) A' U V ca cu cv x.1 x.2 (idL C) false) => others_c R C n (R * R) (C * C) w2.heap.size b T J P A' U V ca cu cv x.1 x.2 (idL C) false W h (ok.l1.trans HNR.out.symm) HNR.out hR hC hT hJ
  obtain ⟨a0, a1, a2⟩ := (MG.out w hb).cells
  go_wp2_with fail
  go_loopg [8] (mu R C T J p0 x.1 + 1) (fun gk p wr => ∃ (P : Nat) (st : Option LL), p = .int .i64 P ∧ RowKit.Hid ((st = none → redM R C T J x p0 = none) ∧ ∀ y, st = some y → Ok2 R C y ∧ Lst R C T J P y.1 ∧ redM R C T J y P = redM R C T J x p0 ∧ mu R C T J P y.1 < gk) ∧ WkO wr w2.heap.size b R C n (R * R) (C * C) A' U V ca cu cv st (idL C) ∧ Below w2.heap.size w2 wr)
  case atStart => exact ⟨p0, some x, rfl, Lib.hid ⟨(fun h => by cases h), fun y h => by cases h; exact ⟨HO.out, HLS.out, rfl, by omega⟩⟩, hst, hb⟩
  case round =>
    clear a0 a1 a2 hst hb HO HLS
    obtain ⟨P, st, rfl, HS, hst, hb⟩ := hrel
    obtain ⟨a0, a1, a2⟩ := (MG.out wr hb).cells
    cases st with
    | none =>
      obtain ⟨na, nu, wk⟩ := hst.none
      obtain ⟨b0, b1, b2, b3, b4, b5, b6, b7, b8, b9⟩ := wk.bx.cells
      have HRN := Lib.hid (HS.out.1 rfl)
      go_wp2_with fail
      go_meet
      exact ⟨P, none, rfl, Lib.hid ⟨fun _ => HRN.out, fun y h => by cases h⟩, hst, hb⟩
    | some y =>
      have wk := hst.some
      obtain ⟨b0, b1, b2, b3, b4, b5, b6, b7, b8, b9⟩ := wk.bx.cells
      have hy := HS.out.2 y rfl
      have HO := Lib.hid hy.1
      have HLS := Lib.hid hy.2.1
      have HRED := Lib.hid hy.2.2.1
      have hmu := hy.2.2.2
      clear hy HS
      have hPR := HLS.out.hi
      have hPT := HLS.out.lo
      have hPR' : (P : Int) < (R : Int) := by omega
      have CA1 := fun W h => CA.out T J P y (Nat.le_of_lt hT) hlt HO.out W h
      cases hO : othB R C T J P y.1 with
      | false =>
        rw [hO] at CA1
        have CA1' := Lib.hid CA1
        have HOTH := Lib.hid hO
        clear CA1 hO
        go_wp2_with fail
        refine (CA1'.out _ wk).mono ?_; rintro e w4 ⟨rfl, g4⟩
        replace hst := hst.grows g4
        replace hb : Below w2.heap.size w2 w4 := by exact bel2 g4 hb
        clear b0 b1 b2 b3 b4 b5 b6 b7 b8 b9 wk a0 a1 a2
        go_wp2_with fail
        go_meet
        exact ⟨P, some y, rfl, Lib.hid ⟨(fun h => by cases h), fun y h => by cases h; exact ⟨HO.out, HLS.out, HRED.out, HOTH.out⟩⟩, hst, hb⟩
      | true =>
        rw [hO] at CA1
        have CA1' := Lib.hid CA1
        have HOTH := Lib.hid hO
        clear CA1 hO
        go_wp2_with fail
        refine (CA1'.out _ wk).mono ?_; rintro e w4 ⟨rfl, g4⟩
        replace hst := hst.grows g4
        replace hb : Below w2.heap.size w2 w4 := by exact bel2 g4 hb
        clear b0 b1 b2 b3 b4 b5 b6 b7 b8 b9 wk a0 a1 a2
        go_upto_block 4 with fail
        go_cut [] from 62 to 112 (fun wx => ∃ st : Option LL, RowKit.Hid (st = elimF R C T J P y (R - T)) ∧ WkO wx w2.heap.size b R C n (R * R) (C * C) A' U V ca cu cv st (idL C) ∧ Below w2.heap.size w2 wx)
        case first =>
          rename_i J1 K1 hJ1 hK1
          exact blk4_c MG HNR hR hC hT hlt hPT hPR HO HLS hst hb hJ1 hK1
        case rest =>
          clear hst hb g4 CA1'
          obtain ⟨st, HE, hst, hb⟩ := hcut
          have hgk : 0 < gk := by omega
          cases st with
          | none =>
            obtain ⟨na, nu, wk⟩ := hst.none
            obtain ⟨b0, b1, b2, b3, b4, b5, b6, b7, b8, b9⟩ := wk.bx.cells
            have HRN := Lib.hid (show redM R C T J x p0 = none by rw [← HRED.out]; exact redM_fail HOTH.out HE.out.symm)
            go_wp2_with fail
            go_roundg 0
            case measure => exact hgk
            case rel => exact ⟨P, none, rfl, Lib.hid ⟨fun _ => HRN.out, fun y h => by cases h⟩, hst, hb⟩
          | some z =>
            have wk := hst.some
            obtain ⟨b0, b1, b2, b3, b4, b5, b6, b7, b8, b9⟩ := wk.bx.cells
            have he : elimF R C T J P y (R - T) = some z := HE.out.symm
            have hokz := Lib.hid (elimF_EI HO.out HLS.out.lo HLS.out.hi hlt HLS.out.ne (by omega) he).ok
            obtain ⟨p', hp'⟩ := elim_least HO.out HLS.out hlt he
            have hmu' := mu_less HO.out HLS.out hlt HOTH.out he hp'
            have HN := Lib.hid (show Ok2 R C z ∧ Lst R C T J p' z.1 ∧ redM R C T J z p' = redM R C T J x p0 ∧ mu R C T J p' z.1 < mu R C T J p' z.1 + 1 from ⟨hokz.out, Lst.of hp', (redM_next HO.out HLS.out hlt HOTH.out he hp').symm.trans HRED.out, by omega⟩)
            have C4 := fun W h => CL.out T J z (Nat.le_of_lt hT) hlt hokz.out W h
            rw [hp'] at C4
            have C4' := Lib.hid C4
            have hmu2 : mu R C T J p' z.1 + 1 < gk := by omega
            clear he hp' hmu' C4
            go_wp2_with fail
            refine (C4'.out _ wk).mono ?_; rintro e w6 ⟨rfl, g6⟩
            have hb6 : Below w2.heap.size w2 w6 := by exact bel2 g6 hb
            go_wp2_with fail
            go_roundg (mu R C T J p' z.1 + 1)
            case measure => exact hmu2
            case rel => exact ⟨p', some z, rfl, Lib.hid ⟨(fun h => by cases h), fun y h => by cases h; exact HN.out⟩, hst.grows g6, hb6⟩
end
end Go.Proofs.Ythajmffhgbenpaa

/- Contracts: the program's Hermite form. -/
namespace Go.Proofs.Ythajmffhgbenpaa
set_option linter.unusedSimpArgs false
set_option linter.unusedVariables false
open Go.RowKit

section
set_option maxHeartbeats 20000000
set_option maxRecDepth 100000
theorem iHerm_c (r c : Int) (A : Option Addr) (l : List Int) (n cap : Nat) (w : World) (hn : l.length = n) (ha : Rd w A l) (hl : n ≤ 1099511627776) :
    Calls Try.prog 31 #[.agg #[.int .i64 r, .int .i64 c, .slice A n cap]] w (Mat2Ret (hermO ⟨r, c, l⟩) w) := by
  have HS := fun w h => iIsMatrix_c r c A l n cap w hn h hl
  obtain ⟨w1, hw1, mg, m2, m3, hs1, g01⟩ := three_mats w r c (.slice A n cap)
  have HW1 := Lib.hid hw1
  have HS1 := Lib.hid hs1
  have ha1 : Rd w1 A l := ha.grows g01
  clear hw1 hs1
  obtain ⟨RES, hRES⟩ : ∃ x, x = hermO ⟨r, c, l⟩ := ⟨_, rfl⟩
  rw [← hRES]
  cases hq : isMat r c l
  · rw [hermO_no (a := ⟨r, c, l⟩) hq] at hRES
    rw [hq] at HS
    have HS' := Lib.hid HS
    subst hRES
    clear HS hq hn
    go_enter Try.func31, Try.ntmps31
    go_wp2_with fail
    refine (HS'.out _ (by exact (Rd.grows ha (by exact bel0)))).mono ?_; rintro e w2 ⟨rfl, g2⟩
    rw [← HW1.out] at g2
    (have z2 := m2.grows (w' := w2) (by exact bel1 g2); have z3 := m3.grows (w' := w2) (by exact bel1 g2); obtain ⟨zr0, zr1, zr2⟩ := z2.cells; have zrf := z2.fz; have zrl := z2.lt; obtain ⟨yr0, yr1, yr2⟩ := z3.cells; have yrf := z3.fz; have yrl := z3.lt; go_wp2_with fail; refine bodyPost_ret (v := .tuple #[.agg #[.int .i64 0, .int .i64 0, .slice none 0 0], .agg #[.int .i64 0, .int .i64 0, .slice none 0 0], .bool false]) ?_ rfl ?_; (simp [results, Try.results31, go_sem, zr0, zr1, zr2, zrf, zrl, yr0, yr1, yr2, yrf, yrl]); exact ⟨_, _, rfl, Own.nil _ _, Own.nil _ _, by simp [Value.ownBlock], by exact bel2 g2 g01⟩)
  · rw [hq] at HS
    have HS' := Lib.hid HS
    obtain ⟨R, C, rfl, rfl, hR, hC, hlen, hnum⟩ := isMat_nat hq
    rw [hermO_nat hq] at hRES
    have HR := Lib.hid hRES
    have ok := ok2_start hq
    have hnRC : n = R * C := hn.symm.trans hlen
    have hRC : R * C ≤ 576 := Nat.mul_le_mul hR hC
    have CW := Lib.hid fun W h => newWork_c R C n A l cap W hn hR hC h hl
    have hIC : ∀ i, i < R → i * C ≤ 576 := fun i hi => by have := Nat.mul_le_mul_right C (Nat.le_of_lt hi); omega
    have HOK := Lib.hid fun J (hJ : J ≤ C) (T : Nat) (x : LL) (h : hermF R C (l, idL R) J = some (T, x)) => hermF_HI ok hJ h
    have HFU := Lib.hid fun J (hJ : J ≤ C) (T : Nat) (x : LL) (h : hermF R C (l, idL R) J = some (T, x)) (hx : ¬ T < R) => hermF_full (k := C) h hx hJ
    have HNR := Lib.hid hnRC
    have HIC := Lib.hid hIC
    clear HS hq hRES ok hlen hnum hn hnRC hIC
    go_enter Try.func31, Try.ntmps31
    go_wp2_with fail
    refine (HS'.out _ (by exact (Rd.grows ha (by exact bel0)))).mono ?_; rintro e w2 ⟨rfl, g2⟩
    rw [← HW1.out] at g2
    obtain ⟨a0, a1, a2⟩ := (mg.grows g2).cells
    go_wp2_with fail
    refine (CW.out _ (by exact (Rd.grows ha1 (by exact bel1 g2)))).mono ?_; rintro e w3 ⟨b, A', U, V, ca, cu, cv, rfl, wk3, g3⟩
    have hs2 := Below.size g2
    have HS2 := Lib.hid hs2
    have MG := Lib.hid fun wr (h : Below w2.heap.size w2 wr) => (mg.grows g2).keep h (mg.grows g2).lt
    have M2 := Lib.hid fun wr (h : Below w2.heap.size w2 wr) => (m2.grows g2).keep h (m2.grows g2).lt
    have M3 := Lib.hid fun wr (h : Below w2.heap.size w2 wr) => (m3.grows g2).keep h (m3.grows g2).lt
    have CL := Lib.hid fun T J (x : LL) (hT : T ≤ R) (hJ : J < C) (ok : Ok2 R C x) W (h : Wk W w2.heap.size b R C n (R * R) (C * C) A' U V ca cu cv x.1 x.2 (idL C) false) => leastIn_c R C n (R * R) (C * C) w2.heap.size b T J A' U V ca cu cv x.1 x.2 (idL C) false W h (ok.l1.trans HNR.out.symm) HNR.out hR hC hT hJ (fun i hi => (allNum_iff _).1 ok.n1 i (by rw [ok.l1, ← HNR.out]; exact hi))
    have CA := Lib.hid fun T J P (x : LL) (hT : T ≤ R) (hJ : J < C) (ok : Ok2 R C x) W (h : Wk W w2.heap.size b R C n (R * R) (C * C) A' U V ca cu cv x.1 x.2 (idL C) false) => others_c R C n (R * R) (C * C) w2.heap.size b T J P A' U V ca cu cv x.1 x.2 (idL C) false W h (ok.l1.trans HNR.out.symm) HNR.out hR hC hT hJ
    have CC := Lib.hid fun (z : LL) (ok : Ok2 R C z) (i J : Nat) (hi : i < R) (hJ : J < C) W h => at_c R C A' z.1 n ca i J W (ok.l1.trans HNR.out.symm) h (castMul i C) (by have := castMulLe (HIC.out i hi); omega) (castPos i C J) (castLt (by rw [ok.l1]; exact idx_lt hi hJ)) (by rw [ok.l1]; omega)
    have CD := Lib.hid fun x y W h1 h2 h3 => iDivF_c x y W h1 h2 h3
    have CO := Lib.hid fun i j t (z : LL) W ok hi hj hij ht h => addW_c R C n (R * R) (C * C) w2.heap.size b i j t A' U V ca cu cv z (idL C) W HNR.out rfl hR hC ok hi hj hij ht h
    have CS := Lib.hid fun i j (z : LL) W ok hi hj hij h => swpR_c R C n (R * R) (C * C) w2.heap.size b i j A' U V ca cu cv z (idL C) W HNR.out rfl hR hC ok hi hj hij h
    have CN := Lib.hid fun i (z : LL) W ok hi h => negR_c R C n (R * R) (C * C) w2.heap.size b i A' U V ca cu cv z (idL C) W HNR.out rfl hR hC ok hi h
    have hst3 : WkO w3 w2.heap.size b R C n (R * R) (C * C) A' U V ca cu cv (some (l, idL R)) (idL C) := Wk.toO (s := (l, idL R)) wk3
    have hb3 : Below w2.heap.size w2 w3 := g3
    have H0 := Lib.hid (show ((some (l, idL R) : Option LL) = none → hermF R C (l, idL R) C = none) ∧ ∀ x, (some (l, idL R) : Option LL) = some x → hermF R C (l, idL R) 0 = some (0, x) from ⟨(fun h => by cases h), fun x h => by cases h; rfl⟩)
    clear a0 a1 a2 mg m2 m3 wk3 hs2 CW ha1
    go_upto_block 0 with fail
    go_cut [] (fun wx => ∃ st : Option LL, RowKit.Hid ((st = none → hermF R C (l, idL R) C = none) ∧ ∀ x, st = some x → ∃ T, hermF R C (l, idL R) C = some (T, x)) ∧ WkO wx w2.heap.size b R C n (R * R) (C * C) A' U V ca cu cv st (idL C) ∧ Below w2.heap.size w2 wx)
    case first =>
      go_wp2_with fail
      go_loopg [6, 7] C (fun gk t j wr => ∃ (T J : Nat) (st : Option LL), t = .int .i64 T ∧ j = .int .i64 J ∧ J ≤ C ∧ T ≤ R ∧ C - J ≤ gk ∧ RowKit.Hid ((st = none → hermF R C (l, idL R) C = none) ∧ ∀ x, st = some x → hermF R C (l, idL R) J = some (T, x)) ∧ WkO wr w2.heap.size b R C n (R * R) (C * C) A' U V ca cu cv st (idL C) ∧ Below w2.heap.size w2 wr)
      case atStart => exact ⟨0, 0, _, rfl, rfl, Nat.zero_le _, Nat.zero_le _, Nat.le_refl _, H0, hst3, hb3⟩
      case round =>
        clear hst3 hb3 H0
        obtain ⟨T, J, st, rfl, rfl, hJ, hTR, hgj, HF, hst, hb⟩ := hrel
        obtain ⟨a0, a1, a2⟩ := (MG.out wr hb).cells
        cases st with
        | none =>
          obtain ⟨na, nu, wk⟩ := hst.none
          obtain ⟨b0, b1, b2, b3, b4, b5, b6, b7, b8, b9⟩ := wk.bx.cells
          have HD := Lib.hid (HF.out.1 rfl)
          by_cases hlt : J < C
          · have hlt' : (J : Int) < (C : Int) := by omega
            by_cases hT : T < R
            · have hT' : (T : Int) < (R : Int) := by omega
              go_wp2_with fail
              go_meet
              exact ⟨none, Lib.hid ⟨fun _ => HD.out, fun x h => by cases h⟩, hst, hb⟩
            · have hT' : ¬ (T : Int) < (R : Int) := by omega
              go_wp2_with fail
              go_meet
              exact ⟨none, Lib.hid ⟨fun _ => HD.out, fun x h => by cases h⟩, hst, hb⟩
          · have hlt' : ¬ (J : Int) < (C : Int) := by omega
            go_wp2_with fail
            go_meet
            exact ⟨none, Lib.hid ⟨fun _ => HD.out, fun x h => by cases h⟩, hst, hb⟩
        | some x =>
          have wk := hst.some
          obtain ⟨b0, b1, b2, b3, b4, b5, b6, b7, b8, b9⟩ := wk.bx.cells
          have HX := Lib.hid (HF.out.2 x rfl)
          have H := Lib.hid (HOK.out J hJ T x HX.out)
          by_cases hlt : J < C
          · have hlt' : (J : Int) < (C : Int) := by omega
            by_cases hT : T < R
            · have hT' : (T : Int) < (R : Int) := by omega
              have C1 := fun W h => CL.out T J x (Nat.le_of_lt hT) hlt H.out.ok W h
              cases hle : least R C T J x.1 with
              | none =>
                rw [hle] at C1
                have C1' := Lib.hid C1
                have HX2 := Lib.hid ((hermF_next HX.out).trans (colS_none hT hle))
                clear C1 hle
                go_wp2_with fail
                refine (C1'.out _ wk).mono ?_; rintro e w3 ⟨rfl, g3⟩
                have hb3 : Below w2.heap.size w2 w3 := by exact bel2 g3 hb
                go_wp2_with fail
                go_roundg (C - (J + 1))
                case measure => omega
                case rel => exact ⟨T, J + 1, some x, rfl, by go_num, by omega, hTR, Nat.le_refl _, Lib.hid ⟨(fun h => by cases h), fun x h => by cases h; exact HX2.out⟩, hst.grows g3, hb3⟩
              | some p0 =>
                have L0 := Lib.hid (Lst.of hle)
                have hp0 : ¬ ((p0 : Nat) : Int) < 0 := by omega
                rw [hle] at C1
                have C1' := Lib.hid C1
                have HL := Lib.hid hle
                clear C1 hle
                go_wp2_with fail
                refine (C1'.out _ wk).mono ?_; rintro e w3 ⟨rfl, g3⟩
                replace hst := hst.grows g3
                replace hb : Below w2.heap.size w2 w3 := by exact bel2 g3 hb
                clear b0 b1 b2 b3 b4 b5 b6 b7 b8 b9 wk g3 a0 a1 a2
                go_upto_block 2 with fail
                go_cut [8] (fun v wx => ∃ (P : Nat) (st : Option LL), v = .int .i64 P ∧ RowKit.Hid ((st = none → redM R C T J x p0 = none) ∧ ∀ y, st = some y → Ok2 R C y ∧ Lst R C T J P y.1 ∧ redM R C T J y P = redM R C T J x p0 ∧ othB R C T J P y.1 = false) ∧ WkO wx w2.heap.size b R C n (R * R) (C * C) A' U V ca cu cv st (idL C) ∧ Below w2.heap.size w2 wx)
                case first =>
                  rename_i J1 K1 hJ1 hK1
                  exact blk2_c MG HNR hR hC hT hlt (Lib.hid H.out.ok) L0 hst hb hJ1 hK1
                case rest =>
                  clear hst hb C1'
                  obtain ⟨P, st, rfl, HS, hst, hb⟩ := hcut
                  obtain ⟨a0, a1, a2⟩ := (MG.out wc hb).cells
                  cases st with
                  | none =>
                    obtain ⟨na, nu, wk⟩ := hst.none
                    obtain ⟨b0, b1, b2, b3, b4, b5, b6, b7, b8, b9⟩ := wk.bx.cells
                    have HD := Lib.hid (hermF_dead hlt HX.out (by rw [colS_some hT HL.out, HS.out.1 rfl]; rfl))
                    go_wp2_with fail
                    go_meet
                    exact ⟨none, Lib.hid ⟨fun _ => HD.out, fun x h => by cases h⟩, hst, hb⟩
                  | some y =>
                    have wk := hst.some
                    obtain ⟨b0, b1, b2, b3, b4, b5, b6, b7, b8, b9⟩ := wk.bx.cells
                    have hy := HS.out.2 y rfl
                    have HO := Lib.hid hy.1
                    have HLS := Lib.hid hy.2.1
                    have HRED := Lib.hid hy.2.2.1
                    have HOTH := Lib.hid hy.2.2.2
                    clear hy HS
                    have hPR := HLS.out.hi
                    have hPT := HLS.out.lo
                    have hPR' : (P : Int) < (R : Int) := by omega
                    have HCOL := Lib.hid (colS_red hT HL.out (HRED.out.symm.trans (redM_end HOTH.out)))
                    have HOT := Lib.hid (swapIf_ok HO.out hPR hT)
                    have HNT := Lib.hid (swapIf_ne HLS.out hT hlt)
                    have wk := hst.some
                    obtain ⟨b0, b1, b2, b3, b4, b5, b6, b7, b8, b9⟩ := wk.bx.cells
                    go_upto_if 128 with fail
                    go_cut [] (fun wx => ∃ y1 : LL, RowKit.Hid (y1 = swapIf R C P T y) ∧ WkO wx w2.heap.size b R C n (R * R) (C * C) A' U V ca cu cv (some y1) (idL C) ∧ Below w2.heap.size w2 wx)
                    case first =>
                      by_cases hPTe : P = T
                      · have e1 : ((P : Int) != (T : Int)) = false := by rw [bne_eq_false_iff_eq]; omega
                        have eS := Lib.hid (show y = swapIf R C P T y by unfold swapIf; rw [if_pos hPTe])
                        clear hPTe
                        go_wp2_with fail
                        go_meet
                        exact ⟨y, eS, hst, hb⟩
                      · have e1 : ((P : Int) != (T : Int)) = true := by rw [bne_iff_ne]; omega
                        have eS := Lib.hid (show swpS R C P T y = swapIf R C P T y by unfold swapIf; rw [if_neg hPTe])
                        have CS1 := Lib.hid fun W h => CS.out P T y W HO.out hPR hT hPTe h
                        clear hPTe
                        go_wp2_with fail
                        refine (CS1.out _ hst).mono ?_; rintro e w5 ⟨rfl, hst5, hb5⟩
                        have hb6 : Below w2.heap.size w2 w5 := by exact bel2 hb5 hb
                        clear hb5
                        go_wp2_with fail
                        go_meet
                        exact ⟨_, eS, hst5, hb6⟩
                    case rest =>
                      clear hst hb wk b0 b1 b2 b3 b4 b5 b6 b7 b8 b9 HO HLS hPR hPT hPR' HRED
                      obtain ⟨y1, HY1, hst, hb⟩ := hcut
                      rw [← HY1.out] at HOT HNT
                      have hcol := HCOL.out
                      rw [← HY1.out] at hcol
                      have HCOL1 := Lib.hid hcol
                      clear hcol HCOL HY1
                      have wk := hst.some
                      obtain ⟨b0, b1, b2, b3, b4, b5, b6, b7, b8, b9⟩ := wk.bx.cells
                      have C2 := fun W h => CC.out y1 HOT.out T J hT hlt W h
                      rw [castIdx] at C2
                      have C2' := Lib.hid C2
                      clear C2
                      go_wp2_with fail
                      refine (C2'.out _ (wk.oa.rd')).mono ?_; rintro e w6 ⟨rfl, g6⟩
                      replace hst := hst.grows g6
                      replace hb : Below w2.heap.size w2 w6 := by exact bel2 g6 hb
                      clear b0 b1 b2 b3 b4 b5 b6 b7 b8 b9 wk g6 C2'
                      go_upto_if 141 with fail
                      go_cut [] (fun wx => ∃ y2 : LL, RowKit.Hid (y2 = negIf R C T J y1) ∧ WkO wx w2.heap.size b R C n (R * R) (C * C) A' U V ca cu cv (some y2) (idL C) ∧ Below w2.heap.size w2 wx)
                      case first =>
                        by_cases hneg : nth y1.1 (T * C + J) < 0
                        · have eN := Lib.hid (show negS R C T y1 = negIf R C T J y1 by unfold negIf; rw [if_pos hneg])
                          have CN1 := Lib.hid fun W h => CN.out T y1 W HOT.out hT h
                          go_wp2_with fail
                          refine (CN1.out _ hst).mono ?_; rintro e w7 ⟨rfl, hst7, hb7⟩
                          have hb8 : Below w2.heap.size w2 w7 := by exact bel2 hb7 hb
                          clear hb7
                          go_wp2_with fail
                          go_meet
                          exact ⟨_, eN, hst7, hb8⟩
                        · have eN := Lib.hid (show y1 = negIf R C T J y1 by unfold negIf; rw [if_neg hneg])
                          go_wp2_with fail
                          go_meet
                          exact ⟨y1, eN, hst, hb⟩
                      case rest =>
                        clear hst hb
                        obtain ⟨y2, HY2, hst2, hb⟩ := hcut
                        have HO2 := Lib.hid (show Ok2 R C y2 by rw [HY2.out]; exact negIf_ok (j := J) HOT.out hT)
                        have HN2 := Lib.hid (show nth y2.1 (T * C + J) ≠ 0 by rw [HY2.out]; exact negIf_ne HOT.out hT hlt HNT.out)
                        have hcol := HCOL1.out
                        rw [← HY2.out] at hcol
                        have HCOL2 := Lib.hid hcol
                        clear hcol HCOL1 HY2 HOT HNT
                        have wk := hst2.some
                        obtain ⟨b0, b1, b2, b3, b4, b5, b6, b7, b8, b9⟩ := wk.bx.cells
                        clear wk b0 b1 b2 b3 b4 b5 b6 b7 b8 b9
                        go_upto_block 6 with fail
                        go_cut [] (fun wx => ∃ st : Option LL, RowKit.Hid (st = upF R C T J y2 T) ∧ WkO wx w2.heap.size b R C n (R * R) (C * C) A' U V ca cu cv st (idL C) ∧ Below w2.heap.size w2 wx)
                        case first =>
                          rename_i J1 K1 hJ1 hK1
                          exact blk6_c MG HNR hR hC hT hlt HO2 HN2 hst2 hb hJ1 hK1
                        case rest =>
                          clear hst2 hb
                          obtain ⟨st, HU4, hst, hb⟩ := hcut
                          cases st with
                          | none =>
                            obtain ⟨na, nu, wk⟩ := hst.none
                            have HDD := Lib.hid (hermF_dead hlt HX.out (by rw [HCOL2.out, ← HU4.out]; rfl))
                            go_wp2_with fail
                            go_roundg (C - (J + 1))
                            case measure => omega
                            case rel => exact ⟨T + 1, J + 1, none, by go_num, by go_num, by omega, by omega, Nat.le_refl _, Lib.hid ⟨fun _ => HDD.out, fun x h => by cases h⟩, hst, hb⟩
                          | some z =>
                            have HXX := Lib.hid (show hermF R C (l, idL R) (J + 1) = some (T + 1, z) by rw [hermF_next HX.out, HCOL2.out, ← HU4.out]; rfl)
                            go_wp2_with fail
                            go_roundg (C - (J + 1))
                            case measure => omega
                            case rel => exact ⟨T + 1, J + 1, some z, by go_num, by go_num, by omega, by omega, Nat.le_refl _, Lib.hid ⟨(fun h => by cases h), fun x h => by cases h; exact HXX.out⟩, hst, hb⟩
            · have hT' : ¬ (T : Int) < (R : Int) := by omega
              have HFIN := Lib.hid (HFU.out J hJ T x HX.out hT)
              go_wp2_with fail
              go_meet
              exact ⟨some x, Lib.hid ⟨(fun h => by cases h), fun x h => by cases h; exact ⟨T, HFIN.out⟩⟩, hst, hb⟩
          · have hlt' : ¬ (J : Int) < (C : Int) := by omega
            obtain rfl : C = J := by omega
            have HFIN := HX
            go_wp2_with fail
            go_meet
            exact ⟨some x, Lib.hid ⟨(fun h => by cases h), fun x h => by cases h; exact ⟨T, HFIN.out⟩⟩, hst, hb⟩
    case rest =>
      obtain ⟨st, HF, hst, hb⟩ := hcut
      clear hst3 hb3 H0
      cases st with
      | none =>
        have HD := Lib.hid (HF.out.1 rfl)
        obtain ⟨na, nu, wk⟩ := hst.none
        obtain ⟨b0, b1, b2, b3, b4, b5, b6, b7, b8, b9⟩ := wk.bx.cells
        have z2 := M2.out wc hb; have z3 := M3.out wc hb
        obtain ⟨zr0, zr1, zr2⟩ := z2.cells; have zrf := z2.fz; have zrl := z2.lt
        obtain ⟨yr0, yr1, yr2⟩ := z3.cells; have yrf := z3.fz; have yrl := z3.lt
        obtain rfl : RES = none := by rw [HR.out, HD.out]; rfl
        go_wp2_with fail
        refine bodyPost_ret (v := .tuple #[.agg #[.int .i64 0, .int .i64 0, .slice none 0 0], .agg #[.int .i64 0, .int .i64 0, .slice none 0 0], .bool false]) ?_ rfl ?_
        · simp [results, Try.results31, go_sem, zr0, zr1, zr2, zrf, zrl, yr0, yr1, yr2, yrf, yrl]
        · exact ⟨_, _, rfl, Own.nil _ _, Own.nil _ _, by simp [Value.ownBlock], by exact bel3 hb g2 g01⟩
      | some x =>
        obtain ⟨T, hfin⟩ := HF.out.2 x rfl
        have HFIN := Lib.hid hfin
        clear hfin
        have wk := hst.some
        obtain ⟨b0, b1, b2, b3, b4, b5, b6, b7, b8, b9⟩ := wk.bx.cells
        have z2 := M2.out wc hb; have z3 := M3.out wc hb
        obtain ⟨zr0, zr1, zr2⟩ := z2.cells; have zrf := z2.fz; have zrl := z2.lt
        obtain ⟨yr0, yr1, yr2⟩ := z3.cells; have yrf := z3.fz; have yrl := z3.lt
        obtain rfl : RES = some (⟨R, C, x.1⟩, ⟨R, R, x.2⟩) := by rw [HR.out, HFIN.out]; rfl
        have hbB := wk.lo
        have hsB := HS1.out
        have hs2 := HS2.out
        go_wp2_with fail
        (refine wp_region_heldL (fun W => W.cell? ⟨b, 0, none⟩ = some (.int .i64 R) ∧ W.cell? ⟨b, 1, none⟩ = some (.int .i64 C) ∧ W.cell? ⟨b, 2, none⟩ = some (.slice A' n ca) ∧ W.cell? ⟨b, 3, none⟩ = some (.int .i64 R) ∧ W.cell? ⟨b, 4, none⟩ = some (.int .i64 R) ∧ W.cell? ⟨b, 5, none⟩ = some (.slice U (R * R) cu)) (by kernel_rfl) (by ((try dsimp only); (refine wk6 (A := .slice A' n ca) (U := .slice U (R * R) cu) (V := .slice V (C * C) cv) (bd := false) ?_; ((repeat' (first | with_reducible exact wk.bx | with_reducible refine WBox.drew_ ?_ | with_reducible refine WBox.far ?_ ?_ _)); all_goals (first | omega | (simp; done) | (simp; omega)))))) (fun hHeld => ?_); refine heldL_take (i := 0) (v := _) (by rfl) (by kernel_rfl) (by kernel_rfl) (by kernel_rfl) (fun _ _ _ h => h) (Or.inl ⟨by rfl, fun wS hSw => by ((try dsimp only at hSw); go_simp; (try with_reducible rfl))⟩) (by assumption) ?_; simp only [Act.put, List.setIfInBounds_toArray, List.set_cons_zero, List.set_cons_succ]; refine heldL_take (i := 1) (v := _) (by rfl) (by kernel_rfl) (by kernel_rfl) (by kernel_rfl) (fun _ _ _ h => h) (Or.inl ⟨by rfl, fun wS hSw => by ((try dsimp only at hSw); go_simp; (try with_reducible rfl))⟩) (by assumption) ?_; simp only [Act.put, List.setIfInBounds_toArray, List.set_cons_zero, List.set_cons_succ]; refine heldL_take (i := 2) (v := _) (by rfl) (by kernel_rfl) (by kernel_rfl) (by kernel_rfl) (fun _ _ _ h => h) (Or.inl ⟨by rfl, fun wS hSw => by ((try dsimp only at hSw); go_simp; (try with_reducible rfl))⟩) (by assumption) ?_; simp only [Act.put, List.setIfInBounds_toArray, List.set_cons_zero, List.set_cons_succ]; refine heldL_take (i := 3) (v := _) (by rfl) (by kernel_rfl) (by kernel_rfl) (by kernel_rfl) (fun _ _ _ h => h) (Or.inl ⟨by rfl, fun wS hSw => by ((try dsimp only at hSw); go_simp; (try with_reducible rfl))⟩) (by assumption) ?_; simp only [Act.put, List.setIfInBounds_toArray, List.set_cons_zero, List.set_cons_succ]; refine heldL_take (i := 4) (v := _) (by rfl) (by kernel_rfl) (by kernel_rfl) (by kernel_rfl) (fun _ _ _ h => h) (Or.inl ⟨by rfl, fun wS hSw => by ((try dsimp only at hSw); go_simp; (try with_reducible rfl))⟩) (by assumption) ?_; simp only [Act.put, List.setIfInBounds_toArray, List.set_cons_zero, List.set_cons_succ]; refine heldL_take (i := 5) (v := _) (by rfl) (by kernel_rfl) (by kernel_rfl) (by kernel_rfl) (fun _ _ _ h => h) (Or.inl ⟨by rfl, fun wS hSw => by ((try dsimp only at hSw); go_simp; (try with_reducible rfl))⟩) (by assumption) ?_; simp only [Act.put, List.setIfInBounds_toArray, List.set_cons_zero, List.set_cons_succ]; refine heldL_take (i := 6) (v := _) (by rfl) (by kernel_rfl) (by kernel_rfl) (by kernel_rfl) (fun _ _ _ h => h) (Or.inl ⟨by rfl, fun wS hSw => by ((try dsimp only at hSw); go_simp; (try with_reducible rfl))⟩) (by assumption) ?_; simp only [Act.put, List.setIfInBounds_toArray, List.set_cons_zero, List.set_cons_succ]; refine heldL_take (i := 7) (v := _) (by rfl) (by kernel_rfl) (by kernel_rfl) (by kernel_rfl) (fun _ _ _ h => h) (Or.inl ⟨by rfl, fun wS hSw => by ((try dsimp only at hSw); go_simp; (try with_reducible rfl))⟩) (by assumption) ?_; simp only [Act.put, List.setIfInBounds_toArray, List.set_cons_zero, List.set_cons_succ]; refine heldL_step (i := 8) (by kernel_rfl) (by rfl) (fun K hK => ?_); go_simp; refine hK.out _ _ (by ((try dsimp only); (refine wk6 (A := .slice A' n ca) (U := .slice U (R * R) cu) (V := .slice V (C * C) cv) (bd := false) ?_; ((repeat' (first | with_reducible exact wk.bx | with_reducible refine WBox.drew_ ?_ | with_reducible refine WBox.far ?_ ?_ _)); all_goals (first | omega | (simp; done) | (simp; omega)))))) (fun hHeld => ?_); clear hK K; (try simp only [Act.put, List.setIfInBounds_toArray, List.set_cons_zero, List.set_cons_succ]); refine heldL_step (i := 9) (by kernel_rfl) (by rfl) (fun K hK => ?_); go_simp; refine hK.out _ _ (by ((try dsimp only); (refine wk6 (A := .slice A' n ca) (U := .slice U (R * R) cu) (V := .slice V (C * C) cv) (bd := false) ?_; ((repeat' (first | with_reducible exact wk.bx | with_reducible refine WBox.drew_ ?_ | with_reducible refine WBox.far ?_ ?_ _)); all_goals (first | omega | (simp; done) | (simp; omega)))))) (fun hHeld => ?_); clear hK K; (try simp only [Act.put, List.setIfInBounds_toArray, List.set_cons_zero, List.set_cons_succ]); refine heldL_take (i := 10) (v := _) (by rfl) (by kernel_rfl) (by kernel_rfl) (by kernel_rfl) (fun _ _ _ h => h) (Or.inl ⟨by rfl, fun wS hSw => by ((try dsimp only at hSw); go_simp; (try with_reducible rfl))⟩) (by assumption) ?_; simp only [Act.put, List.setIfInBounds_toArray, List.set_cons_zero, List.set_cons_succ]; refine wpAnyH_done (by kernel_rfl) ?_ _; refine NoPanic.normal ?_)
        go_wp2_with fail
        refine bodyPost_ret (v := .tuple #[.agg #[.int .i64 R, .int .i64 C, .slice A' n ca], .agg #[.int .i64 R, .int .i64 R, .slice U (R * R) cu], .bool true]) ?_ rfl ?_
        · simp [results, Try.results31, go_sem, zr0, zr1, zr2, zrf, zrl, yr0, yr1, yr2, yrf, yrl]
        · have hoA : Own wc w2.heap.size (.slice A' n ca) (oM2 (some (⟨(R : Int), (C : Int), x.1⟩, ⟨(R : Int), (R : Int), x.2⟩))).1.l := wk.oa
          have hoU : Own wc w2.heap.size (.slice U (R * R) cu) (oM2 (some (⟨(R : Int), (C : Int), x.1⟩, ⟨(R : Int), (R : Int), x.2⟩))).2.l := wk.ou
          exact ⟨_, _, rfl, by exact ownl hoA, by exact ownl hoU, wk.au, by exact bel3 hb g2 g01⟩
end
end Go.Proofs.Ythajmffhgbenpaa

/- Contracts: the program's rows of a matrix, its basis of the rows, its kernel. -/
namespace Go.Proofs.Ythajmffhgbenpaa
set_option linter.unusedSimpArgs false
set_option linter.unusedVariables false
open Go.RowKit

theorem takeF_len {R C : Nat} {l rs : List Int} (hl : l.length = R * C) {k : Nat} (hrs : ∀ i, i < k → 0 ≤ nth rs i ∧ nth rs i < (R : Int)) : ∀ i, i < (takeF C l rs k).length → ((takeF C l rs k).getD i []).length = C := by
  induction k with
  | zero => intro i hi; simp [takeF] at hi
  | succ k ih =>
    intro i hi
    rw [takeF] at hi ⊢
    simp only [List.getD_eq_getElem?_getD]
    by_cases e : i < (takeF C l rs k).length
    · rw [List.getElem?_append_left e]
      have := ih (fun i hi => hrs i (by omega)) i e
      simpa only [List.getD_eq_getElem?_getD] using this
    · rw [List.getElem?_append_right (by omega)]
      have hi0 : i - (takeF C l rs k).length = 0 := by simp at hi; omega
      rw [hi0]
      have h1 := hrs k (by omega)
      show (rowL C l (nth rs k).toNat).length = C
      refine rowL_length ?_
      rw [hl]
      exact Nat.mul_le_mul_right C (by omega)

section
set_option maxHeartbeats 2000000
theorem takeRows_c (R C : Nat) (A A2 : Option Addr) (l rs : List Int) (n cap k cap2 : Nat) (w : World) (hn : l.length = n) (hl : n = R * C) (hR : R ≤ 24) (hC : C ≤ 24) (hcap : n ≤ cap) (hcap2 : cap ≤ 9223372036854775807) (hk : rs.length = k) (hk2 : k ≤ 24) (hrs : ∀ i, i < k → 0 ≤ nth rs i ∧ nth rs i < (R : Int)) (ha : Rd w A l) (ha2 : Rd w A2 rs) :
    Calls Try.prog 56 #[.agg #[.int .i64 R, .int .i64 C, .slice A n cap], .slice A2 k cap2] w (Mat1 ⟨k, C, flatF (takeF C l rs k) k⟩ w) := by
  obtain ⟨w1, hw1, mg, mr, hs1, g01⟩ := one_mat w R C (.slice A n cap)
  have HW1 := Lib.hid hw1
  have HS1 := Lib.hid hs1
  have ha21 : Rd w1 A2 rs := ha2.grows g01
  have HTL := Lib.hid (takeF_len (C := C) (by rw [hn, hl]) hrs)
  have HN := Lib.hid hn
  have HNL := Lib.hid hl
  have HK := Lib.hid hk
  have HRS := Lib.hid hrs
  clear hw1 hs1 hn hl hk hrs
  go_enter Try.func56, Try.ntmps56
  go_wp2_with fail
  rw [← HW1.out]
  go_loopw [5, 11] (fun v i wr => ∃ (I : Nat) (A1 : Option Addr) (c1 : Nat), i = .int .i64 I ∧ I ≤ k ∧ v = .slice A1 I c1 ∧ OwnR 24 adR RSI wr w1.heap.size (.slice A1 I c1) (takeF C l rs I) [] ∧ Below w1.heap.size w1 wr) (fun _ i _ => k - (intOf i).toNat)
  case atStart => exact ⟨0, _, _, rfl, Nat.zero_le _, rfl, OwnR.new_ _ _ _ w1 [] (by have := HS1.out; omega) (by have := HS1.out; omega), by exact bel0⟩
  case round =>
    obtain ⟨I, A1, c1, rfl, hI, rfl, ho, hg⟩ := hrel
    obtain ⟨b0, b1, b2⟩ := (mg.grows hg).cells
    have hsz := Below.size hg
    have hs01 := Below.size g01
    by_cases hlt : I < k
    · have hlt' : (I : Int) < (k : Int) := by omega
      obtain ⟨b, off, rfl, hbs, hcell⟩ := (ha21.grows hg).at_ I (by rw [HK.out]; exact hlt)
      obtain ⟨X, hX⟩ : ∃ X : Nat, nth rs I = X := ⟨(nth rs I).toNat, by have := HRS.out I hlt; omega⟩
      have hXR : X < R := by have := HRS.out I hlt; omega
      have hXC : (X + 1) * C ≤ n := by rw [HNL.out]; exact Nat.mul_le_mul_right C (by omega)
      have HTF := Lib.hid (show takeF C l rs (I + 1) = takeF C l rs I ++ [rowL C l X] by rw [takeF, hX, Int.toNat_natCast])
      have HL7 := Lib.hid (show (takeF C l rs I ++ [rowL C l X]).length = I + 1 by simp [takeF_length])
      rw [hX] at hcell
      clear hX
      have C1 := Lib.hid fun W => row_c R C A l n cap X X W rfl HN.out hcap hcap2 hXC (by omega) (by omega)
      have hrl : (rowL C l X).length = C := rowL_length (by rw [HN.out]; exact hXC)
      have hz0 : RSI w (.slice (rowA cap C A X) C (cap - X * C)) (rowL C l X) := ⟨_, _, by rw [hrl], rowA_rd ha (by rw [HN.out]; exact hXC) (by rw [HN.out]; exact hcap), by rw [hrl]; have := hXC; rw [Nat.add_mul, Nat.one_mul] at this; omega⟩
      have HSEP := Lib.hid (show ∀ g, adR (.slice (rowA cap C A X) C (cap - X * C)) = some g → (Value.slice A1 I c1).ownBlock ≠ some g ∧ ∀ s ∈ ([] : List Value), s.ownBlock ≠ some g from fun g hg2 => ⟨fun e => by have := RSI.good.low _ _ _ _ hz0 hg2; have := (ho.lt e).1; omega, fun s h => by simp at h⟩)
      have HZ0 := Lib.hid hz0
      clear hrl hz0 hXC
      go_wp2_with fail
      refine (C1.out _).mono ?_; rintro e w5 ⟨rfl, g5⟩
      have g15 : Grows w1 w5 := by exact bel2 g5 hg
      have ho5 := ho.grows RSI.good (w' := w5) (by exact bel1 g5)
      have hs5 := Below.size g15
      have hz5 := RSI.good.grows HZ0.out (show Grows w w5 by exact bel2 g15 g01)
      clear b0 b1 b2
      go_wp2_with (at_builtin; refine wpList_appR1 24 36 und_ints info_ints rfl (.tmp 15) (.tmp 19) rfl _ (.slice (rowA cap C A X) C (cap - X * C)) (rowL C l X) RSI.good rfl hz5 w1.heap.size _ (takeF C l rs I) [] (by rfl) ho5 HSEP.out (by rfl) (by rw [takeF_length]; omega) (by omega) ?_; intro v7 w7 ho7 hg7 hv7; obtain ⟨A7, c7, hv7e, _, _⟩ := ho7.val; rw [HL7.out] at hv7e; subst hv7e; have hb7 := below_R ho5 (by omega) hg7; clear hg7 hv7)
      go_round
      case rel => exact ⟨I + 1, _, _, by go_num, by omega, rfl, by rw [HTF.out]; exact ho7, by exact bel2 hb7 g15⟩
      case measure => simp [intOf]; omega
    · obtain rfl : I = k := by omega
      have CF := Lib.hid fun W h => fromRows_c A1 (takeF C l rs I) I c1 C C W (takeF_length C l rs I) (by omega) (by omega) HTL.out h
      have hrd := ho.rd
      go_wp2_with fail
      refine (CF.out _ (by exact hrd.grows RSI.good (by exact bel0))).mono ?_; rintro e w6 hop; obtain ⟨v6, rfl, o6, g6⟩ := mat1_out hop; clear hop
      obtain ⟨A6, c6, rfl, _, _⟩ := o6.val
      have g16 : Grows w1 w6 := by exact bel2 g6 hg
      have mr6 := mr.grows g16
      obtain ⟨zr0, zr1, zr2⟩ := mr6.cells; have zrf := mr6.fz; have zrl := mr6.lt
      have hs1 := HS1.out
      clear b0 b1 b2
      go_wp2_with fail
      refine bodyPost_ret (v := .agg #[.int .i64 I, .int .i64 C, .slice A6 (flatF (takeF C l rs I) I).length c6]) ?_ rfl ?_
      · simp [results, Try.results56, go_sem, zr0, zr1, zr2, zrf, zrl]
      · exact ⟨_, rfl, by exact ownl o6, by exact bel2 g16 g01⟩
theorem flat_all {R C t : Nat} {l : List Int} (hl : l.length = R * C) (ht : t ≤ R) : flatF (takeF C l (upto t (R - t)) (R - t)) (R - t) = l.drop (t * C) := by
  rw [flat_upto hl (R - t) (by omega) (R - t) (Nat.le_refl _)]
  refine List.take_of_length_le ?_
  rw [List.length_drop, hl, Nat.sub_mul]
  exact Nat.le_refl _
theorem flat_take {R C t : Nat} {l : List Int} (hl : l.length = R * C) (ht : t ≤ R) : flatF (takeF C l (upto 0 t) t) t = l.take (t * C) := by
  rw [flat_upto hl t (by omega) t (Nat.le_refl _), Nat.zero_mul, List.drop_zero]
theorem iBas_c (r c : Int) (A : Option Addr) (l : List Int) (n cap : Nat) (w : World) (hn : l.length = n) (ha : Rd w A l) (hl : n ≤ 1099511627776) :
    Calls Try.prog 20 #[.agg #[.int .i64 r, .int .i64 c, .slice A n cap]] w (MatRet (basO ⟨r, c, l⟩) w) := by
  have HH := Lib.hid fun w h => iHerm_c r c A l n cap w hn h hl
  obtain ⟨w1, hw1, mg, mr, hs1, g01⟩ := one_mat w r c (.slice A n cap)
  have HW1 := Lib.hid hw1
  have HS1 := Lib.hid hs1
  have ha1 : Rd w1 A l := ha.grows g01
  clear hw1 hs1 hn
  obtain ⟨RES, hRES⟩ : ∃ x, x = basO ⟨r, c, l⟩ := ⟨_, rfl⟩
  rw [← hRES]
  unfold basO at hRES
  cases hh : hermO ⟨r, c, l⟩ with
  | none =>
    rw [hh] at hRES
    obtain rfl : RES = none := hRES
    rw [hh] at HH
    clear hh
    go_enter Try.func20, Try.ntmps20
    go_wp2_with fail
    rw [← HW1.out]
    refine (HH.out _ ha1).mono ?_; rintro e w2 hop; obtain ⟨A1, k1, A2, k2, rfl, g2⟩ := mat2_none hop; clear hop
    have hz1 := (mg.grows g2).lt
    have hz2 : ¬ w.heap.size = w2.heap.size := by omega
    have hz3 : ¬ w.heap.size + 1 = w2.heap.size := by have := (mr.grows (w' := w2) (by exact bel1 g2)).lt; omega
    (have zr := MBox.grows mr (w' := w2) (by exact bel1 g2); obtain ⟨zr0, zr1, zr2⟩ := zr.cells; have zrf := zr.fz; have zrl := zr.lt; go_wp2_with fail; refine bodyPost_ret (v := .tuple #[.agg #[.int .i64 0, .int .i64 0, .slice none 0 0], .bool false]) ?_ rfl ?_; (simp [results, Try.results20, go_sem, zr0, zr1, zr2, zrf, zrl, hz1, hz2, hz3]); exact ⟨_, rfl, Own.nil _ _, by exact bel2 g2 g01⟩)
  | some x =>
    have hm : isMat r c l = true := by
      cases e : isMat r c l
      · rw [hermO_no (a := ⟨r, c, l⟩) e] at hh; cases hh
      · rfl
    obtain ⟨R, C, rfl, rfl, hR, hC, hlen, hnum⟩ := isMat_nat hm
    obtain ⟨T, a, u, rfl, ok, st, hT⟩ := hermO_some hm hh
    rw [hh] at HH hRES
    simp only [Option.map_some, hT, Int.toNat_natCast] at hRES
    have HR := Lib.hid hRES
    have hal : a.length = R * C := ok.l1
    have hRC : R * C ≤ 576 := Nat.mul_le_mul hR hC
    have htR := st.tR
    have SP := fun W A cp h1 h2 h => split_c R C A a (R * C) cp W hal rfl hR hC h1 h2 h
    rw [st.fullR R (Nat.le_refl _), show min R T = T by omega] at SP
    have SP' := Lib.hid SP
    have TK := fun W A A2 cap cap2 h1 h2 h3 h4 => takeRows_c R C A A2 a (upto 0 T) (R * C) cap T cap2 W hal rfl hR hC h1 h2 (upto_length 0 T) (by omega) (fun i hi => by rw [upto_nth hi]; omega) h3 h4
    rw [flat_take hal htR] at TK
    have TK' := Lib.hid TK
    have HAL := Lib.hid hal
    clear hh hm hRES hlen hnum ok st hal hT SP TK
    go_enter Try.func20, Try.ntmps20
    go_wp2_with fail
    rw [← HW1.out]
    refine (HH.out _ ha1).mono ?_; rintro e w2 hop; obtain ⟨A1, k1, A2, k2, rfl, o1, o2, hne, g2⟩ := mat2_some hop; clear hop
    rw [HAL.out] at o1 ⊢
    have hcp := (o1.caps).2.1
    have hcp2 := (o1.caps).2.2
    have hz1 := (mg.grows g2).lt
    have hz3 := (mr.grows g2).lt
    have hz2 : ¬ w.heap.size = w2.heap.size := by omega
    have mr2 := mr.grows g2
    obtain ⟨w3, hw3⟩ : ∃ w3, w3 = (w2.alloc (.cells #[.int .i64 R, .int .i64 C, .slice A1 (R * C) k1] 26)).alloc (.cells #[.int .i64 R, .int .i64 R, .slice A2 u.length k2] 26) := ⟨_, rfl⟩
    have mh : MBox w3 w2.heap.size R C (.slice A1 (R * C) k1) := by rw [hw3]; exact (MBox.mk_ _ _ _ _ _).alloc _
    have g23 : Grows w2 w3 := by rw [hw3]; exact bel0
    have HW3 := Lib.hid hw3
    have hr1 := o1.rd'
    clear hw3
    go_wp2_with fail
    rw [← HW3.out]
    refine (SP'.out _ _ _ hcp hcp2 (by exact (Rd.grows hr1 (by exact bel1 g23)))).mono ?_; rintro e w4 ⟨v1, v2, rfl, s1, s2, g4⟩
    obtain ⟨A5, c5, rfl, hr5, _⟩ := s1.val
    rw [upto_length] at s1 ⊢
    have g24 : Grows w2 w4 := by exact bel2 g4 g23
    have mh4 := mh.grows g4
    obtain ⟨b0, b1, b2⟩ := mh4.cells
    have hr4 := hr1.grows g24
    go_wp2_with fail
    refine (TK'.out _ _ _ _ _ hcp hcp2 (by exact (Rd.grows hr4 (by exact bel0))) (by exact (Rd.grows hr5 (by exact bel0)))).mono ?_; rintro e w6 hop; obtain ⟨v6, rfl, o6, g6⟩ := mat1_out hop; clear hop
    obtain ⟨A6, c6, rfl, _, _⟩ := o6.val
    have g26 : Grows w2 w6 := by exact bel2 g6 g24
    have g16 : Grows w1 w6 := by exact bel2 g26 g2
    have mr6 := mr2.grows g26
    obtain ⟨zr0, zr1, zr2⟩ := mr6.cells; have zrf := mr6.fz; have zrl := mr6.lt
    have hs1 := HS1.out
    have hsg := Below.size g2
    have hsh := Below.size g24
    clear b0 b1 b2
    obtain rfl : RES = some ⟨T, C, a.take (T * C)⟩ := HR.out
    go_wp2_with fail
    refine bodyPost_ret (v := .tuple #[.agg #[.int .i64 T, .int .i64 C, .slice A6 (a.take (T * C)).length c6], .bool true]) ?_ rfl ?_
    · simp [results, Try.results20, go_sem, zr0, zr1, zr2, zrf, zrl]
    · have o6' : Own w6 w4.heap.size (.slice A6 (a.take (T * C)).length c6) (oM (some ⟨(T : Int), (C : Int), a.take (T * C)⟩)).l := o6
      exact ⟨_, rfl, by exact ownl o6', by exact bel2 g16 g01⟩
theorem iKer_c (r c : Int) (A : Option Addr) (l : List Int) (n cap : Nat) (w : World) (hn : l.length = n) (ha : Rd w A l) (hl : n ≤ 1099511627776) :
    Calls Try.prog 24 #[.agg #[.int .i64 r, .int .i64 c, .slice A n cap]] w (MatRet (kerO ⟨r, c, l⟩) w) := by
  have HH := Lib.hid fun w h => iHerm_c r c A l n cap w hn h hl
  obtain ⟨w1, hw1, mg, mr, hs1, g01⟩ := one_mat w r c (.slice A n cap)
  have HW1 := Lib.hid hw1
  have HS1 := Lib.hid hs1
  have ha1 : Rd w1 A l := ha.grows g01
  clear hw1 hs1 hn
  obtain ⟨RES, hRES⟩ : ∃ x, x = kerO ⟨r, c, l⟩ := ⟨_, rfl⟩
  rw [← hRES]
  unfold kerO at hRES
  cases hh : hermO ⟨r, c, l⟩ with
  | none =>
    rw [hh] at hRES
    obtain rfl : RES = none := hRES
    rw [hh] at HH
    clear hh
    go_enter Try.func24, Try.ntmps24
    go_wp2_with fail
    rw [← HW1.out]
    refine (HH.out _ ha1).mono ?_; rintro e w2 hop; obtain ⟨A1, k1, A2, k2, rfl, g2⟩ := mat2_none hop; clear hop
    have hz1 := (mg.grows g2).lt
    have hz2 : ¬ w.heap.size = w2.heap.size := by omega
    have hz3 : ¬ w.heap.size + 1 = w2.heap.size := by have := (mr.grows (w' := w2) (by exact bel1 g2)).lt; omega
    (have zr := MBox.grows mr (w' := w2) (by exact bel1 g2); obtain ⟨zr0, zr1, zr2⟩ := zr.cells; have zrf := zr.fz; have zrl := zr.lt; go_wp2_with fail; refine bodyPost_ret (v := .tuple #[.agg #[.int .i64 0, .int .i64 0, .slice none 0 0], .bool false]) ?_ rfl ?_; (simp [results, Try.results24, go_sem, zr0, zr1, zr2, zrf, zrl, hz1, hz2, hz3]); exact ⟨_, rfl, Own.nil _ _, by exact bel2 g2 g01⟩)
  | some x =>
    have hm : isMat r c l = true := by
      cases e : isMat r c l
      · rw [hermO_no (a := ⟨r, c, l⟩) e] at hh; cases hh
      · rfl
    obtain ⟨R, C, rfl, rfl, hR, hC, hlen, hnum⟩ := isMat_nat hm
    obtain ⟨T, a, u, rfl, ok, st, hT⟩ := hermO_some hm hh
    rw [hh] at HH hRES
    simp only [Option.bind_some, hT, Int.toNat_natCast] at hRES
    have HR := Lib.hid hRES
    have hal : a.length = R * C := ok.l1
    have hul : u.length = R * R := ok.l2
    have hRC : R * C ≤ 576 := Nat.mul_le_mul hR hC
    have hRR : R * R ≤ 576 := Nat.mul_le_mul hR hR
    have htR := st.tR
    have SP := fun W A cp h1 h2 h => split_c R C A a (R * C) cp W hal rfl hR hC h1 h2 h
    rw [st.zeroR R (Nat.le_refl _)] at SP
    have TK := fun W A A2 cap cap2 h1 h2 h3 h4 => takeRows_c R R A A2 u (upto T (R - T)) (R * R) cap (R - T) cap2 W hul rfl hR hR h1 h2 (upto_length T (R - T)) (by omega) (fun i hi => by rw [upto_nth hi]; omega) h3 h4
    rw [flat_all hul htR] at TK
    have hdl : (u.drop (T * R)).length ≤ 1099511627776 := by rw [List.length_drop, hul]; omega
    have BS := fun W A cp h => iBas_c ((R - T : Nat) : Int) R A (u.drop (T * R)) (u.drop (T * R)).length cp W rfl h hdl
    have hupl := upto_length T (R - T)
    generalize upto T (R - T) = UP at *
    generalize u.drop (T * R) = D at *
    generalize R - T = N at *
    have BS' := Lib.hid BS
    have HUPL := Lib.hid hupl
    have SP' := Lib.hid SP
    have TK' := Lib.hid TK
    clear BS hupl hdl
    have HAL := Lib.hid hal
    have HUL := Lib.hid hul
    clear hh hm hRES hlen hnum ok st hal hul hT SP TK
    go_enter Try.func24, Try.ntmps24
    go_wp2_with fail
    rw [← HW1.out]
    refine (HH.out _ ha1).mono ?_; rintro e w2 hop; obtain ⟨A1, k1, A2, k2, rfl, o1, o2, hne, g2⟩ := mat2_some hop; clear hop
    rw [HAL.out] at o1 ⊢
    rw [HUL.out] at o2 ⊢
    have hcp := (o1.caps).2.1
    have hcp2 := (o1.caps).2.2
    have hcq := (o2.caps).2.1
    have hcq2 := (o2.caps).2.2
    have hz1 := (mg.grows g2).lt
    have hz3 := (mr.grows g2).lt
    have hz2 : ¬ w.heap.size = w2.heap.size := by omega
    have mr2 := mr.grows g2
    obtain ⟨w3, hw3⟩ : ∃ w3, w3 = (w2.alloc (.cells #[.int .i64 R, .int .i64 C, .slice A1 (R * C) k1] 26)).alloc (.cells #[.int .i64 R, .int .i64 R, .slice A2 (R * R) k2] 26) := ⟨_, rfl⟩
    have mh : MBox w3 w2.heap.size R C (.slice A1 (R * C) k1) := by rw [hw3]; exact (MBox.mk_ _ _ _ _ _).alloc _
    have mu : MBox w3 (w2.heap.size + 1) R R (.slice A2 (R * R) k2) := by rw [hw3]; exact MBox.new_ _ _ _ _ _ (by simp)
    have g23 : Grows w2 w3 := by rw [hw3]; exact bel0
    have HW3 := Lib.hid hw3
    have hr1 := o1.rd'
    have hr2 := o2.rd'
    clear hw3
    go_wp2_with fail
    rw [← HW3.out]
    refine (SP'.out _ _ _ hcp hcp2 (by exact (Rd.grows hr1 (by exact bel1 g23)))).mono ?_; rintro e w4 ⟨v1, v2, rfl, s1, s2, g4⟩
    obtain ⟨A4, c4, rfl, _, _⟩ := s1.val
    obtain ⟨A5, c5, rfl, hr5, _⟩ := s2.val
    rw [HUPL.out] at s2 ⊢
    have g24 : Grows w2 w4 := by exact bel2 g4 g23
    have mu4 := mu.grows g4
    obtain ⟨b0, b1, b2⟩ := mu4.cells
    have bl := mu4.lt
    have hr4 := hr2.grows g24
    go_wp2_with fail
    refine (TK'.out _ _ _ _ _ hcq hcq2 (by exact (Rd.grows hr4 (by exact bel0))) (by exact (Rd.grows hr5 (by exact bel0)))).mono ?_; rintro e w6 hop; obtain ⟨v6, rfl, o6, g6⟩ := mat1_out hop; clear hop
    obtain ⟨A6, c6, rfl, hr6, _⟩ := o6.val
    have g26 : Grows w2 w6 := by exact bel2 g6 g24
    clear b0 b1 b2 bl
    go_wp2_with fail
    refine (BS'.out _ _ _ (by exact (Rd.grows hr6 (by exact bel0)))).mono ?_; intro e w7 hop
    rw [← HR.out] at hop
    obtain ⟨v7, rfl, o7, g7⟩ := matRet_out hop
    obtain ⟨A7, c7, rfl, _, _⟩ := o7.val
    have g27 : Grows w2 w7 := by exact bel2 g7 g26
    have g17 : Grows w1 w7 := by exact bel2 g27 g2
    have hs1 := HS1.out
    have hsg := Below.size g2
    have hsh := Below.size g26
    (have zr := MBox.grows mr (w' := w7) (by exact bel1 g17); obtain ⟨zr0, zr1, zr2⟩ := zr.cells; have zrf := zr.fz; have zrl := zr.lt; go_wp2_with fail; refine bodyPost_ret (v := .tuple #[.agg #[.int .i64 (oM RES).r, .int .i64 (oM RES).c, .slice A7 (oM RES).l.length c7], .bool RES.isSome]) ?_ rfl ?_; (simp [results, Try.results24, go_sem, zr0, zr1, zr2, zrf, zrl]); exact ⟨_, rfl, by exact ownl o7, by exact bel2 g17 g01⟩)
end
end Go.Proofs.Ythajmffhgbenpaa
