/- Contracts and lemmas, put together. -/
import Derived.Deep.CutBlock
import Derived.Deep.DeepCutAuto
import Derived.Test.YtbfkpfdkndnhkaaPkD
import Derived.Test.YtbfkpfdkndnhkaaPkG
import Derived.Test.YtbfkpfdkndnhkaaPkI
import Derived.Test.YtbfkpfdkndnhkaaPkSa
/- The loops of the program's Smith round (printed by mksmr.py). -/
namespace Go.Proofs.Ytbfkpfdkndnhkaa
set_option linter.unusedSimpArgs false
set_option linter.unusedVariables false
open Go.RowKit

theorem smA_next_zero {R C t I : Nat} {x y : L3} (h : t + 1 ≤ I) (hy : smA R C t x (I - (t + 1)) = some y) (hz : nth y.1 (I * C + t) = 0) : smA R C t x (I + 1 - (t + 1)) = some y := by
  rw [show I + 1 - (t + 1) = (I - (t + 1)) + 1 by omega, smA, hy]
  show (if nth y.1 ((t + 1 + (I - (t + 1))) * C + t) = 0 then _ else _) = _
  rw [show t + 1 + (I - (t + 1)) = I by omega, if_pos hz]
theorem smA_next {R C t I : Nat} {x y : L3} (h : t + 1 ≤ I) (hy : smA R C t x (I - (t + 1)) = some y) (hz : nth y.1 (I * C + t) ≠ 0) : smA R C t x (I + 1 - (t + 1)) = fit3 (addR3 R C I t (-(nth y.1 (I * C + t) / nth y.1 (t * C + t))) y) := by
  rw [show I + 1 - (t + 1) = (I - (t + 1)) + 1 by omega, smA, hy]
  show (if nth y.1 ((t + 1 + (I - (t + 1))) * C + t) = 0 then _ else _) = _
  rw [show t + 1 + (I - (t + 1)) = I by omega, if_neg hz]
theorem smB_next_zero {R C t I : Nat} {x y : L3} (h : t + 1 ≤ I) (hy : smB R C t x (I - (t + 1)) = some y) (hz : nth y.1 (t * C + I) = 0) : smB R C t x (I + 1 - (t + 1)) = some y := by
  rw [show I + 1 - (t + 1) = (I - (t + 1)) + 1 by omega, smB, hy]
  show (if nth y.1 (t * C + (t + 1 + (I - (t + 1)))) = 0 then _ else _) = _
  rw [show t + 1 + (I - (t + 1)) = I by omega, if_pos hz]
theorem smB_next {R C t I : Nat} {x y : L3} (h : t + 1 ≤ I) (hy : smB R C t x (I - (t + 1)) = some y) (hz : nth y.1 (t * C + I) ≠ 0) : smB R C t x (I + 1 - (t + 1)) = fit3 (addC3 R C I t (-(nth y.1 (t * C + I) / nth y.1 (t * C + t))) y) := by
  rw [show I + 1 - (t + 1) = (I - (t + 1)) + 1 by omega, smB, hy]
  show (if nth y.1 (t * C + (t + 1 + (I - (t + 1)))) = 0 then _ else _) = _
  rw [show t + 1 + (I - (t + 1)) = I by omega, if_neg hz]
theorem smA_dead {R C t k n : Nat} {s : L3} (h : smA R C t s k = none) (hn : k ≤ n) : smA R C t s n = none := by
  induction n with
  | zero => obtain rfl : k = 0 := by omega
            exact h
  | succ n ih =>
    by_cases e : k = n + 1
    · rw [← e]; exact h
    · rw [smA, ih (by omega)]; rfl
theorem smB_dead {R C t k n : Nat} {s : L3} (h : smB R C t s k = none) (hn : k ≤ n) : smB R C t s n = none := by
  induction n with
  | zero => obtain rfl : k = 0 := by omega
            exact h
  | succ n ih =>
    by_cases e : k = n + 1
    · rw [← e]; exact h
    · rw [smB, ih (by omega)]; rfl
section
set_option maxHeartbeats 40000000
set_option maxRecDepth 100000
theorem rb0_c {u2 u3 u4 u5 u6 u7 u8 u10 u11 u12 u13 u14 u15 u16 u17 u18 u19 u20 u21 u22 u23 u24 u25 u26 u27 u28 u29 u30 u31 u32 u33 u34 u35 u36 u37 u38 u39 u40 u41 u42 u43 u44 u45 u46 u47 u48 u49 u50 u51 u52 u53 u54 u55 u56 u57 u58 u59 u60 u61 u62 u63 u64 u65 u66 u67 u68 u69 u70 u71 u72 u73 u74 u75 u76 u77 u78 u79 u80 u81 u82 u83 u84 u85 u86 u87 u88 u89 u90 u91 u92 u93 u94 u95 u96 u97 u98 u99 u100 u101 u102 u103 u104 u105 u106 u107 u108 u109 u110 u111 u112 u113 u114 u115 u116 u117 u118 u119 u120 u121 u122 u123 u124 u125 u126 u127 u128 u129 u130 u131 u132 u133 u134 u135 u136 u137 u138 u139 u140 u141 u142 u143 u144 u145 u146 u147 u148 u149 u150 u151 u152 u153 u154 u155 u156 u157 u158 u159 u160 u161 u162 u163 u164 u165 u166 u167 u168 u169 u170 u171 u172 u173 u174 u175 u176 u177 u178 u179 u180 u181 u182 u183 u184 u185 u186 u187 u188 u189 u190 u191 u192 u193 u194 u195 u196 u197 u198 u199 u200 u201 u202 u203 u204 u205 u206 u207 u208 u209 u210 u211 u212 u213 u214 u215 u216 u217 u218 u219 u220 u221 u222 u223 u224 u225 u226 u227 u228 u229 u230 u231 u232 u233 u234 u235 u236 u237 : Value} {R C B b t : Nat} {x : L3} {w : World} {Q : Exit → Act → World → Prop} {J' K' : Act → World → Prop}
    (hR : R ≤ 24) (hC : C ≤ 24) (htR : t < R) (htC : t < C) (HOK : RowKit.Hid (Ok3 R C x)) (ws : WkS w B b R C x) (hp : nth x.1 (t * C + t) ≠ 0)
    (hJ : ∀ a' w', (∃ (x9 x10 x11 x12 x46 x47 x48 x49 x50 x51 x52 x53 x54 x55 x56 x57 x58 x59 x60 x61 x62 x63 x64 x65 x66 x67 x68 x69 x70 x71 x72 x73 x74 x75 x76 x77 x78 x79 x80 x81 x82 x83 x84 x85 x86 x87 x88 x89 x90 x91 x92 x93 x94 : Value), (WkSO w' B b R C (smA R C t x (R - t - 1)) ∧ Below B w w') ∧ a' = (⟨List.toArray (Value.pointer (some ⟨b, 0, none⟩) :: Value.int .i64 (t : Nat) :: u2 :: u3 :: u4 :: u5 :: u6 :: u7 :: u8 :: x9 :: x10 :: x11 :: x12 :: u13 :: u14 :: u15 :: u16 :: u17 :: u18 :: u19 :: u20 :: u21 :: u22 :: u23 :: u24 :: u25 :: u26 :: u27 :: u28 :: u29 :: u30 :: u31 :: u32 :: u33 :: u34 :: u35 :: u36 :: u37 :: u38 :: u39 :: u40 :: u41 :: u42 :: u43 :: u44 :: u45 :: x46 :: x47 :: x48 :: x49 :: x50 :: x51 :: x52 :: x53 :: x54 :: x55 :: x56 :: x57 :: x58 :: x59 :: x60 :: x61 :: x62 :: x63 :: x64 :: x65 :: x66 :: x67 :: x68 :: x69 :: x70 :: x71 :: x72 :: x73 :: x74 :: x75 :: x76 :: x77 :: x78 :: x79 :: x80 :: x81 :: x82 :: x83 :: x84 :: x85 :: x86 :: x87 :: x88 :: x89 :: x90 :: x91 :: x92 :: x93 :: x94 :: u95 :: u96 :: u97 :: u98 :: u99 :: u100 :: u101 :: u102 :: u103 :: u104 :: u105 :: u106 :: u107 :: u108 :: u109 :: u110 :: u111 :: u112 :: u113 :: u114 :: u115 :: u116 :: u117 :: u118 :: u119 :: u120 :: u121 :: u122 :: u123 :: u124 :: u125 :: u126 :: u127 :: u128 :: u129 :: u130 :: u131 :: u132 :: u133 :: u134 :: u135 :: u136 :: u137 :: u138 :: u139 :: u140 :: u141 :: u142 :: u143 :: u144 :: u145 :: u146 :: u147 :: u148 :: u149 :: u150 :: u151 :: u152 :: u153 :: u154 :: u155 :: u156 :: u157 :: u158 :: u159 :: u160 :: u161 :: u162 :: u163 :: u164 :: u165 :: u166 :: u167 :: u168 :: u169 :: u170 :: u171 :: u172 :: u173 :: u174 :: u175 :: u176 :: u177 :: u178 :: u179 :: u180 :: u181 :: u182 :: u183 :: u184 :: u185 :: u186 :: u187 :: u188 :: u189 :: u190 :: u191 :: u192 :: u193 :: u194 :: u195 :: u196 :: u197 :: u198 :: u199 :: u200 :: u201 :: u202 :: u203 :: u204 :: u205 :: u206 :: u207 :: u208 :: u209 :: u210 :: u211 :: u212 :: u213 :: u214 :: u215 :: u216 :: u217 :: u218 :: u219 :: u220 :: u221 :: u222 :: u223 :: u224 :: u225 :: u226 :: u227 :: u228 :: u229 :: u230 :: u231 :: u232 :: u233 :: u234 :: u235 :: u236 :: u237 :: []), []⟩ : Act)) → J' a' w') (hK : ∀ a' w', Met J' a' w' → K' a' w') :
    Code.wp Try.prog ((blockOf 0 (Try.f165.body.getD .skip)).getD .skip) (Exit.then K' Q) ⟨List.toArray (Value.pointer (some ⟨b, 0, none⟩) :: Value.int .i64 (t : Nat) :: u2 :: u3 :: u4 :: u5 :: u6 :: u7 :: u8 :: Value.int .i64 ((t : Int) + 1) :: u10 :: u11 :: u12 :: u13 :: u14 :: u15 :: u16 :: u17 :: u18 :: u19 :: u20 :: u21 :: u22 :: u23 :: u24 :: u25 :: u26 :: u27 :: u28 :: u29 :: u30 :: u31 :: u32 :: u33 :: u34 :: u35 :: u36 :: u37 :: u38 :: u39 :: u40 :: u41 :: u42 :: u43 :: u44 :: u45 :: u46 :: u47 :: u48 :: u49 :: u50 :: u51 :: u52 :: u53 :: u54 :: u55 :: u56 :: u57 :: u58 :: u59 :: u60 :: u61 :: u62 :: u63 :: u64 :: u65 :: u66 :: u67 :: u68 :: u69 :: u70 :: u71 :: u72 :: u73 :: u74 :: u75 :: u76 :: u77 :: u78 :: u79 :: u80 :: u81 :: u82 :: u83 :: u84 :: u85 :: u86 :: u87 :: u88 :: u89 :: u90 :: u91 :: u92 :: u93 :: u94 :: u95 :: u96 :: u97 :: u98 :: u99 :: u100 :: u101 :: u102 :: u103 :: u104 :: u105 :: u106 :: u107 :: u108 :: u109 :: u110 :: u111 :: u112 :: u113 :: u114 :: u115 :: u116 :: u117 :: u118 :: u119 :: u120 :: u121 :: u122 :: u123 :: u124 :: u125 :: u126 :: u127 :: u128 :: u129 :: u130 :: u131 :: u132 :: u133 :: u134 :: u135 :: u136 :: u137 :: u138 :: u139 :: u140 :: u141 :: u142 :: u143 :: u144 :: u145 :: u146 :: u147 :: u148 :: u149 :: u150 :: u151 :: u152 :: u153 :: u154 :: u155 :: u156 :: u157 :: u158 :: u159 :: u160 :: u161 :: u162 :: u163 :: u164 :: u165 :: u166 :: u167 :: u168 :: u169 :: u170 :: u171 :: u172 :: u173 :: u174 :: u175 :: u176 :: u177 :: u178 :: u179 :: u180 :: u181 :: u182 :: u183 :: u184 :: u185 :: u186 :: u187 :: u188 :: u189 :: u190 :: u191 :: u192 :: u193 :: u194 :: u195 :: u196 :: u197 :: u198 :: u199 :: u200 :: u201 :: u202 :: u203 :: u204 :: u205 :: u206 :: u207 :: u208 :: u209 :: u210 :: u211 :: u212 :: u213 :: u214 :: u215 :: u216 :: u217 :: u218 :: u219 :: u220 :: u221 :: u222 :: u223 :: u224 :: u225 :: u226 :: u227 :: u228 :: u229 :: u230 :: u231 :: u232 :: u233 :: u234 :: u235 :: u236 :: u237 :: []), []⟩ w := by
  conv => arg 2; whnf
  have hRC : R * C ≤ 576 := Nat.mul_le_mul hR hC
  have HIC := Lib.hid fun i (hi : i < R) => (show i * C ≤ 576 from by have := Nat.mul_le_mul_right C (Nat.le_of_lt hi); omega)
  have CC := Lib.hid fun (A : Option Addr) (ca : Nat) (z : L3) (ok : Ok3 R C z) (i j : Nat) (hi : i < R) (hj : j < C) W h => at_c R C A z.1 (R * C) ca i j W ok.l1 h (castMul i C) (by have := castMulLe (HIC.out i hi); omega) (castPos i C j) (castLt (by rw [ok.l1]; exact idx_lt hi hj)) (by rw [ok.l1]; omega)
  go_wp2_with fail
  go_loopw [9] (fun i wr => ∃ (I : Nat) (o : Option L3), i = .int .i64 I ∧ t + 1 ≤ I ∧ I ≤ R ∧ RowKit.Hid ((o = none → smA R C t x (R - t - 1) = none) ∧ ∀ y, o = some y → smA R C t x (I - (t + 1)) = some y) ∧ WkSO wr B b R C o ∧ Below B w wr) (fun i _ => R - (intOf i).toNat)
  case atStart => exact ⟨t + 1, some x, by first | rfl | simp, Nat.le_refl _, by omega, Lib.hid ⟨(fun h => by cases h), fun y h => by cases h; rw [Nat.sub_self]; rfl⟩, ws.toO, Below.refl _ _⟩
  case round =>
    clear ws
    obtain ⟨I, o, rfl, hI1, hI2, HF, wo, hb⟩ := hrel
    cases o with
    | none =>
      have HN : RowKit.Hid (smA R C t x (R - t - 1) = none) := Lib.hid (by first | exact HF.out.1 rfl | exact HF.out.1 trivial)
      obtain ⟨A, U, V, ca, cu, cv, a, u, v, wk⟩ := wo.none
      obtain ⟨b0, b1, b2, b3, b4, b5, b6, b7, b8, b9⟩ := wk.bx.cells
      have bl := wk.bx.lt
      by_cases hlt : I < R
      · have hlt' : (I : Int) < (R : Int) := by omega
        go_wp2_with fail
        go_meet
        exact ⟨by rw [HN.out]; exact wo, hb⟩
      · have hlt' : ¬ (I : Int) < (R : Int) := by omega
        go_wp2_with fail
        go_meet
        exact ⟨by rw [HN.out]; exact wo, hb⟩
    | some y =>
      have ws1 := wo.some
      have wsB : B ≤ wr.heap.size := by
        obtain ⟨A, U, V, ca, cu, cv, wk⟩ := ws1
        exact wk.size
      obtain ⟨A, U, V, ca, cu, cv, wk⟩ := wo.some
      obtain ⟨b0, b1, b2, b3, b4, b5, b6, b7, b8, b9⟩ := wk.bx.cells
      have bl := wk.bx.lt
      have hy := HF.out.2 y rfl
      have E := smA_AI HOK.out htR htC (by omega) hy
      by_cases hlt : I < R
      · have hlt' : (I : Int) < (R : Int) := by omega
        have hpz : nth y.1 (t * C + t) ≠ 0 := by rw [E.same t t htR htC (.inl (Nat.le_refl _))]; exact hp
        have hoky := Lib.hid E.ok
        have C2 := fun W h => CC.out A ca y hoky.out I t hlt htC W h
        rw [castIdx] at C2
        by_cases hz : nth y.1 (I * C + t) = 0
        · have HE := Lib.hid (smA_next_zero hI1 hy hz)
          rw [hz] at C2
          have C2' := Lib.hid C2
          clear hz C2 E hpz hy
          go_wp2_with fail
          refine (C2'.out _ (wk.oa.rd')).mono ?_; rintro e w5 ⟨rfl, g5⟩
          have hb5 : Below B w w5 := Below.trans hb (Below.mono g5 wsB)
          go_wp2_with fail
          go_round
          case rel => exact ⟨I + 1, some y, by go_num, by omega, by omega, Lib.hid ⟨(fun h => by cases h), fun z h => by cases h; exact HE.out⟩, wo.grows g5, hb5⟩
          case measure => simp [intOf]; omega
        · have hz' : (nth y.1 (I * C + t) != 0) = true := by simpa using hz
          have hn1 := (allNum_iff _).1 E.ok.n1 (I * C + t) (by rw [E.ok.l1]; exact idx_lt hlt htC)
          have hn2 := (allNum_iff _).1 E.ok.n1 (t * C + t) (by rw [E.ok.l1]; exact idx_lt htR htC)
          have C3 := fun W h => CC.out A ca y hoky.out t t htR htC W h
          rw [castIdx] at C3
          have CDV := fun W => iDivF_c (nth y.1 (I * C + t)) (nth y.1 (t * C + t)) W hn1 hn2 hpz
          have hq := (isNum_iff _).1 (flQ_num (n := nth y.1 (I * C + t)) (d := nth y.1 (t * C + t)))
          rw [flQ_yes hn1 hn2 hpz] at hq
          have CO := fun W h => addW3_c R C B b I t (-(nth y.1 (I * C + t) / nth y.1 (t * C + t))) y W hR hC hoky.out hlt (by omega) (by omega) (by rw [isNum_iff]; omega) h
          have HE := Lib.hid (smA_next hI1 hy hz)
          have C2' := Lib.hid C2
          have C3' := Lib.hid C3
          have HMON := Lib.hid fun h => smA_dead (R := R) (C := C) (t := t) (s := x) (k := I + 1 - (t + 1)) (n := R - t - 1) h (by omega)
          clear hz C2 C3 E hpz hn1 hn2 hy
          generalize fit3 (addR3 R C I t (-(nth y.1 (I * C + t) / nth y.1 (t * C + t))) y) = o2 at *
          generalize nth y.1 (I * C + t) / nth y.1 (t * C + t) = q at *
          generalize nth y.1 (I * C + t) % nth y.1 (t * C + t) = q1 at *
          generalize nth y.1 (I * C + t) = c1 at *
          generalize nth y.1 (t * C + t) = c2 at *
          have CDV' := Lib.hid CDV
          have CO1 := Lib.hid CO
          clear CDV CO
          go_wp2_with fail
          refine (C2'.out _ (wk.oa.rd')).mono ?_; rintro e w5 ⟨rfl, g5⟩
          have wk5 := wk.grows g5
          have ws5 := ws1.grows g5
          have hb5 : Below B w w5 := Below.trans hb (Below.mono g5 wsB)
          have hs5 := Below.size g5
          clear b0 b1 b2 b3 b4 b5 b6 b7 b8 b9 bl
          have hrd := wk5.oa.rd'
          obtain ⟨d0, d1, d2, d9⟩ := wk5.bx.ext
          have bl := wk5.bx.lt
          go_wp2_with fail
          ((refine wp_region_ext (by kernel_rfl) (by kernel_rfl) ?_); (repeat (go_big_quiet_step ((first | (go_at_call 53; with_reducible exact extC (C2'.out _ (Rd.ext hrd _))) | (go_at_call 53; with_reducible exact extC (C3'.out _ (Rd.ext hrd _))) | (go_at_call 102; with_reducible exact extC (CDV'.out _)))))); refine wpQuiet_nil ?_; rintro w6 ⟨w60, hw60⟩; have g6 := grows_of_ext hw60; clear hw60 w60)
          have ws6 := ws5.grows g6
          have hb6 : Below B w w6 := Below.trans hb5 (Below.mono g6 (by omega))
          clear d0 d1 d2 d9 hrd
          go_wp2_with fail
          refine (CO1.out _ ws6).mono ?_; rintro e w7 ⟨rfl, ws7, hb7⟩
          have hb8 : Below B w w7 := Below.trans hb6 hb7
          clear hb7
          go_wp2_with fail
          go_round
          case rel => exact ⟨I + 1, o2, by go_num, by omega, by omega, Lib.hid ⟨fun h => HMON.out (by rw [HE.out, h]), fun z h => by rw [HE.out, h]⟩, ws7, hb8⟩
          case measure => simp [intOf]; omega
      · have eK : I = R := by omega
        have HE2 := Lib.hid (show smA R C t x (R - t - 1) = some y by rw [← hy, eK, Nat.sub_sub])
        have hlt' : ¬ (I : Int) < (R : Int) := by omega
        clear E eK hy
        go_wp2_with fail
        go_meet
        exact ⟨by rw [HE2.out]; exact wo, hb⟩
end
end Go.Proofs.Ytbfkpfdkndnhkaa

/- The loops of the program's Smith round (printed by mksmr.py). -/
namespace Go.Proofs.Ytbfkpfdkndnhkaa
set_option linter.unusedSimpArgs false
set_option linter.unusedVariables false
open Go.RowKit

section
set_option maxHeartbeats 40000000
set_option maxRecDepth 100000
theorem rb2_c {u2 u3 u4 u5 u6 u7 u8 u9 u10 u11 u12 u14 u15 u16 u17 u18 u19 u20 u21 u22 u23 u24 u25 u26 u27 u28 u29 u30 u31 u32 u33 u34 u35 u36 u37 u38 u39 u40 u41 u42 u43 u44 u45 u46 u47 u48 u49 u50 u51 u52 u53 u54 u55 u56 u57 u58 u59 u60 u61 u62 u63 u64 u65 u66 u67 u68 u69 u70 u71 u72 u73 u74 u75 u76 u77 u78 u79 u80 u81 u82 u83 u84 u85 u86 u87 u88 u89 u90 u91 u92 u93 u94 u95 u96 u97 u98 u99 u100 u101 u102 u103 u104 u105 u106 u107 u108 u109 u110 u111 u112 u113 u114 u115 u116 u117 u118 u119 u120 u121 u122 u123 u124 u125 u126 u127 u128 u129 u130 u131 u132 u133 u134 u135 u136 u137 u138 u139 u140 u141 u142 u143 u144 u145 u146 u147 u148 u149 u150 u151 u152 u153 u154 u155 u156 u157 u158 u159 u160 u161 u162 u163 u164 u165 u166 u167 u168 u169 u170 u171 u172 u173 u174 u175 u176 u177 u178 u179 u180 u181 u182 u183 u184 u185 u186 u187 u188 u189 u190 u191 u192 u193 u194 u195 u196 u197 u198 u199 u200 u201 u202 u203 u204 u205 u206 u207 u208 u209 u210 u211 u212 u213 u214 u215 u216 u217 u218 u219 u220 u221 u222 u223 u224 u225 u226 u227 u228 u229 u230 u231 u232 u233 u234 u235 u236 u237 : Value} {R C B b t : Nat} {x : L3} {w : World} {Q : Exit → Act → World → Prop} {J' K' : Act → World → Prop}
    (hR : R ≤ 24) (hC : C ≤ 24) (htR : t < R) (htC : t < C) (HOK : RowKit.Hid (Ok3 R C x)) (ws : WkS w B b R C x) (hp : nth x.1 (t * C + t) ≠ 0)
    (hJ : ∀ a' w', (∃ (x13 x14 x15 x16 x97 x98 x99 x100 x101 x102 x103 x104 x105 x106 x107 x108 x109 x110 x111 x112 x113 x114 x115 x116 x117 x118 x119 x120 x121 x122 x123 x124 x125 x126 x127 x128 x129 x130 x131 x132 x133 x134 x135 x136 x137 x138 x139 x140 x141 x142 x143 x144 x145 x146 : Value), (WkSO w' B b R C (smB R C t x (C - t - 1)) ∧ Below B w w') ∧ a' = (⟨List.toArray (Value.pointer (some ⟨b, 0, none⟩) :: Value.int .i64 (t : Nat) :: u2 :: u3 :: u4 :: u5 :: u6 :: u7 :: u8 :: u9 :: u10 :: u11 :: u12 :: x13 :: x14 :: x15 :: x16 :: u17 :: u18 :: u19 :: u20 :: u21 :: u22 :: u23 :: u24 :: u25 :: u26 :: u27 :: u28 :: u29 :: u30 :: u31 :: u32 :: u33 :: u34 :: u35 :: u36 :: u37 :: u38 :: u39 :: u40 :: u41 :: u42 :: u43 :: u44 :: u45 :: u46 :: u47 :: u48 :: u49 :: u50 :: u51 :: u52 :: u53 :: u54 :: u55 :: u56 :: u57 :: u58 :: u59 :: u60 :: u61 :: u62 :: u63 :: u64 :: u65 :: u66 :: u67 :: u68 :: u69 :: u70 :: u71 :: u72 :: u73 :: u74 :: u75 :: u76 :: u77 :: u78 :: u79 :: u80 :: u81 :: u82 :: u83 :: u84 :: u85 :: u86 :: u87 :: u88 :: u89 :: u90 :: u91 :: u92 :: u93 :: u94 :: u95 :: u96 :: x97 :: x98 :: x99 :: x100 :: x101 :: x102 :: x103 :: x104 :: x105 :: x106 :: x107 :: x108 :: x109 :: x110 :: x111 :: x112 :: x113 :: x114 :: x115 :: x116 :: x117 :: x118 :: x119 :: x120 :: x121 :: x122 :: x123 :: x124 :: x125 :: x126 :: x127 :: x128 :: x129 :: x130 :: x131 :: x132 :: x133 :: x134 :: x135 :: x136 :: x137 :: x138 :: x139 :: x140 :: x141 :: x142 :: x143 :: x144 :: x145 :: x146 :: u147 :: u148 :: u149 :: u150 :: u151 :: u152 :: u153 :: u154 :: u155 :: u156 :: u157 :: u158 :: u159 :: u160 :: u161 :: u162 :: u163 :: u164 :: u165 :: u166 :: u167 :: u168 :: u169 :: u170 :: u171 :: u172 :: u173 :: u174 :: u175 :: u176 :: u177 :: u178 :: u179 :: u180 :: u181 :: u182 :: u183 :: u184 :: u185 :: u186 :: u187 :: u188 :: u189 :: u190 :: u191 :: u192 :: u193 :: u194 :: u195 :: u196 :: u197 :: u198 :: u199 :: u200 :: u201 :: u202 :: u203 :: u204 :: u205 :: u206 :: u207 :: u208 :: u209 :: u210 :: u211 :: u212 :: u213 :: u214 :: u215 :: u216 :: u217 :: u218 :: u219 :: u220 :: u221 :: u222 :: u223 :: u224 :: u225 :: u226 :: u227 :: u228 :: u229 :: u230 :: u231 :: u232 :: u233 :: u234 :: u235 :: u236 :: u237 :: []), []⟩ : Act)) → J' a' w') (hK : ∀ a' w', Met J' a' w' → K' a' w') :
    Code.wp Try.prog ((blockOf 2 (Try.f165.body.getD .skip)).getD .skip) (Exit.then K' Q) ⟨List.toArray (Value.pointer (some ⟨b, 0, none⟩) :: Value.int .i64 (t : Nat) :: u2 :: u3 :: u4 :: u5 :: u6 :: u7 :: u8 :: u9 :: u10 :: u11 :: u12 :: Value.int .i64 ((t : Int) + 1) :: u14 :: u15 :: u16 :: u17 :: u18 :: u19 :: u20 :: u21 :: u22 :: u23 :: u24 :: u25 :: u26 :: u27 :: u28 :: u29 :: u30 :: u31 :: u32 :: u33 :: u34 :: u35 :: u36 :: u37 :: u38 :: u39 :: u40 :: u41 :: u42 :: u43 :: u44 :: u45 :: u46 :: u47 :: u48 :: u49 :: u50 :: u51 :: u52 :: u53 :: u54 :: u55 :: u56 :: u57 :: u58 :: u59 :: u60 :: u61 :: u62 :: u63 :: u64 :: u65 :: u66 :: u67 :: u68 :: u69 :: u70 :: u71 :: u72 :: u73 :: u74 :: u75 :: u76 :: u77 :: u78 :: u79 :: u80 :: u81 :: u82 :: u83 :: u84 :: u85 :: u86 :: u87 :: u88 :: u89 :: u90 :: u91 :: u92 :: u93 :: u94 :: u95 :: u96 :: u97 :: u98 :: u99 :: u100 :: u101 :: u102 :: u103 :: u104 :: u105 :: u106 :: u107 :: u108 :: u109 :: u110 :: u111 :: u112 :: u113 :: u114 :: u115 :: u116 :: u117 :: u118 :: u119 :: u120 :: u121 :: u122 :: u123 :: u124 :: u125 :: u126 :: u127 :: u128 :: u129 :: u130 :: u131 :: u132 :: u133 :: u134 :: u135 :: u136 :: u137 :: u138 :: u139 :: u140 :: u141 :: u142 :: u143 :: u144 :: u145 :: u146 :: u147 :: u148 :: u149 :: u150 :: u151 :: u152 :: u153 :: u154 :: u155 :: u156 :: u157 :: u158 :: u159 :: u160 :: u161 :: u162 :: u163 :: u164 :: u165 :: u166 :: u167 :: u168 :: u169 :: u170 :: u171 :: u172 :: u173 :: u174 :: u175 :: u176 :: u177 :: u178 :: u179 :: u180 :: u181 :: u182 :: u183 :: u184 :: u185 :: u186 :: u187 :: u188 :: u189 :: u190 :: u191 :: u192 :: u193 :: u194 :: u195 :: u196 :: u197 :: u198 :: u199 :: u200 :: u201 :: u202 :: u203 :: u204 :: u205 :: u206 :: u207 :: u208 :: u209 :: u210 :: u211 :: u212 :: u213 :: u214 :: u215 :: u216 :: u217 :: u218 :: u219 :: u220 :: u221 :: u222 :: u223 :: u224 :: u225 :: u226 :: u227 :: u228 :: u229 :: u230 :: u231 :: u232 :: u233 :: u234 :: u235 :: u236 :: u237 :: []), []⟩ w := by
  conv => arg 2; whnf
  have hRC : R * C ≤ 576 := Nat.mul_le_mul hR hC
  have HIC := Lib.hid fun i (hi : i < R) => (show i * C ≤ 576 from by have := Nat.mul_le_mul_right C (Nat.le_of_lt hi); omega)
  have CC := Lib.hid fun (A : Option Addr) (ca : Nat) (z : L3) (ok : Ok3 R C z) (i j : Nat) (hi : i < R) (hj : j < C) W h => at_c R C A z.1 (R * C) ca i j W ok.l1 h (castMul i C) (by have := castMulLe (HIC.out i hi); omega) (castPos i C j) (castLt (by rw [ok.l1]; exact idx_lt hi hj)) (by rw [ok.l1]; omega)
  go_wp2_with fail
  go_loopw [13] (fun i wr => ∃ (I : Nat) (o : Option L3), i = .int .i64 I ∧ t + 1 ≤ I ∧ I ≤ C ∧ RowKit.Hid ((o = none → smB R C t x (C - t - 1) = none) ∧ ∀ y, o = some y → smB R C t x (I - (t + 1)) = some y) ∧ WkSO wr B b R C o ∧ Below B w wr) (fun i _ => C - (intOf i).toNat)
  case atStart => exact ⟨t + 1, some x, by first | rfl | simp, Nat.le_refl _, by omega, Lib.hid ⟨(fun h => by cases h), fun y h => by cases h; rw [Nat.sub_self]; rfl⟩, ws.toO, Below.refl _ _⟩
  case round =>
    clear ws
    obtain ⟨I, o, rfl, hI1, hI2, HF, wo, hb⟩ := hrel
    cases o with
    | none =>
      have HN : RowKit.Hid (smB R C t x (C - t - 1) = none) := Lib.hid (by first | exact HF.out.1 rfl | exact HF.out.1 trivial)
      obtain ⟨A, U, V, ca, cu, cv, a, u, v, wk⟩ := wo.none
      obtain ⟨b0, b1, b2, b3, b4, b5, b6, b7, b8, b9⟩ := wk.bx.cells
      have bl := wk.bx.lt
      by_cases hlt : I < C
      · have hlt' : (I : Int) < (C : Int) := by omega
        go_wp2_with fail
        go_meet
        exact ⟨by rw [HN.out]; exact wo, hb⟩
      · have hlt' : ¬ (I : Int) < (C : Int) := by omega
        go_wp2_with fail
        go_meet
        exact ⟨by rw [HN.out]; exact wo, hb⟩
    | some y =>
      have ws1 := wo.some
      have wsB : B ≤ wr.heap.size := by
        obtain ⟨A, U, V, ca, cu, cv, wk⟩ := ws1
        exact wk.size
      obtain ⟨A, U, V, ca, cu, cv, wk⟩ := wo.some
      obtain ⟨b0, b1, b2, b3, b4, b5, b6, b7, b8, b9⟩ := wk.bx.cells
      have bl := wk.bx.lt
      have hy := HF.out.2 y rfl
      have E := smB_BI HOK.out htR htC (by omega) hy
      by_cases hlt : I < C
      · have hlt' : (I : Int) < (C : Int) := by omega
        have hpz : nth y.1 (t * C + t) ≠ 0 := by rw [E.same t t htR htC (.inl (Nat.le_refl _))]; exact hp
        have hoky := Lib.hid E.ok
        have C2 := fun W h => CC.out A ca y hoky.out t I htR hlt W h
        rw [castIdx] at C2
        by_cases hz : nth y.1 (t * C + I) = 0
        · have HE := Lib.hid (smB_next_zero hI1 hy hz)
          rw [hz] at C2
          have C2' := Lib.hid C2
          clear hz C2 E hpz hy
          go_wp2_with fail
          refine (C2'.out _ (wk.oa.rd')).mono ?_; rintro e w5 ⟨rfl, g5⟩
          have hb5 : Below B w w5 := Below.trans hb (Below.mono g5 wsB)
          go_wp2_with fail
          go_round
          case rel => exact ⟨I + 1, some y, by go_num, by omega, by omega, Lib.hid ⟨(fun h => by cases h), fun z h => by cases h; exact HE.out⟩, wo.grows g5, hb5⟩
          case measure => simp [intOf]; omega
        · have hz' : (nth y.1 (t * C + I) != 0) = true := by simpa using hz
          have hn1 := (allNum_iff _).1 E.ok.n1 (t * C + I) (by rw [E.ok.l1]; exact idx_lt htR hlt)
          have hn2 := (allNum_iff _).1 E.ok.n1 (t * C + t) (by rw [E.ok.l1]; exact idx_lt htR htC)
          have C3 := fun W h => CC.out A ca y hoky.out t t htR htC W h
          rw [castIdx] at C3
          have CDV := fun W => iDivF_c (nth y.1 (t * C + I)) (nth y.1 (t * C + t)) W hn1 hn2 hpz
          have hq := (isNum_iff _).1 (flQ_num (n := nth y.1 (t * C + I)) (d := nth y.1 (t * C + t)))
          rw [flQ_yes hn1 hn2 hpz] at hq
          have CO := fun W h => addC3_c R C B b I t (-(nth y.1 (t * C + I) / nth y.1 (t * C + t))) y W hR hC hoky.out hlt (by omega) (by omega) (by rw [isNum_iff]; omega) h
          have HE := Lib.hid (smB_next hI1 hy hz)
          have C2' := Lib.hid C2
          have C3' := Lib.hid C3
          have HMON := Lib.hid fun h => smB_dead (R := R) (C := C) (t := t) (s := x) (k := I + 1 - (t + 1)) (n := C - t - 1) h (by omega)
          clear hz C2 C3 E hpz hn1 hn2 hy
          generalize fit3 (addC3 R C I t (-(nth y.1 (t * C + I) / nth y.1 (t * C + t))) y) = o2 at *
          generalize nth y.1 (t * C + I) / nth y.1 (t * C + t) = q at *
          generalize nth y.1 (t * C + I) % nth y.1 (t * C + t) = q1 at *
          generalize nth y.1 (t * C + I) = c1 at *
          generalize nth y.1 (t * C + t) = c2 at *
          have CDV' := Lib.hid CDV
          have CO1 := Lib.hid CO
          clear CDV CO
          go_wp2_with fail
          refine (C2'.out _ (wk.oa.rd')).mono ?_; rintro e w5 ⟨rfl, g5⟩
          have wk5 := wk.grows g5
          have ws5 := ws1.grows g5
          have hb5 : Below B w w5 := Below.trans hb (Below.mono g5 wsB)
          have hs5 := Below.size g5
          clear b0 b1 b2 b3 b4 b5 b6 b7 b8 b9 bl
          have hrd := wk5.oa.rd'
          obtain ⟨d0, d1, d2, d9⟩ := wk5.bx.ext
          have bl := wk5.bx.lt
          go_wp2_with fail
          ((refine wp_region_ext (by kernel_rfl) (by kernel_rfl) ?_); (repeat (go_big_quiet_step ((first | (go_at_call 53; with_reducible exact extC (C2'.out _ (Rd.ext hrd _))) | (go_at_call 53; with_reducible exact extC (C3'.out _ (Rd.ext hrd _))) | (go_at_call 102; with_reducible exact extC (CDV'.out _)))))); refine wpQuiet_nil ?_; rintro w6 ⟨w60, hw60⟩; have g6 := grows_of_ext hw60; clear hw60 w60)
          have ws6 := ws5.grows g6
          have hb6 : Below B w w6 := Below.trans hb5 (Below.mono g6 (by omega))
          clear d0 d1 d2 d9 hrd
          go_wp2_with fail
          refine (CO1.out _ ws6).mono ?_; rintro e w7 ⟨rfl, ws7, hb7⟩
          have hb8 : Below B w w7 := Below.trans hb6 hb7
          clear hb7
          go_wp2_with fail
          go_round
          case rel => exact ⟨I + 1, o2, by go_num, by omega, by omega, Lib.hid ⟨fun h => HMON.out (by rw [HE.out, h]), fun z h => by rw [HE.out, h]⟩, ws7, hb8⟩
          case measure => simp [intOf]; omega
      · have eK : I = C := by omega
        have HE2 := Lib.hid (show smB R C t x (C - t - 1) = some y by rw [← hy, eK, Nat.sub_sub])
        have hlt' : ¬ (I : Int) < (C : Int) := by omega
        clear E eK hy
        go_wp2_with fail
        go_meet
        exact ⟨by rw [HE2.out]; exact wo, hb⟩
end
end Go.Proofs.Ytbfkpfdkndnhkaa

/- The loops of the program's Smith round (printed by mksmr.py). -/
namespace Go.Proofs.Ytbfkpfdkndnhkaa
set_option linter.unusedSimpArgs false
set_option linter.unusedVariables false
open Go.RowKit

section
set_option maxHeartbeats 40000000
set_option maxRecDepth 100000
theorem rb4_c {u2 u3 u4 u5 u6 u7 u9 u10 u11 u12 u13 u14 u15 u16 u18 u19 u20 u21 u22 u23 u24 u25 u26 u27 u28 u29 u30 u31 u32 u33 u34 u35 u36 u37 u38 u39 u40 u41 u42 u43 u44 u45 u46 u47 u48 u49 u50 u51 u52 u53 u54 u55 u56 u57 u58 u59 u60 u61 u62 u63 u64 u65 u66 u67 u68 u69 u70 u71 u72 u73 u74 u75 u76 u77 u78 u79 u80 u81 u82 u83 u84 u85 u86 u87 u88 u89 u90 u91 u92 u93 u94 u95 u96 u97 u98 u99 u100 u101 u102 u103 u104 u105 u106 u107 u108 u109 u110 u111 u112 u113 u114 u115 u116 u117 u118 u119 u120 u121 u122 u123 u124 u125 u126 u127 u128 u129 u130 u131 u132 u133 u134 u135 u136 u137 u138 u139 u140 u141 u142 u143 u144 u145 u146 u147 u148 u149 u150 u151 u152 u153 u154 u155 u156 u157 u158 u159 u160 u161 u162 u163 u164 u165 u166 u167 u168 u169 u170 u171 u172 u173 u174 u175 u176 u177 u178 u179 u180 u181 u182 u183 u184 u185 u186 u187 u188 u189 u190 u191 u192 u193 u194 u195 u196 u197 u198 u199 u200 u201 u202 u203 u204 u205 u206 u207 u208 u209 u210 u211 u212 u213 u214 u215 u216 u217 u218 u219 u220 u221 u222 u223 u224 u225 u226 u227 u228 u229 u230 u231 u232 u233 u234 u235 u236 u237 : Value} {R C B b t : Nat} {x : L3} {w : World} {Q : Exit → Act → World → Prop} {J' K' : Act → World → Prop}
    (hR : R ≤ 24) (hC : C ≤ 24) (htR : t < R) (htC : t < C) (HOK : RowKit.Hid (Ok3 R C x)) (ws : WkS w B b R C x)
    (hJ : ∀ a' w', (∃ (x8 x17 x153 x154 x155 x156 x157 x158 x159 x160 x161 x162 x163 x164 x165 x166 x167 x168 x169 x170 x171 x172 : Value), (x8 = .bool (lfA C t x.1 (R - t - 1)) ∧ Grows w w') ∧ a' = (⟨List.toArray (Value.pointer (some ⟨b, 0, none⟩) :: Value.int .i64 (t : Nat) :: u2 :: u3 :: u4 :: u5 :: u6 :: u7 :: x8 :: u9 :: u10 :: u11 :: u12 :: u13 :: u14 :: u15 :: u16 :: x17 :: u18 :: u19 :: u20 :: u21 :: u22 :: u23 :: u24 :: u25 :: u26 :: u27 :: u28 :: u29 :: u30 :: u31 :: u32 :: u33 :: u34 :: u35 :: u36 :: u37 :: u38 :: u39 :: u40 :: u41 :: u42 :: u43 :: u44 :: u45 :: u46 :: u47 :: u48 :: u49 :: u50 :: u51 :: u52 :: u53 :: u54 :: u55 :: u56 :: u57 :: u58 :: u59 :: u60 :: u61 :: u62 :: u63 :: u64 :: u65 :: u66 :: u67 :: u68 :: u69 :: u70 :: u71 :: u72 :: u73 :: u74 :: u75 :: u76 :: u77 :: u78 :: u79 :: u80 :: u81 :: u82 :: u83 :: u84 :: u85 :: u86 :: u87 :: u88 :: u89 :: u90 :: u91 :: u92 :: u93 :: u94 :: u95 :: u96 :: u97 :: u98 :: u99 :: u100 :: u101 :: u102 :: u103 :: u104 :: u105 :: u106 :: u107 :: u108 :: u109 :: u110 :: u111 :: u112 :: u113 :: u114 :: u115 :: u116 :: u117 :: u118 :: u119 :: u120 :: u121 :: u122 :: u123 :: u124 :: u125 :: u126 :: u127 :: u128 :: u129 :: u130 :: u131 :: u132 :: u133 :: u134 :: u135 :: u136 :: u137 :: u138 :: u139 :: u140 :: u141 :: u142 :: u143 :: u144 :: u145 :: u146 :: u147 :: u148 :: u149 :: u150 :: u151 :: u152 :: x153 :: x154 :: x155 :: x156 :: x157 :: x158 :: x159 :: x160 :: x161 :: x162 :: x163 :: x164 :: x165 :: x166 :: x167 :: x168 :: x169 :: x170 :: x171 :: x172 :: u173 :: u174 :: u175 :: u176 :: u177 :: u178 :: u179 :: u180 :: u181 :: u182 :: u183 :: u184 :: u185 :: u186 :: u187 :: u188 :: u189 :: u190 :: u191 :: u192 :: u193 :: u194 :: u195 :: u196 :: u197 :: u198 :: u199 :: u200 :: u201 :: u202 :: u203 :: u204 :: u205 :: u206 :: u207 :: u208 :: u209 :: u210 :: u211 :: u212 :: u213 :: u214 :: u215 :: u216 :: u217 :: u218 :: u219 :: u220 :: u221 :: u222 :: u223 :: u224 :: u225 :: u226 :: u227 :: u228 :: u229 :: u230 :: u231 :: u232 :: u233 :: u234 :: u235 :: u236 :: u237 :: []), []⟩ : Act)) → J' a' w') (hK : ∀ a' w', Met J' a' w' → K' a' w') :
    Code.wp Try.prog ((blockOf 4 (Try.f165.body.getD .skip)).getD .skip) (Exit.then K' Q) ⟨List.toArray (Value.pointer (some ⟨b, 0, none⟩) :: Value.int .i64 (t : Nat) :: u2 :: u3 :: u4 :: u5 :: u6 :: u7 :: Value.bool false :: u9 :: u10 :: u11 :: u12 :: u13 :: u14 :: u15 :: u16 :: Value.int .i64 ((t : Int) + 1) :: u18 :: u19 :: u20 :: u21 :: u22 :: u23 :: u24 :: u25 :: u26 :: u27 :: u28 :: u29 :: u30 :: u31 :: u32 :: u33 :: u34 :: u35 :: u36 :: u37 :: u38 :: u39 :: u40 :: u41 :: u42 :: u43 :: u44 :: u45 :: u46 :: u47 :: u48 :: u49 :: u50 :: u51 :: u52 :: u53 :: u54 :: u55 :: u56 :: u57 :: u58 :: u59 :: u60 :: u61 :: u62 :: u63 :: u64 :: u65 :: u66 :: u67 :: u68 :: u69 :: u70 :: u71 :: u72 :: u73 :: u74 :: u75 :: u76 :: u77 :: u78 :: u79 :: u80 :: u81 :: u82 :: u83 :: u84 :: u85 :: u86 :: u87 :: u88 :: u89 :: u90 :: u91 :: u92 :: u93 :: u94 :: u95 :: u96 :: u97 :: u98 :: u99 :: u100 :: u101 :: u102 :: u103 :: u104 :: u105 :: u106 :: u107 :: u108 :: u109 :: u110 :: u111 :: u112 :: u113 :: u114 :: u115 :: u116 :: u117 :: u118 :: u119 :: u120 :: u121 :: u122 :: u123 :: u124 :: u125 :: u126 :: u127 :: u128 :: u129 :: u130 :: u131 :: u132 :: u133 :: u134 :: u135 :: u136 :: u137 :: u138 :: u139 :: u140 :: u141 :: u142 :: u143 :: u144 :: u145 :: u146 :: u147 :: u148 :: u149 :: u150 :: u151 :: u152 :: u153 :: u154 :: u155 :: u156 :: u157 :: u158 :: u159 :: u160 :: u161 :: u162 :: u163 :: u164 :: u165 :: u166 :: u167 :: u168 :: u169 :: u170 :: u171 :: u172 :: u173 :: u174 :: u175 :: u176 :: u177 :: u178 :: u179 :: u180 :: u181 :: u182 :: u183 :: u184 :: u185 :: u186 :: u187 :: u188 :: u189 :: u190 :: u191 :: u192 :: u193 :: u194 :: u195 :: u196 :: u197 :: u198 :: u199 :: u200 :: u201 :: u202 :: u203 :: u204 :: u205 :: u206 :: u207 :: u208 :: u209 :: u210 :: u211 :: u212 :: u213 :: u214 :: u215 :: u216 :: u217 :: u218 :: u219 :: u220 :: u221 :: u222 :: u223 :: u224 :: u225 :: u226 :: u227 :: u228 :: u229 :: u230 :: u231 :: u232 :: u233 :: u234 :: u235 :: u236 :: u237 :: []), []⟩ w := by
  conv => arg 2; whnf
  have hRC : R * C ≤ 576 := Nat.mul_le_mul hR hC
  have HIC := Lib.hid fun i (hi : i < R) => (show i * C ≤ 576 from by have := Nat.mul_le_mul_right C (Nat.le_of_lt hi); omega)
  have CC := Lib.hid fun (A : Option Addr) (ca : Nat) (z : L3) (ok : Ok3 R C z) (i j : Nat) (hi : i < R) (hj : j < C) W h => at_c R C A z.1 (R * C) ca i j W ok.l1 h (castMul i C) (by have := castMulLe (HIC.out i hi); omega) (castPos i C j) (castLt (by rw [ok.l1]; exact idx_lt hi hj)) (by rw [ok.l1]; omega)
  obtain ⟨A, U, V, ca, cu, cv, wk0⟩ := ws
  go_wp2_with fail
  go_loopw [8, 17] (fun l i wr => ∃ (I : Nat), i = .int .i64 I ∧ t + 1 ≤ I ∧ I ≤ R ∧ l = .bool (lfA C t x.1 (I - (t + 1))) ∧ Grows w wr) (fun _ i _ => R - (intOf i).toNat)
  case atStart => exact ⟨t + 1, by first | rfl | simp, Nat.le_refl _, by omega, by rw [Nat.sub_self]; simp [lfA], Below.refl _ _⟩
  case round =>
    obtain ⟨I, rfl, hI1, hI2, rfl, hg⟩ := hrel
    have wk := wk0.grows hg
    obtain ⟨b0, b1, b2, b3, b4, b5, b6, b7, b8, b9⟩ := wk.bx.cells
    have bl := wk.bx.lt
    by_cases hlt : I < R
    · have hlt' : (I : Int) < (R : Int) := by omega
      have HNX := Lib.hid (show lfA C t x.1 (I + 1 - (t + 1)) = (lfA C t x.1 (I - (t + 1)) || decide (nth x.1 (I * C + t) ≠ 0)) by rw [show I + 1 - (t + 1) = (I - (t + 1)) + 1 by omega, lfA, show t + 1 + (I - (t + 1)) = I by omega])
      have C2 := fun W h => CC.out A ca x HOK.out I t hlt htC W h
      rw [castIdx] at C2
      cases hF : (lfA C t x.1 (I - (t + 1)))
      · by_cases hz : nth x.1 (I * C + t) = 0
        · have HX := Lib.hid (show (lfA C t x.1 (I + 1 - (t + 1))) = false by rw [HNX.out]; simp only [hF, hz]; rfl)
          rw [hz] at C2
          have C2' := Lib.hid C2
          clear C2 hz hF HNX
          go_wp2_with fail
          refine (C2'.out _ (wk.oa.rd')).mono ?_; rintro e w5 ⟨rfl, g5⟩
          go_wp2_with fail
          go_round
          case rel => exact ⟨I + 1, by go_num, by omega, by omega, by rw [HX.out], Below.trans hg (Below.mono g5 (Below.size hg))⟩
          case measure => simp [intOf]; omega
        · have hz' : (nth x.1 (I * C + t) != 0) = true := by simpa using hz
          have HX := Lib.hid (show (lfA C t x.1 (I + 1 - (t + 1))) = true by rw [HNX.out, hF, decide_eq_true hz]; rfl)
          have C2' := Lib.hid C2
          clear C2 hz hF HNX
          generalize nth x.1 (I * C + t) = c1 at *
          go_wp2_with fail
          refine (C2'.out _ (wk.oa.rd')).mono ?_; rintro e w5 ⟨rfl, g5⟩
          go_wp2_with fail
          go_round
          case rel => exact ⟨I + 1, by go_num, by omega, by omega, by rw [HX.out], Below.trans hg (Below.mono g5 (Below.size hg))⟩
          case measure => simp [intOf]; omega
      · have HX := Lib.hid (show (lfA C t x.1 (I + 1 - (t + 1))) = true by rw [HNX.out]; simp only [hF]; rfl)
        clear C2 hF HNX
        go_wp2_with fail
        go_round
        case rel => exact ⟨I + 1, by go_num, by omega, by omega, by rw [HX.out], hg⟩
        case measure => simp [intOf]; omega
    · have eK : I = R := by omega
      have HE2 := Lib.hid (show lfA C t x.1 (R - t - 1) = lfA C t x.1 (I - (t + 1)) by rw [eK, Nat.sub_sub])
      have hlt' : ¬ (I : Int) < (R : Int) := by omega
      clear eK
      go_wp2_with fail
      go_meet
      exact ⟨by rw [HE2.out], hg⟩
end
end Go.Proofs.Ytbfkpfdkndnhkaa

/- The loops of the program's Smith round (printed by mksmr.py). -/
namespace Go.Proofs.Ytbfkpfdkndnhkaa
set_option linter.unusedSimpArgs false
set_option linter.unusedVariables false
open Go.RowKit

section
set_option maxHeartbeats 40000000
set_option maxRecDepth 100000
theorem rb6_c {u2 u3 u4 u5 u6 u7 u9 u10 u11 u12 u13 u14 u15 u16 u17 u19 u20 u21 u22 u23 u24 u25 u26 u27 u28 u29 u30 u31 u32 u33 u34 u35 u36 u37 u38 u39 u40 u41 u42 u43 u44 u45 u46 u47 u48 u49 u50 u51 u52 u53 u54 u55 u56 u57 u58 u59 u60 u61 u62 u63 u64 u65 u66 u67 u68 u69 u70 u71 u72 u73 u74 u75 u76 u77 u78 u79 u80 u81 u82 u83 u84 u85 u86 u87 u88 u89 u90 u91 u92 u93 u94 u95 u96 u97 u98 u99 u100 u101 u102 u103 u104 u105 u106 u107 u108 u109 u110 u111 u112 u113 u114 u115 u116 u117 u118 u119 u120 u121 u122 u123 u124 u125 u126 u127 u128 u129 u130 u131 u132 u133 u134 u135 u136 u137 u138 u139 u140 u141 u142 u143 u144 u145 u146 u147 u148 u149 u150 u151 u152 u153 u154 u155 u156 u157 u158 u159 u160 u161 u162 u163 u164 u165 u166 u167 u168 u169 u170 u171 u172 u173 u174 u175 u176 u177 u178 u179 u180 u181 u182 u183 u184 u185 u186 u187 u188 u189 u190 u191 u192 u193 u194 u195 u196 u197 u198 u199 u200 u201 u202 u203 u204 u205 u206 u207 u208 u209 u210 u211 u212 u213 u214 u215 u216 u217 u218 u219 u220 u221 u222 u223 u224 u225 u226 u227 u228 u229 u230 u231 u232 u233 u234 u235 u236 u237 : Value} {R C B b t : Nat} {L : Bool} {x : L3} {w : World} {Q : Exit → Act → World → Prop} {J' K' : Act → World → Prop}
    (hR : R ≤ 24) (hC : C ≤ 24) (htR : t < R) (htC : t < C) (HOK : RowKit.Hid (Ok3 R C x)) (ws : WkS w B b R C x) (_ : L = L)
    (hJ : ∀ a' w', (∃ (x8 x18 x175 x176 x177 x178 x179 x180 x181 x182 x183 x184 x185 x186 x187 x188 x189 x190 x191 x192 x193 x194 : Value), (x8 = .bool (L || lfB C t x.1 (C - t - 1)) ∧ Grows w w') ∧ a' = (⟨List.toArray (Value.pointer (some ⟨b, 0, none⟩) :: Value.int .i64 (t : Nat) :: u2 :: u3 :: u4 :: u5 :: u6 :: u7 :: x8 :: u9 :: u10 :: u11 :: u12 :: u13 :: u14 :: u15 :: u16 :: u17 :: x18 :: u19 :: u20 :: u21 :: u22 :: u23 :: u24 :: u25 :: u26 :: u27 :: u28 :: u29 :: u30 :: u31 :: u32 :: u33 :: u34 :: u35 :: u36 :: u37 :: u38 :: u39 :: u40 :: u41 :: u42 :: u43 :: u44 :: u45 :: u46 :: u47 :: u48 :: u49 :: u50 :: u51 :: u52 :: u53 :: u54 :: u55 :: u56 :: u57 :: u58 :: u59 :: u60 :: u61 :: u62 :: u63 :: u64 :: u65 :: u66 :: u67 :: u68 :: u69 :: u70 :: u71 :: u72 :: u73 :: u74 :: u75 :: u76 :: u77 :: u78 :: u79 :: u80 :: u81 :: u82 :: u83 :: u84 :: u85 :: u86 :: u87 :: u88 :: u89 :: u90 :: u91 :: u92 :: u93 :: u94 :: u95 :: u96 :: u97 :: u98 :: u99 :: u100 :: u101 :: u102 :: u103 :: u104 :: u105 :: u106 :: u107 :: u108 :: u109 :: u110 :: u111 :: u112 :: u113 :: u114 :: u115 :: u116 :: u117 :: u118 :: u119 :: u120 :: u121 :: u122 :: u123 :: u124 :: u125 :: u126 :: u127 :: u128 :: u129 :: u130 :: u131 :: u132 :: u133 :: u134 :: u135 :: u136 :: u137 :: u138 :: u139 :: u140 :: u141 :: u142 :: u143 :: u144 :: u145 :: u146 :: u147 :: u148 :: u149 :: u150 :: u151 :: u152 :: u153 :: u154 :: u155 :: u156 :: u157 :: u158 :: u159 :: u160 :: u161 :: u162 :: u163 :: u164 :: u165 :: u166 :: u167 :: u168 :: u169 :: u170 :: u171 :: u172 :: u173 :: u174 :: x175 :: x176 :: x177 :: x178 :: x179 :: x180 :: x181 :: x182 :: x183 :: x184 :: x185 :: x186 :: x187 :: x188 :: x189 :: x190 :: x191 :: x192 :: x193 :: x194 :: u195 :: u196 :: u197 :: u198 :: u199 :: u200 :: u201 :: u202 :: u203 :: u204 :: u205 :: u206 :: u207 :: u208 :: u209 :: u210 :: u211 :: u212 :: u213 :: u214 :: u215 :: u216 :: u217 :: u218 :: u219 :: u220 :: u221 :: u222 :: u223 :: u224 :: u225 :: u226 :: u227 :: u228 :: u229 :: u230 :: u231 :: u232 :: u233 :: u234 :: u235 :: u236 :: u237 :: []), []⟩ : Act)) → J' a' w') (hK : ∀ a' w', Met J' a' w' → K' a' w') :
    Code.wp Try.prog ((blockOf 6 (Try.f165.body.getD .skip)).getD .skip) (Exit.then K' Q) ⟨List.toArray (Value.pointer (some ⟨b, 0, none⟩) :: Value.int .i64 (t : Nat) :: u2 :: u3 :: u4 :: u5 :: u6 :: u7 :: Value.bool L :: u9 :: u10 :: u11 :: u12 :: u13 :: u14 :: u15 :: u16 :: u17 :: Value.int .i64 ((t : Int) + 1) :: u19 :: u20 :: u21 :: u22 :: u23 :: u24 :: u25 :: u26 :: u27 :: u28 :: u29 :: u30 :: u31 :: u32 :: u33 :: u34 :: u35 :: u36 :: u37 :: u38 :: u39 :: u40 :: u41 :: u42 :: u43 :: u44 :: u45 :: u46 :: u47 :: u48 :: u49 :: u50 :: u51 :: u52 :: u53 :: u54 :: u55 :: u56 :: u57 :: u58 :: u59 :: u60 :: u61 :: u62 :: u63 :: u64 :: u65 :: u66 :: u67 :: u68 :: u69 :: u70 :: u71 :: u72 :: u73 :: u74 :: u75 :: u76 :: u77 :: u78 :: u79 :: u80 :: u81 :: u82 :: u83 :: u84 :: u85 :: u86 :: u87 :: u88 :: u89 :: u90 :: u91 :: u92 :: u93 :: u94 :: u95 :: u96 :: u97 :: u98 :: u99 :: u100 :: u101 :: u102 :: u103 :: u104 :: u105 :: u106 :: u107 :: u108 :: u109 :: u110 :: u111 :: u112 :: u113 :: u114 :: u115 :: u116 :: u117 :: u118 :: u119 :: u120 :: u121 :: u122 :: u123 :: u124 :: u125 :: u126 :: u127 :: u128 :: u129 :: u130 :: u131 :: u132 :: u133 :: u134 :: u135 :: u136 :: u137 :: u138 :: u139 :: u140 :: u141 :: u142 :: u143 :: u144 :: u145 :: u146 :: u147 :: u148 :: u149 :: u150 :: u151 :: u152 :: u153 :: u154 :: u155 :: u156 :: u157 :: u158 :: u159 :: u160 :: u161 :: u162 :: u163 :: u164 :: u165 :: u166 :: u167 :: u168 :: u169 :: u170 :: u171 :: u172 :: u173 :: u174 :: u175 :: u176 :: u177 :: u178 :: u179 :: u180 :: u181 :: u182 :: u183 :: u184 :: u185 :: u186 :: u187 :: u188 :: u189 :: u190 :: u191 :: u192 :: u193 :: u194 :: u195 :: u196 :: u197 :: u198 :: u199 :: u200 :: u201 :: u202 :: u203 :: u204 :: u205 :: u206 :: u207 :: u208 :: u209 :: u210 :: u211 :: u212 :: u213 :: u214 :: u215 :: u216 :: u217 :: u218 :: u219 :: u220 :: u221 :: u222 :: u223 :: u224 :: u225 :: u226 :: u227 :: u228 :: u229 :: u230 :: u231 :: u232 :: u233 :: u234 :: u235 :: u236 :: u237 :: []), []⟩ w := by
  conv => arg 2; whnf
  have hRC : R * C ≤ 576 := Nat.mul_le_mul hR hC
  have HIC := Lib.hid fun i (hi : i < R) => (show i * C ≤ 576 from by have := Nat.mul_le_mul_right C (Nat.le_of_lt hi); omega)
  have CC := Lib.hid fun (A : Option Addr) (ca : Nat) (z : L3) (ok : Ok3 R C z) (i j : Nat) (hi : i < R) (hj : j < C) W h => at_c R C A z.1 (R * C) ca i j W ok.l1 h (castMul i C) (by have := castMulLe (HIC.out i hi); omega) (castPos i C j) (castLt (by rw [ok.l1]; exact idx_lt hi hj)) (by rw [ok.l1]; omega)
  obtain ⟨A, U, V, ca, cu, cv, wk0⟩ := ws
  go_wp2_with fail
  go_loopw [8, 18] (fun l i wr => ∃ (I : Nat), i = .int .i64 I ∧ t + 1 ≤ I ∧ I ≤ C ∧ l = .bool (L || lfB C t x.1 (I - (t + 1))) ∧ Grows w wr) (fun _ i _ => C - (intOf i).toNat)
  case atStart => exact ⟨t + 1, by first | rfl | simp, Nat.le_refl _, by omega, by rw [Nat.sub_self]; simp [lfB], Below.refl _ _⟩
  case round =>
    obtain ⟨I, rfl, hI1, hI2, rfl, hg⟩ := hrel
    have wk := wk0.grows hg
    obtain ⟨b0, b1, b2, b3, b4, b5, b6, b7, b8, b9⟩ := wk.bx.cells
    have bl := wk.bx.lt
    by_cases hlt : I < C
    · have hlt' : (I : Int) < (C : Int) := by omega
      have HNX := Lib.hid (show lfB C t x.1 (I + 1 - (t + 1)) = (lfB C t x.1 (I - (t + 1)) || decide (nth x.1 (t * C + I) ≠ 0)) by rw [show I + 1 - (t + 1) = (I - (t + 1)) + 1 by omega, lfB, show t + 1 + (I - (t + 1)) = I by omega])
      have C2 := fun W h => CC.out A ca x HOK.out t I htR hlt W h
      rw [castIdx] at C2
      cases hF : (L || lfB C t x.1 (I - (t + 1)))
      · by_cases hz : nth x.1 (t * C + I) = 0
        · have HX := Lib.hid (show (L || lfB C t x.1 (I + 1 - (t + 1))) = false by rw [HNX.out, ← Bool.or_assoc]; simp only [hF, hz]; rfl)
          rw [hz] at C2
          have C2' := Lib.hid C2
          clear C2 hz hF HNX
          go_wp2_with fail
          refine (C2'.out _ (wk.oa.rd')).mono ?_; rintro e w5 ⟨rfl, g5⟩
          go_wp2_with fail
          go_round
          case rel => exact ⟨I + 1, by go_num, by omega, by omega, by rw [HX.out], Below.trans hg (Below.mono g5 (Below.size hg))⟩
          case measure => simp [intOf]; omega
        · have hz' : (nth x.1 (t * C + I) != 0) = true := by simpa using hz
          have HX := Lib.hid (show (L || lfB C t x.1 (I + 1 - (t + 1))) = true by rw [HNX.out, ← Bool.or_assoc, hF, decide_eq_true hz]; rfl)
          have C2' := Lib.hid C2
          clear C2 hz hF HNX
          generalize nth x.1 (t * C + I) = c1 at *
          go_wp2_with fail
          refine (C2'.out _ (wk.oa.rd')).mono ?_; rintro e w5 ⟨rfl, g5⟩
          go_wp2_with fail
          go_round
          case rel => exact ⟨I + 1, by go_num, by omega, by omega, by rw [HX.out], Below.trans hg (Below.mono g5 (Below.size hg))⟩
          case measure => simp [intOf]; omega
      · have HX := Lib.hid (show (L || lfB C t x.1 (I + 1 - (t + 1))) = true by rw [HNX.out, ← Bool.or_assoc]; simp only [hF]; rfl)
        clear C2 hF HNX
        go_wp2_with fail
        go_round
        case rel => exact ⟨I + 1, by go_num, by omega, by omega, by rw [HX.out], hg⟩
        case measure => simp [intOf]; omega
    · have eK : I = C := by omega
      have HE2 := Lib.hid (show lfB C t x.1 (C - t - 1) = lfB C t x.1 (I - (t + 1)) by rw [eK, Nat.sub_sub])
      have hlt' : ¬ (I : Int) < (C : Int) := by omega
      clear eK
      go_wp2_with fail
      go_meet
      exact ⟨by rw [HE2.out], hg⟩
end
end Go.Proofs.Ytbfkpfdkndnhkaa

/- Contract: a round of the Smith form, the program's. -/
namespace Go.Proofs.Ytbfkpfdkndnhkaa
set_option linter.unusedSimpArgs false
set_option linter.unusedVariables false
open Go.RowKit

def pivR (R C t : Nat) (q : Pl) (s : L3) : L3 := if q.1 = t then s else swpR3 R C q.1 t s
theorem piv_eq {R C t : Nat} {q : Pl} {s : L3} : piv R C t q s = if q.2 = t then pivR R C t q s else swpC3 R C q.2 t (pivR R C t q s) := rfl
theorem pivR_ok {R C t : Nat} {q : Pl} {s : L3} (h : Ok3 R C s) (htR : t < R) (h1 : q.1 < R) : Ok3 R C (pivR R C t q s) := by
  unfold pivR; split
  · exact h
  · exact swpR3_ok h h1 htR
/-- what a round answers -/
def RndRet (B b R C : Nat) (o : Option (L3 × Bool)) (w : World) (e : Ending) (w' : World) : Prop :=
  ∃ k, e = .returned (.bool k) ∧ Below B w w' ∧ (o = none → WkT w' B b R C) ∧ ∀ y, o = some y → k = y.2 ∧ WkS w' B b R C y.1
section
set_option maxHeartbeats 40000000
set_option maxRecDepth 100000
theorem round_c (R C B b t : Nat) (s : L3) (q : Pl) (w : World) (hR : R ≤ 24) (hC : C ≤ 24) (ok : Ok3 R C s) (htR : t < R) (htC : t < C) (hq : lst R C t s.1 = some q) (ws : WkS w B b R C s) :
    Calls Try.prog 165 #[.pointer (some ⟨b, 0, none⟩), .int .i64 t] w (RndRet B b R C (smRound R C t s) w) := by
  obtain ⟨q1, q2⟩ := q
  obtain ⟨⟨hq1, hq2, hq3, hq4⟩, hqn, _⟩ := (lst_LI R C t s.1).yes _ hq
  simp only at hq1 hq2 hq3 hq4 hqn
  have CL := Lib.hid (lstFrom_c R C B b t s w hR hC ok (by omega) (by omega) ws)
  rw [hq] at CL
  have e1 : encR (some (q1, q2)) = (q1 : Int) := rfl
  have e2 : encC (some (q1, q2)) = (q2 : Int) := rfl
  rw [e1, e2] at CL
  have HOK := Lib.hid ok
  have okr := Lib.hid (pivR_ok (q := (q1, q2)) ok htR hq2)
  obtain ⟨RES, hRES⟩ : ∃ x, x = smRound R C t s := ⟨_, rfl⟩
  rw [← hRES]
  have HR := Lib.hid hRES
  have HQ := Lib.hid hq
  have HQN := Lib.hid hqn
  clear e1 e2 ok hRES hq hqn
  go_enter Try.func165, Try.ntmps165
  go_wp2_with fail
  refine CL.out.mono ?_; rintro e w2 ⟨rfl, g2⟩
  have wsB : B ≤ w.heap.size := by
    obtain ⟨A, U, V, ca, cu, cv, wk⟩ := ws
    exact wk.size
  have ws2 := ws.grows g2
  have gB : Below B w w2 := Below.mono g2 wsB
  have ht1 : (t : Int) ≤ 24 := by omega
  obtain ⟨D1, hD1⟩ : ∃ x, x = ((q1 : Int) != (t : Int)) := ⟨_, rfl⟩
  obtain ⟨D2, hD2⟩ : ∃ x, x = ((q2 : Int) != (t : Int)) := ⟨_, rfl⟩
  have HD1 := Lib.hid hD1
  have HD2 := Lib.hid hD2
  clear hD1 hD2
  go_upto_if 30 with fail
  rw [← HD1.out]
  go_cut [] (fun wx => WkS wx B b R C (pivR R C t (q1, q2) s) ∧ Below B w wx)
  case first =>
    cases hd : D1
    · have e : q1 = t := by have h := HD1.out; rw [hd] at h; have h2 := h.symm; simp at h2; omega
      have ep : pivR R C t (q1, q2) s = s := by unfold pivR; rw [if_pos e]
      have HEP := Lib.hid ep
      clear e ep
      go_wp2_with fail
      go_meet
      exact ⟨by rw [HEP.out]; exact ws2, gB⟩
    · have e : ¬ q1 = t := by have h := HD1.out; rw [hd] at h; have h2 := h.symm; simp at h2; omega
      have ep : pivR R C t (q1, q2) s = swpR3 R C q1 t s := by unfold pivR; rw [if_neg e]
      have CS := Lib.hid (swpW3_c R C B b q1 t s w2 hR hC HOK.out hq2 htR e ws2)
      have HEP := Lib.hid ep
      clear e ep
      go_wp2_with fail
      refine CS.out.mono ?_; rintro e w3 ⟨rfl, ws3, b3⟩
      go_wp2_with fail
      go_meet
      exact ⟨by rw [HEP.out]; exact ws3, Below.trans gB b3⟩
  case rest =>
    obtain ⟨ws3, b3⟩ := hcut
    obtain ⟨w3, rfl⟩ : ∃ x : World, x = wc := ⟨_, rfl⟩
    clear ws2 gB g2 CL ws
    go_upto_if 38 with fail
    rw [← HD2.out]
    go_cut [] (fun wx => WkS wx B b R C (piv R C t (q1, q2) s) ∧ Below B w wx)
    case first =>
      cases hd : D2
      · have e : q2 = t := by have h := HD2.out; rw [hd] at h; have h2 := h.symm; simp at h2; omega
        have ep : piv R C t (q1, q2) s = pivR R C t (q1, q2) s := by rw [piv_eq, if_pos e]
        have HEP := Lib.hid ep
        clear e ep
        go_wp2_with fail
        go_meet
        exact ⟨by rw [HEP.out]; exact ws3, b3⟩
      · have e : ¬ q2 = t := by have h := HD2.out; rw [hd] at h; have h2 := h.symm; simp at h2; omega
        have ep : piv R C t (q1, q2) s = swpC3 R C q2 t (pivR R C t (q1, q2) s) := by rw [piv_eq, if_neg e]
        have CS := Lib.hid (swpC3_c R C B b q2 t (pivR R C t (q1, q2) s) w3 hR hC okr.out hq4 htC e ws3)
        have HEP := Lib.hid ep
        clear e ep
        go_wp2_with fail
        refine CS.out.mono ?_; rintro e w4 ⟨rfl, ws4, b4⟩
        go_wp2_with fail
        go_meet
        exact ⟨by rw [HEP.out]; exact ws4, Below.trans b3 b4⟩
    case rest =>
      obtain ⟨ws4, b4⟩ := hcut
      obtain ⟨w4, rfl⟩ : ∃ x : World, x = wc := ⟨_, rfl⟩
      clear ws3 b3
      have okp := piv_ok (q := (q1, q2)) HOK.out htR htC hq2 hq4
      have hpp : nth (piv R C t (q1, q2) s).1 (t * C + t) ≠ 0 := by rw [piv_cell htR htC hq2 hq4]; exact HQN.out
      have HRB := Lib.hid (show RES = (smA R C t (piv R C t (q1, q2) s) (R - t - 1)).bind fun x => (smB R C t x (C - t - 1)).bind fun y => smEnd R C t y by rw [HR.out]; unfold smRound; rw [HQ.out])
      generalize piv R C t (q1, q2) s = sp at *
      have OKP := Lib.hid okp
      have HPP := Lib.hid hpp
      clear okp hpp
      go_upto_block 0 with fail
      go_cut [] (fun wx => WkSO wx B b R C (smA R C t sp (R - t - 1)) ∧ Below B w4 wx)
      case first =>
        rename_i J1 K1 hJ1 hK1
        exact rb0_c hR hC htR htC OKP ws4 HPP.out hJ1 hK1
      case rest =>
        obtain ⟨wo5, b5⟩ := hcut
        obtain ⟨w5, rfl⟩ : ∃ x : World, x = wc := ⟨_, rfl⟩
        replace b5 := Below.trans b4 b5
        clear ws4 b4
        obtain ⟨oA, hoA⟩ : ∃ o, o = smA R C t sp (R - t - 1) := ⟨_, rfl⟩
        have HOA := Lib.hid hoA
        rw [← hoA] at wo5
        have HRB2 := Lib.hid (show RES = oA.bind fun x => (smB R C t x (C - t - 1)).bind fun y => smEnd R C t y by rw [HRB.out, hoA])
        clear hoA
        go_upto_block 2 with fail
        go_cut [] (fun wx => WkSO wx B b R C (oA.bind fun x => smB R C t x (C - t - 1)) ∧ Below B w5 wx)
        case first =>
          rename_i J1 K1 hJ1 hK1
          cases oA with
          | none =>
            go_wp2_with fail
            go_loopw [13] (fun j wr => ∃ J : Nat, j = .int .i64 J ∧ wr = w5) (fun _ _ => 0)
            case atStart => exact ⟨t + 1, by first | rfl | simp, rfl⟩
            case round =>
              obtain ⟨J, rfl, rfl⟩ := hrel
              obtain ⟨A, U, V, ca, cu, cv, a, u, v, wk⟩ := wo5.none
              obtain ⟨b0, b1, b2, b3, b4, b5, b6, b7, b8, b9⟩ := wk.bx.cells
              have bl := wk.bx.lt
              by_cases hlt : J < C
              · have hlt' : (J : Int) < (C : Int) := by omega
                go_wp2_with fail
                go_meet
                exact ⟨wo5, Below.refl _ _⟩
              · have hlt' : ¬ (J : Int) < (C : Int) := by omega
                go_wp2_with fail
                go_meet
                exact ⟨wo5, Below.refl _ _⟩
          | some x =>
            have EA := smA_AI OKP.out htR htC (by omega) HOA.out.symm
            exact rb2_c hR hC htR htC (Lib.hid EA.ok) wo5.some (by rw [EA.same t t htR htC (.inl (Nat.le_refl _))]; exact HPP.out) hJ1 hK1
        case rest =>
          obtain ⟨wo6, b6⟩ := hcut
          obtain ⟨w6, rfl⟩ : ∃ x : World, x = wc := ⟨_, rfl⟩
          replace b6 := Below.trans b5 b6
          clear wo5 b5
          obtain ⟨oB, hoB⟩ : ∃ o, o = oA.bind fun x => smB R C t x (C - t - 1) := ⟨_, rfl⟩
          rw [← hoB] at wo6
          have HRB3 := Lib.hid (show RES = oB.bind fun y => smEnd R C t y by rw [HRB2.out, hoB]; cases oA <;> rfl)
          have HY := Lib.hid fun y (h : oB = some y) => show Ok3 R C y ∧ nth y.1 (t * C + t) ≠ 0 by
            rw [hoB] at h
            obtain ⟨x, h1, h2⟩ := Option.bind_eq_some_iff.1 h
            have EA := smA_AI OKP.out htR htC (by omega) (HOA.out.symm.trans h1)
            have EB := smB_BI EA.ok htR htC (by omega) h2
            exact ⟨EB.ok, by rw [EB.same t t htR htC (.inl (Nat.le_refl _)), EA.same t t htR htC (.inl (Nat.le_refl _))]; exact HPP.out⟩
          clear hoB
          cases oB with
          | none =>
            obtain rfl : RES = none := HRB3.out
            obtain ⟨A, U, V, ca, cu, cv, a, u, v, wk⟩ := wo6.none
            obtain ⟨c0, c1, c2, c3, c4, c5, c6, c7, c8, c9⟩ := wk.bx.cells
            have bl := wk.bx.lt
            go_wp2_with fail
            go_ret
            exact ⟨false, rfl, b6, fun _ => wo6.none, fun y h => by cases h⟩
          | some y =>
            obtain ⟨oky, hpy⟩ := HY.out y rfl
            have OKY := Lib.hid oky
            have HRE := Lib.hid (show RES = smEnd R C t y from HRB3.out)
            have ws6 := wo6.some
            obtain ⟨A, U, V, ca, cu, cv, wk⟩ := wo6.some
            obtain ⟨c0, c1, c2, c3, c4, c5, c6, c7, c8, c9⟩ := wk.bx.cells
            have bl := wk.bx.lt
            clear wo6 oky HY
            go_upto_block 4 with fail
            clear c0 c1 c2 c3 c4 c5 c6 c7 c8 c9 bl
            go_cut [8] (fun x8 wx => x8 = .bool (lfA C t y.1 (R - t - 1)) ∧ Grows w6 wx)
            case first =>
              rename_i J1 K1 hJ1 hK1
              exact rb4_c hR hC htR htC OKY ws6 hJ1 hK1
            case rest =>
              obtain ⟨rfl, g7⟩ := hcut
              obtain ⟨w7, rfl⟩ : ∃ x : World, x = wc := ⟨_, rfl⟩
              obtain ⟨L, hL⟩ : ∃ L, L = lfA C t y.1 (R - t - 1) := ⟨_, rfl⟩
              have HL := Lib.hid hL
              rw [← hL]
              clear hL
              have ws7 := ws6.grows g7
              go_upto_block 6 with fail
              go_cut [8] (fun x8 wx => x8 = .bool (L || lfB C t y.1 (C - t - 1)) ∧ Grows w7 wx)
              case first =>
                rename_i J1 K1 hJ1 hK1
                exact rb6_c hR hC htR htC OKY ws7 rfl hJ1 hK1
              case rest =>
                obtain ⟨rfl, g8⟩ := hcut
                obtain ⟨w8, rfl⟩ : ∃ x : World, x = wc := ⟨_, rfl⟩
                have g68 : Grows w6 w8 := by exact bel2 g8 g7
                have hs6 := Below.size b6
                have wsz : B ≤ w6.heap.size := wk.size
                have b8 : Below B w w8 := Below.trans b6 (Below.mono g68 wsz)
                have wk8 := wk.grows g68
                have ws8 := ws6.grows g68
                have hs8 := Below.size g68
                have HLF := Lib.hid (show lf R C t y.1 = (L || lfB C t y.1 (C - t - 1)) by unfold lf; rw [HL.out])
                clear ws6 ws7 g7 g8 wk
                cases hF : (L || lfB C t y.1 (C - t - 1))
                · have HRE2 := Lib.hid (show RES = match ndI C t y.1 (R - t - 1) with | some i => (fit3 (addR3 R C t i 1 y)).map fun z => (z, true) | none => some (y, false) by rw [HRE.out]; unfold smEnd; rw [HLF.out, hF]; rfl)
                  clear hF HLF HRE
                  have hRC : R * C ≤ 576 := Nat.mul_le_mul hR hC
                  have HIC := Lib.hid fun i (hi : i < R) => (show i * C ≤ 576 from by have := Nat.mul_le_mul_right C (Nat.le_of_lt hi); omega)
                  have CC := Lib.hid fun (i j : Nat) (hi : i < R) (hj : j < C) W h => at_c R C A y.1 (R * C) ca i j W OKY.out.l1 h (castMul i C) (by have := castMulLe (HIC.out i hi); omega) (castPos i C j) (castLt (by rw [OKY.out.l1]; exact idx_lt hi hj)) (by rw [OKY.out.l1]; omega)
                  go_wp2_with fail
                  go_loopw [19] (fun i wr => ∃ I : Nat, i = .int .i64 I ∧ t + 1 ≤ I ∧ I ≤ R ∧ RowKit.Hid (ndI C t y.1 (I - (t + 1)) = none) ∧ Grows w8 wr) (fun i _ => R - (intOf i).toNat)
                  case atStart => exact ⟨t + 1, by first | rfl | simp, Nat.le_refl _, by omega, Lib.hid (by rw [Nat.sub_self]; rfl), Below.refl _ _⟩
                  case round =>
                    obtain ⟨I, rfl, hI1, hI2, HN, hg⟩ := hrel
                    obtain ⟨wo, rfl⟩ : ∃ wo : World, wo = wr := ⟨_, rfl⟩
                    have wki := wk8.grows hg
                    obtain ⟨c0, c1, c2, c3, c4, c5, c6, c7, c8, c9⟩ := wki.bx.cells
                    have bl := wki.bx.lt
                    by_cases hlt : I < R
                    · have hlt' : (I : Int) < (R : Int) := by omega
                      go_wp2_with fail
                      go_loopw [20] (fun j wr => ∃ J : Nat, j = .int .i64 J ∧ t + 1 ≤ J ∧ J ≤ C ∧ RowKit.Hid (ndJ C t y.1 I (J - (t + 1)) = false) ∧ Grows wo wr) (fun j _ => C - (intOf j).toNat)
                      case atStart => exact ⟨t + 1, by first | rfl | simp, Nat.le_refl _, by omega, Lib.hid (by rw [Nat.sub_self]; rfl), Below.refl _ _⟩
                      case round =>
                        clear c0 c1 c2 c3 c4 c5 c6 c7 c8 c9 bl
                        obtain ⟨J, rfl, hj1, hj2, HM, hgj⟩ := hrel
                        have wkj := wki.grows hgj
                        obtain ⟨c0, c1, c2, c3, c4, c5, c6, c7, c8, c9⟩ := wkj.bx.cells
                        have bl := wkj.bx.lt
                        have G8 : Grows w8 wr := by exact bel2 hgj hg
                        by_cases hltj : J < C
                        · have hltj' : (J : Int) < (C : Int) := by omega
                          have hrd := wkj.oa.rd'
                          obtain ⟨d0, d1, d2, d9⟩ := wkj.bx.ext
                          have C2 := fun W h => CC.out I J hlt hltj W h
                          have C3 := fun W h => CC.out t t htR htC W h
                          rw [castIdx] at C2 C3
                          have HNX := Lib.hid (show ndJ C t y.1 I (J + 1 - (t + 1)) = decide (nth y.1 (I * C + J) % nth y.1 (t * C + t) ≠ 0) by rw [show J + 1 - (t + 1) = (J - (t + 1)) + 1 by omega, ndJ, HM.out, show t + 1 + (J - (t + 1)) = J by omega, Bool.false_or])
                          by_cases hz : nth y.1 (I * C + J) % nth y.1 (t * C + t) = 0
                          · have hm : (nth y.1 (I * C + J)).tmod (nth y.1 (t * C + t)) = 0 := Int.tmod_eq_zero_of_dvd (Int.dvd_of_emod_eq_zero hz)
                            have HX := Lib.hid (show ndJ C t y.1 I (J + 1 - (t + 1)) = false by rw [HNX.out, decide_eq_false (by simpa using hz)])
                            have C2' := Lib.hid C2
                            have C3' := Lib.hid C3
                            have hpy' := hpy
                            clear C2 C3 hz HNX
                            generalize nth y.1 (I * C + J) = x1 at *
                            generalize nth y.1 (t * C + t) = x2 at *
                            go_wp2_with fail
                            ((refine wp_region_ext (by kernel_rfl) (by kernel_rfl) ?_); (repeat (go_big_quiet_step ((first | (go_at_call 53; with_reducible exact extC (C2'.out _ (Rd.ext hrd _))) | (go_at_call 53; with_reducible exact extC (C3'.out _ (Rd.ext hrd _))))))); refine wpQuiet_nil ?_; rintro w9 ⟨w90, hw90⟩; have g9 := grows_of_ext hw90; clear hw90 w90)
                            clear d0 d1 d2 d9
                            go_wp2_with fail
                            go_round
                            case rel => exact ⟨J + 1, by go_num, by omega, by omega, HX, by exact bel2 g9 hgj⟩
                            case measure => simp [intOf]; omega
                          · have hm : ((nth y.1 (I * C + J)).tmod (nth y.1 (t * C + t)) != 0) = true := by rw [bne_iff_ne]; exact fun e => hz (Int.emod_eq_zero_of_dvd (Int.dvd_of_tmod_eq_zero e))
                            have HX := Lib.hid (show ndI C t y.1 (R - t - 1) = some I by
                              have h1 : ndJ C t y.1 I (C - t - 1) = true := ndJ_up (k := J + 1 - (t + 1)) (by rw [HNX.out, decide_eq_true hz]) (by omega)
                              have h2 := ndI_here (n := R - t - 1) HN.out (by rw [show t + 1 + (I - (t + 1)) = I by omega]; exact h1) (by omega)
                              rwa [show t + 1 + (I - (t + 1)) = I by omega] at h2)
                            have C2' := Lib.hid C2
                            have C3' := Lib.hid C3
                            have CA := Lib.hid fun W h => addW3_c R C B b t I 1 y W hR hC OKY.out htR hlt (by omega) (by decide) h
                            have HRE3 := Lib.hid (show RES = (fit3 (addR3 R C t I 1 y)).map fun z => (z, true) by rw [HRE2.out, HX.out])
                            generalize fit3 (addR3 R C t I 1 y) = oF at *
                            clear C2 C3 hz HNX
                            generalize nth y.1 (I * C + J) = x1 at *
                            generalize nth y.1 (t * C + t) = x2 at *
                            have hszr := Below.size G8
                            go_wp2_with fail
                            ((refine wp_region_ext (by kernel_rfl) (by kernel_rfl) ?_); (repeat (go_big_quiet_step ((first | (go_at_call 53; with_reducible exact extC (C2'.out _ (Rd.ext hrd _))) | (go_at_call 53; with_reducible exact extC (C3'.out _ (Rd.ext hrd _))))))); refine wpQuiet_nil ?_; rintro w9 ⟨w90, hw90⟩; have g9 := grows_of_ext hw90; clear hw90 w90)
                            have G9 : Grows w8 w9 := by exact bel2 g9 G8
                            clear d0 d1 d2 d9
                            go_wp2_with fail
                            refine (CA.out _ (ws8.grows G9)).mono ?_; rintro e wa ⟨rfl, woa, ba⟩
                            have bb : Below B w wa := Below.trans (Below.trans b8 (Below.mono G9 (by omega))) ba
                            go_wp2_with fail
                            go_ret
                            exact ⟨true, rfl, bb, fun h => woa.2 (by rw [HRE3.out] at h; simpa using h), fun z h => by
                              rw [HRE3.out] at h
                              obtain ⟨z', h1, rfl⟩ := Option.map_eq_some_iff.1 h
                              exact ⟨rfl, woa.1 z' h1⟩⟩
                        · have eJ : J = C := by omega
                          have hltj' : ¬ (J : Int) < (C : Int) := by omega
                          have HX := Lib.hid (show ndI C t y.1 (I + 1 - (t + 1)) = none by
                            rw [show I + 1 - (t + 1) = (I - (t + 1)) + 1 by omega]
                            refine ndI_next HN.out ?_
                            rw [show t + 1 + (I - (t + 1)) = I by omega, show C - t - 1 = J - (t + 1) by omega]
                            exact HM.out)
                          clear eJ
                          go_wp2_with fail
                          go_round
                          case rel => exact ⟨I + 1, by go_num, by omega, by omega, HX, G8⟩
                          case measure => simp [intOf]; omega
                    · have hlt' : ¬ (I : Int) < (R : Int) := by omega
                      have hRES : RES = some (y, false) := by rw [HRE2.out, show R - t - 1 = I - (t + 1) by omega, HN.out]
                      subst hRES
                      have bb : Below B w wo := Below.trans b8 (Below.mono hg (by omega))
                      go_wp2_with fail
                      go_ret
                      exact ⟨false, rfl, bb, (fun h => by cases h), fun z h => by cases h; exact ⟨rfl, ws8.grows hg⟩⟩
                · have hRES : RES = some (y, true) := by rw [HRE.out]; unfold smEnd; rw [HLF.out, hF]; rfl
                  subst hRES
                  clear hF HLF HRE
                  go_wp2_with fail
                  go_ret
                  exact ⟨true, rfl, b8, (fun h => by cases h), fun z h => by cases h; exact ⟨rfl, ws8⟩⟩
end
end Go.Proofs.Ytbfkpfdkndnhkaa

/- Contract: the Smith form, the program's. -/
namespace Go.Proofs.Ytbfkpfdkndnhkaa
set_option linter.unusedSimpArgs false
set_option linter.unusedVariables false
open Go.RowKit

/-- the Smith form of a matrix -/
noncomputable def smD (m : MX) : Option MX := if m.ok then (smF m.r.toNat m.c.toNat (m.l, idL m.r.toNat, idL m.c.toNat)).map fun s => ⟨m.r, m.c, s.1⟩ else none
theorem smD_no {m : MX} (h : m.ok = false) : smD m = none := by unfold smD; rw [h]; rfl
theorem smD_nat {R C : Nat} {l : List Int} (h : isMat R C l = true) : smD ⟨R, C, l⟩ = (smF R C (l, idL R, idL C)).map fun s => ⟨R, C, s.1⟩ := by
  unfold smD MX.ok; simp only [h, if_true, Int.toNat_natCast]
def SmRet (o : Option MX) (w : World) (e : Ending) (w' : World) : Prop :=
  ∃ (v : Value) (r2 c2 : Int) (A2 : Option Addr) (n2 k2 : Nat) (r3 c3 : Int) (A3 : Option Addr) (n3 k3 : Nat), e = .returned (.tuple #[.agg #[.int .i64 (oM o).r, .int .i64 (oM o).c, v], .agg #[.int .i64 r2, .int .i64 c2, .slice A2 n2 k2], .agg #[.int .i64 r3, .int .i64 c3, .slice A3 n3 k3], .bool o.isSome]) ∧ Own w' w.heap.size v (oM o).l ∧ Grows w w'
theorem four_mats (w : World) (r c : Int) (u : Value) :
    ∃ w1, w1 = (((w.alloc (.cells #[.int .i64 r, .int .i64 c, u] 26)).alloc (.cells #[.int .i64 0, .int .i64 0, .slice none 0 0] 26)).alloc (.cells #[.int .i64 0, .int .i64 0, .slice none 0 0] 26)).alloc (.cells #[.int .i64 0, .int .i64 0, .slice none 0 0] 26) ∧
      MBox w1 w.heap.size r c u ∧ MBox w1 (w.heap.size + 1) 0 0 (.slice none 0 0) ∧ MBox w1 (w.heap.size + 1 + 1) 0 0 (.slice none 0 0) ∧ MBox w1 (w.heap.size + 1 + 1 + 1) 0 0 (.slice none 0 0) ∧ w1.heap.size = w.heap.size + 4 ∧ Grows w w1 :=
  ⟨_, rfl, (((MBox.mk_ _ _ _ _ _).alloc _).alloc _).alloc _, ((MBox.new_ _ _ _ _ _ (by simp)).alloc _).alloc _, (MBox.new_ _ _ _ _ _ (by simp)).alloc _, MBox.new_ _ _ _ _ _ (by simp), by simp, by exact bel0⟩
theorem wk9 {w : World} {b : Nat} {R C : Int} {A U V : Value} {bd : Bool} (h : WBox w b R C A U V bd) : w.cell? ⟨b, 0, none⟩ = some (.int .i64 R) ∧ w.cell? ⟨b, 1, none⟩ = some (.int .i64 C) ∧ w.cell? ⟨b, 2, none⟩ = some A ∧ w.cell? ⟨b, 3, none⟩ = some (.int .i64 R) ∧ w.cell? ⟨b, 4, none⟩ = some (.int .i64 R) ∧ w.cell? ⟨b, 5, none⟩ = some U ∧ w.cell? ⟨b, 6, none⟩ = some (.int .i64 C) ∧ w.cell? ⟨b, 7, none⟩ = some (.int .i64 C) ∧ w.cell? ⟨b, 8, none⟩ = some V :=
  ⟨h.c0, h.c1, h.c2, h.c3, h.c4, h.c5, h.c6, h.c7, h.c8⟩
theorem WkS.size {w : World} {B b R C : Nat} {s : L3} (h : WkS w B b R C s) : B ≤ w.heap.size ∧ B ≤ b ∧ b < w.heap.size := by
  obtain ⟨A, U, V, ca, cu, cv, wk⟩ := h
  exact ⟨wk.size, wk.lo, wk.bx.lt⟩
section
set_option maxHeartbeats 40000000
set_option maxRecDepth 100000
theorem iSmith_c (r c : Int) (A : Option Addr) (l : List Int) (n cap : Nat) (w : World) (hn : l.length = n) (ha : Rd w A l) (hl : n ≤ 1099511627776) :
    Calls Try.prog 121 #[.agg #[.int .i64 r, .int .i64 c, .slice A n cap]] w (SmRet (smD ⟨r, c, l⟩) w) := by
  have HS := fun w h => iIsMatrix_c r c A l n cap w hn h hl
  obtain ⟨w1, hw1, mg, m2, m3, m4, hs1, g01⟩ := four_mats w r c (.slice A n cap)
  have HW1 := Lib.hid hw1
  have HS1 := Lib.hid hs1
  have ha1 : Rd w1 A l := ha.grows g01
  clear hw1 hs1
  obtain ⟨RES, hRES⟩ : ∃ x, x = smD ⟨r, c, l⟩ := ⟨_, rfl⟩
  rw [← hRES]
  cases hq : isMat r c l
  · rw [smD_no (m := ⟨r, c, l⟩) hq] at hRES
    rw [hq] at HS
    have HS' := Lib.hid HS
    subst hRES
    clear HS hq hn
    go_enter Try.func121, Try.ntmps121
    go_wp2_with fail
    refine (HS'.out _ (by exact (Rd.grows ha (by exact bel0)))).mono ?_; rintro e w2 ⟨rfl, g2⟩
    rw [← HW1.out] at g2
    (have z2 := m2.grows (w' := w2) (by exact bel1 g2); have z3 := m3.grows (w' := w2) (by exact bel1 g2); have z4 := m4.grows (w' := w2) (by exact bel1 g2); obtain ⟨zr0, zr1, zr2⟩ := z2.cells; have zrf := z2.fz; have zrl := z2.lt; obtain ⟨yr0, yr1, yr2⟩ := z3.cells; have yrf := z3.fz; have yrl := z3.lt; obtain ⟨xr0, xr1, xr2⟩ := z4.cells; have xrf := z4.fz; have xrl := z4.lt; go_wp2_with fail; refine bodyPost_ret (v := .tuple #[.agg #[.int .i64 0, .int .i64 0, .slice none 0 0], .agg #[.int .i64 0, .int .i64 0, .slice none 0 0], .agg #[.int .i64 0, .int .i64 0, .slice none 0 0], .bool false]) ?_ rfl ?_; (simp [results, Try.results121, go_sem, zr0, zr1, zr2, zrf, zrl, yr0, yr1, yr2, yrf, yrl, xr0, xr1, xr2, xrf, xrl]); exact ⟨_, 0, 0, none, 0, 0, 0, 0, none, 0, 0, rfl, Own.nil _ _, by exact bel2 g2 g01⟩)
  · rw [hq] at HS
    have HS' := Lib.hid HS
    obtain ⟨R, C, rfl, rfl, hR, hC, hlen, hnum⟩ := isMat_nat hq
    rw [smD_nat hq] at hRES
    have HR := Lib.hid hRES
    have ok0 : Ok3 R C (l, idL R, idL C) := ⟨hlen, idL_length R, idL_length C, (allNum_iff _).2 hnum, idL_num R, idL_num C⟩
    have OK0 := Lib.hid ok0
    have hnRC : n = R * C := hn.symm.trans hlen
    have CW := Lib.hid fun W h => newWork_c R C n A l cap W hn hR hC h hl
    have HNR := Lib.hid hnRC
    obtain ⟨M, hM, hMR, hMC, hM2⟩ : ∃ M : Nat, min (R : Int) (C : Int) = (M : Int) ∧ M ≤ R ∧ M ≤ C ∧ (M = R ∨ M = C) := ⟨min R C, by omega, by omega, by omega, by omega⟩
    clear HS hq hRES ok0 hlen hnum hn hnRC
    go_enter Try.func121, Try.ntmps121
    go_wp2_with fail
    refine (HS'.out _ (by exact (Rd.grows ha (by exact bel0)))).mono ?_; rintro e w2 ⟨rfl, g2⟩
    rw [← HW1.out] at g2
    obtain ⟨a0, a1, a2⟩ := (mg.grows g2).cells
    go_wp2_with fail
    refine (CW.out _ (by exact (Rd.grows ha1 (by exact bel1 g2)))).mono ?_; rintro e w3 ⟨b, A', U, V, ca, cu, cv, rfl, wk3, g3⟩
    have hs2 := Below.size g2
    have HS2 := Lib.hid hs2
    have MG := Lib.hid fun wr (h : Below w2.heap.size w2 wr) => (mg.grows g2).keep h (mg.grows g2).lt
    have M2 := Lib.hid fun wr (h : Below w2.heap.size w2 wr) => (m2.grows g2).keep h (m2.grows g2).lt
    have M3 := Lib.hid fun wr (h : Below w2.heap.size w2 wr) => (m3.grows g2).keep h (m3.grows g2).lt
    have M4 := Lib.hid fun wr (h : Below w2.heap.size w2 wr) => (m4.grows g2).keep h (m4.grows g2).lt
    have ws3 : WkS w3 w2.heap.size b R C (l, idL R, idL C) := by
      have h := HNR.out
      subst h
      exact ⟨_, _, _, _, _, _, wk3⟩
    have hb3 : Below w2.heap.size w2 w3 := g3
    obtain ⟨s0, hs0⟩ : ∃ s0 : L3, s0 = (l, idL R, idL C) := ⟨_, rfl⟩
    rw [← hs0] at ws3 OK0 HR
    clear a0 a1 a2 mg m2 m3 m4 wk3 hs2 CW ha1 hs0 HNR
    go_upto_block 0 with fail
    go_cut [] (fun wx => ∃ o : Option L3, RowKit.Hid (SmF R C 0 s0 o) ∧ WkSO wx w2.heap.size b R C o ∧ Below w2.heap.size w2 wx)
    case first =>
      have hMc : ∀ T : Nat, T < M → T < R ∧ T < C := fun T h => ⟨by omega, by omega⟩
      have hMn : ∀ T : Nat, ¬ T < M → ¬ (T < R ∧ T < C) := fun T h h2 => by omega
      have HMC := Lib.hid hMc
      have HMN := Lib.hid hMn
      clear hM2 hMc hMn
      go_wp2_with fail
      go_loopw [7] (fun tv wr => ∃ (T : Nat) (o : Option L3), tv = .int .i64 T ∧ T ≤ M ∧ WkSO wr w2.heap.size b R C o ∧ Below w2.heap.size w2 wr ∧ RowKit.Hid ((o = none → SmF R C 0 s0 none) ∧ ∀ s, o = some s → Ok3 R C s ∧ ∀ r, SmF R C T s r → SmF R C 0 s0 r)) (fun tv _ => M - (intOf tv).toNat)
      case atStart => exact ⟨0, some s0, rfl, Nat.zero_le _, ws3.toO, hb3, Lib.hid ⟨(fun h => by cases h), fun s e => by cases e; exact ⟨OK0.out, fun r h => h⟩⟩⟩
      case round =>
        clear ws3 hb3
        obtain ⟨T, o, rfl, hT, wo, hb, HF⟩ := hrel
        obtain ⟨wh, rfl⟩ : ∃ wo : World, wo = wr := ⟨_, rfl⟩
        by_cases hCR : C < R
        all_goals (
          have mbg := MG.out wh hb
          obtain ⟨a0, a1, a2⟩ := mbg.cells
          have al := mbg.lt
          by_cases hlt : T < M
          · have hlt' : (T : Int) < (M : Int) := by omega
            obtain ⟨hTR, hTC⟩ := HMC.out T hlt
            have hTR' : (T : Int) < (R : Int) := by omega
            have hTC' : (T : Int) < (C : Int) := by omega
            cases o with
            | none =>
              obtain ⟨A2, U2, V2, ca2, cu2, cv2, xa, xu, xv, wk⟩ := wo.none
              obtain ⟨b0, b1, b2, b3, b4', b5, b6, b7, b8, b9⟩ := wk.bx.cells
              have bl := wk.bx.lt
              go_wp2_with fail
              go_meet
              exact ⟨none, Lib.hid (by first | exact HF.out.1 rfl | exact HF.out.1 trivial), wo, hb⟩
            | some s =>
              obtain ⟨oks, hgo⟩ := HF.out.2 s rfl
              have ws := wo.some
              have OKS := Lib.hid oks
              have HGO := Lib.hid hgo
              have CL := Lib.hid (lstFrom_c R C w2.heap.size b T s wh hR hC oks (Nat.le_of_lt hTR) (Nat.le_of_lt hTC) ws)
              obtain ⟨A2, U2, V2, ca2, cu2, cv2, wk⟩ := wo.some
              obtain ⟨b0, b1, b2, b3, b4', b5, b6, b7, b8, b9⟩ := wk.bx.cells
              have bl := wk.bx.lt
              have hwsz := wk.size
              clear oks hgo HF wo
              cases hq : lst R C T s.1 with
              | none =>
                rw [hq] at CL
                have HX := Lib.hid (HGO.out _ (SmF.stop (.inr hq)))
                clear hq
                go_wp2_with fail
                refine CL.out.mono ?_; rintro e w5 ⟨rfl, g5⟩
                go_wp2_with fail
                go_meet
                exact ⟨some s, HX, (ws.grows g5).toO, Below.trans hb (Below.mono g5 hwsz)⟩
              | some q =>
                rw [hq] at CL
                have HNE := Lib.hid (show lst R C T s.1 ≠ none by rw [hq]; simp)
                clear hq
                go_wp2_with fail
                refine CL.out.mono ?_; rintro e w5 ⟨rfl, g5⟩
                have ws5 := ws.grows g5
                have hb5 := Below.trans hb (Below.mono g5 hwsz)
                clear b0 b1 b2 b3 b4' b5 b6 b7 b8 b9 bl wk ws CL
                go_upto_block 2 with fail
                go_cut [] (fun wx => ∃ oE : Option L3, RowKit.Hid ((oE = none → SmT R C T s none) ∧ ∀ z, oE = some z → Ok3 R C z ∧ SmT R C T s (some (ngv R C T z))) ∧ WkSO wx w2.heap.size b R C oE ∧ Below w2.heap.size w2 wx)
                case first =>
                  go_wp2_with fail
                  go_loopg [] (smu R C T s.1 + 1) (fun gk wr => ∃ (o' : Option L3), RowKit.Hid ((o' = none → SmT R C T s none) ∧ ∀ y, o' = some y → Ok3 R C y ∧ (∃ q, lst R C T y.1 = some q) ∧ (∀ r, SmT R C T y r → SmT R C T s r) ∧ smu R C T y.1 + 1 ≤ gk) ∧ WkSO wr w2.heap.size b R C o' ∧ Below w2.heap.size w2 wr)
                  case atStart => exact ⟨some s, Lib.hid ⟨(fun h => by cases h), fun y h => by cases h; exact ⟨OKS.out, Option.ne_none_iff_exists'.1 HNE.out, fun r h => h, Nat.le_refl _⟩⟩, ws5.toO, hb5⟩
                  case round =>
                   clear ws5 hb5
                   obtain ⟨o', HY, wo', hby⟩ := hrel
                   cases o' with
                   | none =>
                    obtain ⟨A2, U2, V2, ca2, cu2, cv2, xa, xu, xv, wk⟩ := wo'.none
                    obtain ⟨b0, b1, b2, b3, b4', b5, b6, b7, b8, b9⟩ := wk.bx.cells
                    have bl := wk.bx.lt
                    go_wp2_with fail
                    go_meet
                    exact ⟨none, Lib.hid ⟨fun _ => by first | exact HY.out.1 rfl | exact HY.out.1 trivial, (fun z h => by cases h)⟩, wo', hby⟩
                   | some y =>
                    obtain ⟨oky, ⟨q', hq'⟩, hy, hmu⟩ := HY.out.2 y rfl
                    have wsy := wo'.some
                    have CR := Lib.hid (round_c R C w2.heap.size b T y q' wr hR hC oky hTR hTC hq' wsy)
                    have OKY := Lib.hid oky
                    have HYY := Lib.hid hy
                    obtain ⟨o2, ho2⟩ : ∃ o2, o2 = smRound R C T y := ⟨_, rfl⟩
                    rw [← ho2] at CR
                    have HO2 := Lib.hid ho2
                    obtain ⟨A3, U3, V3, ca3, cu3, cv3, wk⟩ := wo'.some
                    obtain ⟨b0, b1, b2, b3, b4', b5, b6, b7, b8, b9⟩ := wk.bx.cells
                    have bl := wk.bx.lt
                    clear oky hq' hy ho2 HY wo'
                    go_wp2_with fail
                    refine CR.out.mono ?_; rintro e w6 ⟨k, rfl, b6', hn, hs⟩
                    have hb6 := Below.trans hby b6'
                    cases o2 with
                    | none =>
                      have wt := hn rfl
                      clear hn hs
                      have HX := Lib.hid (HYY.out _ (SmT.bad HO2.out.symm))
                      cases k
                      · go_wp2_with fail
                        go_meet
                        exact ⟨none, Lib.hid ⟨fun _ => HX.out, (fun z h => by cases h)⟩, wt.toO, hb6⟩
                      · go_wp2_with fail
                        go_roundg 0
                        case measure => omega
                        case rel => exact ⟨none, Lib.hid ⟨fun _ => HX.out, (fun z h => by cases h)⟩, wt.toO, hb6⟩
                    | some z =>
                      obtain ⟨z, k2⟩ := z
                      obtain ⟨rfl, wz⟩ := hs _ rfl
                      clear hn hs
                      cases k
                      · have okz := round_done OKY.out hTR hTC HO2.out.symm
                        have HX := Lib.hid (HYY.out _ (SmT.done HO2.out.symm))
                        have OKZ := Lib.hid okz
                        clear okz
                        go_wp2_with fail
                        go_meet
                        exact ⟨some z, Lib.hid ⟨(fun h => by cases h), fun z' h => by cases h; exact ⟨OKZ.out, HX.out⟩⟩, wz.toO, hb6⟩
                      · obtain ⟨okz, hqz, hmz⟩ := round_again OKY.out hTR hTC HO2.out.symm
                        have HX := Lib.hid (show Ok3 R C z ∧ (∃ q, lst R C T z.1 = some q) ∧ (∀ r, SmT R C T z r → SmT R C T s r) ∧ smu R C T z.1 + 1 ≤ smu R C T z.1 + 1 from ⟨okz, hqz, fun r h => HYY.out r (SmT.again HO2.out.symm h), Nat.le_refl _⟩)
                        clear okz hqz
                        go_wp2_with fail
                        go_roundg (smu R C T z.1 + 1)
                        case measure => omega
                        case rel => exact ⟨some z, Lib.hid ⟨(fun h => by cases h), fun y h => by cases h; exact HX.out⟩, wz.toO, hb6⟩
                case rest =>
                  clear ws5 hb5
                  obtain ⟨oE, HE, woE, hbE⟩ := hcut
                  obtain ⟨w7, rfl⟩ : ∃ x : World, x = wc := ⟨_, rfl⟩
                  cases oE with
                  | none =>
                    have HX := Lib.hid (HGO.out _ (SmF.bad hTR hTC HNE.out (HE.out.1 rfl)))
                    obtain ⟨A2, U2, V2, ca2, cu2, cv2, xa, xu, xv, wk⟩ := woE.none
                    obtain ⟨b0, b1, b2, b3, b4', b5, b6, b7, b8, b9⟩ := wk.bx.cells
                    have bl := wk.bx.lt
                    go_wp2_with fail
                    go_round
                    case rel => exact ⟨T + 1, none, by go_num, by omega, woE, hbE, Lib.hid ⟨fun _ => HX.out, (fun s h => by cases h)⟩⟩
                    case measure => simp [intOf]; omega
                  | some z =>
                    obtain ⟨okz, hz⟩ := HE.out.2 z rfl
                    have HZ := Lib.hid hz
                    have OKZ := Lib.hid okz
                    have wz := woE.some
                    obtain ⟨A2, U2, V2, ca2, cu2, cv2, wk⟩ := woE.some
                    obtain ⟨b0, b1, b2, b3, b4', b5, b6, b7, b8, b9⟩ := wk.bx.cells
                    have bl := wk.bx.lt
                    have hwsz7 := wk.size
                    have hrd := wk.oa.rd'
                    have hTC2 : T * C ≤ 576 := by have h1 := Nat.mul_le_mul_right C (Nat.le_of_lt hTR); have h2 : R * C ≤ 24 * 24 := Nat.mul_le_mul hR hC; omega
                    have C2 := fun W h => at_c R C A2 z.1 (R * C) ca2 T T W okz.l1 h (castMul T C) (by have := castMulLe hTC2; omega) (castPos T C T) (castLt (by rw [okz.l1]; exact idx_lt hTR hTC)) (by rw [okz.l1]; have h2 : R * C ≤ 24 * 24 := Nat.mul_le_mul hR hC; omega)
                    rw [castIdx] at C2
                    have CN := Lib.hid fun W h => negW3_c R C w2.heap.size b T z W hR hC okz hTR h
                    clear okz hz HE woE hTC2
                    by_cases hneg : nth z.1 (T * C + T) < 0
                    · have HX := Lib.hid (show ngv R C T z = negR3 R C T z by unfold ngv; rw [if_pos hneg])
                      have HNX := Lib.hid (show Ok3 R C (ngv R C T z) from ngv_ok OKZ.out hTR)
                      have HSX := Lib.hid fun r h => HGO.out r (SmF.step hTR hTC HNE.out HZ.out h)
                      generalize nth z.1 (T * C + T) = x1 at *
                      have C2' := Lib.hid C2
                      clear C2
                      go_wp2_with fail
                      refine (C2'.out _ (by exact (Rd.grows hrd (by exact bel0)))).mono ?_; rintro e w8 ⟨rfl, g8⟩
                      have wz8 := wz.grows g8
                      clear b0 b1 b2 b3 b4' b5 b6 b7 b8 b9 bl wk
                      go_wp2_with fail
                      refine (CN.out _ wz8).mono ?_; rintro e w9 ⟨rfl, wz9, b9⟩
                      have hb9 := Below.trans (Below.trans hbE (Below.mono g8 hwsz7)) b9
                      go_wp2_with fail
                      go_round
                      case rel => exact ⟨T + 1, some (ngv R C T z), by go_num, by omega, by rw [HX.out]; exact wz9.toO, hb9, Lib.hid ⟨(fun h => by cases h), fun s h => by cases h; exact ⟨HNX.out, HSX.out⟩⟩⟩
                      case measure => simp [intOf]; omega
                    · have HX := Lib.hid (show ngv R C T z = z by unfold ngv; rw [if_neg hneg])
                      have HNX := Lib.hid (show Ok3 R C (ngv R C T z) from ngv_ok OKZ.out hTR)
                      have HSX := Lib.hid fun r h => HGO.out r (SmF.step hTR hTC HNE.out HZ.out h)
                      generalize nth z.1 (T * C + T) = x1 at *
                      have C2' := Lib.hid C2
                      clear C2
                      go_wp2_with fail
                      refine (C2'.out _ (by exact (Rd.grows hrd (by exact bel0)))).mono ?_; rintro e w8 ⟨rfl, g8⟩
                      have wz8 := wz.grows g8
                      have hb8 := Below.trans hbE (Below.mono g8 hwsz7)
                      go_wp2_with fail
                      go_round
                      case rel => exact ⟨T + 1, some (ngv R C T z), by go_num, by omega, by rw [HX.out]; exact wz8.toO, hb8, Lib.hid ⟨(fun h => by cases h), fun s h => by cases h; exact ⟨HNX.out, HSX.out⟩⟩⟩
                      case measure => simp [intOf]; omega
          · have hlt' : ¬ (T : Int) < (M : Int) := by omega
            have HMN' := Lib.hid (HMN.out T hlt)
            have hE : (C < R → ¬ (T : Int) < (C : Int)) ∧ (¬ C < R → ¬ (T : Int) < (R : Int)) := ⟨fun h => by omega, fun h => by omega⟩
            first | have hx := hE.1 hCR | have hx := hE.2 hCR
            clear hE
            cases o with
            | none =>
              go_wp2_with fail
              go_meet
              exact ⟨none, Lib.hid (by first | exact HF.out.1 rfl | exact HF.out.1 trivial), wo, hb⟩
            | some s =>
              have HX := Lib.hid ((HF.out.2 s rfl).2 _ (SmF.stop (.inl HMN'.out)))
              go_wp2_with fail
              go_meet
              exact ⟨some s, HX, wo, hb⟩)
    case rest =>
      clear ws3 hb3
      obtain ⟨o, HF, wo, b4⟩ := hcut
      obtain ⟨w4, rfl⟩ : ∃ x : World, x = wc := ⟨_, rfl⟩
      cases o with
      | none =>
        obtain ⟨A2, U2, V2, ca2, cu2, cv2, xa, xu, xv, wk⟩ := wo.none
        obtain ⟨b0, b1, b2, b3, b4', b5, b6, b7, b8, b9⟩ := wk.bx.cells
        have bl := wk.bx.lt
        obtain rfl : RES = none := by rw [HR.out, smF_eq HF.out]; rfl
        (have z2 := M2.out w4 b4; have z3 := M3.out w4 b4; have z4 := M4.out w4 b4; obtain ⟨zr0, zr1, zr2⟩ := z2.cells; have zrf := z2.fz; have zrl := z2.lt; obtain ⟨yr0, yr1, yr2⟩ := z3.cells; have yrf := z3.fz; have yrl := z3.lt; obtain ⟨xr0, xr1, xr2⟩ := z4.cells; have xrf := z4.fz; have xrl := z4.lt; go_wp2_with fail; refine bodyPost_ret (v := .tuple #[.agg #[.int .i64 0, .int .i64 0, .slice none 0 0], .agg #[.int .i64 0, .int .i64 0, .slice none 0 0], .agg #[.int .i64 0, .int .i64 0, .slice none 0 0], .bool false]) ?_ rfl ?_; (simp [results, Try.results121, go_sem, zr0, zr1, zr2, zrf, zrl, yr0, yr1, yr2, yrf, yrl, xr0, xr1, xr2, xrf, xrl]); exact ⟨_, 0, 0, none, 0, 0, 0, 0, none, 0, 0, rfl, Own.nil _ _, by exact bel3 b4 g2 g01⟩)
      | some s =>
        obtain ⟨A2, U2, V2, ca2, cu2, cv2, wk⟩ := wo.some
        obtain ⟨b0, b1, b2, b3, b4', b5, b6, b7, b8, b9⟩ := wk.bx.cells
        have bl := wk.bx.lt
        obtain rfl : RES = some ⟨R, C, s.1⟩ := by rw [HR.out, smF_eq HF.out]; rfl
        have z2 := M2.out w4 b4; have z3 := M3.out w4 b4; have z4 := M4.out w4 b4
        obtain ⟨zr0, zr1, zr2⟩ := z2.cells; have zrf := z2.fz; have zrl := z2.lt
        obtain ⟨yr0, yr1, yr2⟩ := z3.cells; have yrf := z3.fz; have yrl := z3.lt
        obtain ⟨xr0, xr1, xr2⟩ := z4.cells; have xrf := z4.fz; have xrl := z4.lt
        have hbB := wk.lo
        have hsB := HS1.out
        have hs2 := HS2.out
        go_wp2_with fail
        (refine wp_region_heldL (fun W => W.cell? ⟨b, 0, none⟩ = some (.int .i64 R) ∧ W.cell? ⟨b, 1, none⟩ = some (.int .i64 C) ∧ W.cell? ⟨b, 2, none⟩ = some (.slice A2 (R * C) ca2) ∧ W.cell? ⟨b, 3, none⟩ = some (.int .i64 R) ∧ W.cell? ⟨b, 4, none⟩ = some (.int .i64 R) ∧ W.cell? ⟨b, 5, none⟩ = some (.slice U2 (R * R) cu2) ∧ W.cell? ⟨b, 6, none⟩ = some (.int .i64 C) ∧ W.cell? ⟨b, 7, none⟩ = some (.int .i64 C) ∧ W.cell? ⟨b, 8, none⟩ = some (.slice V2 (C * C) cv2)) (by kernel_rfl) (by ((try dsimp only); (refine wk9 (A := .slice A2 (R * C) ca2) (U := .slice U2 (R * R) cu2) (V := .slice V2 (C * C) cv2) (bd := false) ?_; ((repeat' (first | with_reducible exact wk.bx | with_reducible refine WBox.drew_ ?_ | with_reducible refine WBox.far ?_ ?_ _)); all_goals (first | omega | (simp; done) | (simp; omega)))))) (fun hHeld => ?_); refine heldL_take (i := 0) (v := _) (by rfl) (by kernel_rfl) (by kernel_rfl) (by kernel_rfl) (fun _ _ _ h => h) (Or.inl ⟨by rfl, fun wS hSw => by ((try dsimp only at hSw); go_simp; (try with_reducible rfl))⟩) (by assumption) ?_; simp only [Act.put, List.setIfInBounds_toArray, List.set_cons_zero, List.set_cons_succ]; refine heldL_take (i := 1) (v := _) (by rfl) (by kernel_rfl) (by kernel_rfl) (by kernel_rfl) (fun _ _ _ h => h) (Or.inl ⟨by rfl, fun wS hSw => by ((try dsimp only at hSw); go_simp; (try with_reducible rfl))⟩) (by assumption) ?_; simp only [Act.put, List.setIfInBounds_toArray, List.set_cons_zero, List.set_cons_succ]; refine heldL_take (i := 2) (v := _) (by rfl) (by kernel_rfl) (by kernel_rfl) (by kernel_rfl) (fun _ _ _ h => h) (Or.inl ⟨by rfl, fun wS hSw => by ((try dsimp only at hSw); go_simp; (try with_reducible rfl))⟩) (by assumption) ?_; simp only [Act.put, List.setIfInBounds_toArray, List.set_cons_zero, List.set_cons_succ]; refine heldL_take (i := 3) (v := _) (by rfl) (by kernel_rfl) (by kernel_rfl) (by kernel_rfl) (fun _ _ _ h => h) (Or.inl ⟨by rfl, fun wS hSw => by ((try dsimp only at hSw); go_simp; (try with_reducible rfl))⟩) (by assumption) ?_; simp only [Act.put, List.setIfInBounds_toArray, List.set_cons_zero, List.set_cons_succ]; refine heldL_take (i := 4) (v := _) (by rfl) (by kernel_rfl) (by kernel_rfl) (by kernel_rfl) (fun _ _ _ h => h) (Or.inl ⟨by rfl, fun wS hSw => by ((try dsimp only at hSw); go_simp; (try with_reducible rfl))⟩) (by assumption) ?_; simp only [Act.put, List.setIfInBounds_toArray, List.set_cons_zero, List.set_cons_succ]; refine heldL_take (i := 5) (v := _) (by rfl) (by kernel_rfl) (by kernel_rfl) (by kernel_rfl) (fun _ _ _ h => h) (Or.inl ⟨by rfl, fun wS hSw => by ((try dsimp only at hSw); go_simp; (try with_reducible rfl))⟩) (by assumption) ?_; simp only [Act.put, List.setIfInBounds_toArray, List.set_cons_zero, List.set_cons_succ]; refine heldL_take (i := 6) (v := _) (by rfl) (by kernel_rfl) (by kernel_rfl) (by kernel_rfl) (fun _ _ _ h => h) (Or.inl ⟨by rfl, fun wS hSw => by ((try dsimp only at hSw); go_simp; (try with_reducible rfl))⟩) (by assumption) ?_; simp only [Act.put, List.setIfInBounds_toArray, List.set_cons_zero, List.set_cons_succ]; refine heldL_take (i := 7) (v := _) (by rfl) (by kernel_rfl) (by kernel_rfl) (by kernel_rfl) (fun _ _ _ h => h) (Or.inl ⟨by rfl, fun wS hSw => by ((try dsimp only at hSw); go_simp; (try with_reducible rfl))⟩) (by assumption) ?_; simp only [Act.put, List.setIfInBounds_toArray, List.set_cons_zero, List.set_cons_succ]; refine heldL_take (i := 8) (v := _) (by rfl) (by kernel_rfl) (by kernel_rfl) (by kernel_rfl) (fun _ _ _ h => h) (Or.inl ⟨by rfl, fun wS hSw => by ((try dsimp only at hSw); go_simp; (try with_reducible rfl))⟩) (by assumption) ?_; simp only [Act.put, List.setIfInBounds_toArray, List.set_cons_zero, List.set_cons_succ]; refine heldL_take (i := 9) (v := _) (by rfl) (by kernel_rfl) (by kernel_rfl) (by kernel_rfl) (fun _ _ _ h => h) (Or.inl ⟨by rfl, fun wS hSw => by ((try dsimp only at hSw); go_simp; (try with_reducible rfl))⟩) (by assumption) ?_; simp only [Act.put, List.setIfInBounds_toArray, List.set_cons_zero, List.set_cons_succ]; refine heldL_take (i := 10) (v := _) (by rfl) (by kernel_rfl) (by kernel_rfl) (by kernel_rfl) (fun _ _ _ h => h) (Or.inl ⟨by rfl, fun wS hSw => by ((try dsimp only at hSw); go_simp; (try with_reducible rfl))⟩) (by assumption) ?_; simp only [Act.put, List.setIfInBounds_toArray, List.set_cons_zero, List.set_cons_succ]; refine heldL_take (i := 11) (v := _) (by rfl) (by kernel_rfl) (by kernel_rfl) (by kernel_rfl) (fun _ _ _ h => h) (Or.inl ⟨by rfl, fun wS hSw => by ((try dsimp only at hSw); go_simp; (try with_reducible rfl))⟩) (by assumption) ?_; simp only [Act.put, List.setIfInBounds_toArray, List.set_cons_zero, List.set_cons_succ]; refine heldL_step (i := 12) (by kernel_rfl) (by rfl) (fun K hK => ?_); go_simp; refine hK.out _ _ (by ((try dsimp only); (refine wk9 (A := .slice A2 (R * C) ca2) (U := .slice U2 (R * R) cu2) (V := .slice V2 (C * C) cv2) (bd := false) ?_; ((repeat' (first | with_reducible exact wk.bx | with_reducible refine WBox.drew_ ?_ | with_reducible refine WBox.far ?_ ?_ _)); all_goals (first | omega | (simp; done) | (simp; omega)))))) (fun hHeld => ?_); clear hK K; (try simp only [Act.put, List.setIfInBounds_toArray, List.set_cons_zero, List.set_cons_succ]); refine heldL_step (i := 13) (by kernel_rfl) (by rfl) (fun K hK => ?_); go_simp; refine hK.out _ _ (by ((try dsimp only); (refine wk9 (A := .slice A2 (R * C) ca2) (U := .slice U2 (R * R) cu2) (V := .slice V2 (C * C) cv2) (bd := false) ?_; ((repeat' (first | with_reducible exact wk.bx | with_reducible refine WBox.drew_ ?_ | with_reducible refine WBox.far ?_ ?_ _)); all_goals (first | omega | (simp; done) | (simp; omega)))))) (fun hHeld => ?_); clear hK K; (try simp only [Act.put, List.setIfInBounds_toArray, List.set_cons_zero, List.set_cons_succ]); refine heldL_step (i := 14) (by kernel_rfl) (by rfl) (fun K hK => ?_); go_simp; refine hK.out _ _ (by ((try dsimp only); (refine wk9 (A := .slice A2 (R * C) ca2) (U := .slice U2 (R * R) cu2) (V := .slice V2 (C * C) cv2) (bd := false) ?_; ((repeat' (first | with_reducible exact wk.bx | with_reducible refine WBox.drew_ ?_ | with_reducible refine WBox.far ?_ ?_ _)); all_goals (first | omega | (simp; done) | (simp; omega)))))) (fun hHeld => ?_); clear hK K; (try simp only [Act.put, List.setIfInBounds_toArray, List.set_cons_zero, List.set_cons_succ]); refine heldL_take (i := 15) (v := _) (by rfl) (by kernel_rfl) (by kernel_rfl) (by kernel_rfl) (fun _ _ _ h => h) (Or.inl ⟨by rfl, fun wS hSw => by ((try dsimp only at hSw); go_simp; (try with_reducible rfl))⟩) (by assumption) ?_; simp only [Act.put, List.setIfInBounds_toArray, List.set_cons_zero, List.set_cons_succ]; refine wpAnyH_done (by kernel_rfl) ?_ _; refine NoPanic.normal ?_)
        go_wp2_with fail
        refine bodyPost_ret (v := .tuple #[.agg #[.int .i64 R, .int .i64 C, .slice A2 (R * C) ca2], .agg #[.int .i64 R, .int .i64 R, .slice U2 (R * R) cu2], .agg #[.int .i64 C, .int .i64 C, .slice V2 (C * C) cv2], .bool true]) ?_ rfl ?_
        · simp [results, Try.results121, go_sem, zr0, zr1, zr2, zrf, zrl, yr0, yr1, yr2, yrf, yrl, xr0, xr1, xr2, xrf, xrl]
        · have hoA : Own w4 w2.heap.size (.slice A2 (R * C) ca2) (oM (some (⟨(R : Int), (C : Int), s.1⟩ : MX))).l := wk.oa
          exact ⟨_, _, _, _, _, _, _, _, _, _, _, rfl, by exact ownl hoA, by exact bel3 b4 g2 g01⟩
end
end Go.Proofs.Ytbfkpfdkndnhkaa
