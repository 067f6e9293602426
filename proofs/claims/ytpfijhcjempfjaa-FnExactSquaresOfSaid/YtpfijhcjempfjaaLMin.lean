/- Contracts: the leading minors. -/
import Derived.Test.YtpfijhcjempfjaaRowC
namespace Go.Proofs.Ytpfijhcjempfjaa
open Go.RowKit

/-! ### plain -/
/-- the first k rows and columns -/
def subm (k C : Nat) (l : List Int) : List Int := tab k k fun i j => nth l (i * C + j)
theorem subm_length (k C : Nat) (l : List Int) : (subm k C l).length = k * k := tab_length _ _ _
theorem subm_num {k C : Nat} {l : List Int} (hk : k ≤ C) (hl : l.length = C * C) (h : ∀ i, i < l.length → isNum (nth l i) = true) (i : Nat) (hi : i < (subm k C l).length) : isNum (nth (subm k C l) i) = true := by
  rw [subm_length] at hi
  obtain ⟨h1, h2, h3⟩ := idx_split hi
  rw [h3]
  unfold subm
  rw [tab_nth _ h1 h2]
  exact h _ (by rw [hl]; exact idx_lt (by omega) (by omega))
/-- the minors of the first rows and columns, where they fit -/
def lmP (R : Nat) (l : List Int) : Nat → Option (List Int)
  | 0 => some []
  | k + 1 => (lmP R l k).bind fun s => (detO (k + 1) (subm (k + 1) R l)).map fun d => s ++ [d]
theorem lmP_none {R : Nat} {l : List Int} {j k : Nat} (h : lmP R l j = none) (hk : j ≤ k) : lmP R l k = none := by
  induction k with
  | zero => rw [show j = 0 by omega] at h; exact h
  | succ k ih =>
    by_cases e : j = k + 1
    · rw [← e]; exact h
    · rw [lmP, ih (by omega)]; rfl
theorem lmP_fail {R : Nat} {l s : List Int} {k : Nat} (h : lmP R l k = some s) (hd : detO (k + 1) (subm (k + 1) R l) = none) : lmP R l (k + 1) = none := by rw [lmP, h]; simp [hd]
theorem lmP_some {R : Nat} {l s : List Int} {k : Nat} {d : Int} (h : lmP R l k = some s) (hd : detO (k + 1) (subm (k + 1) R l) = some d) : lmP R l (k + 1) = some (s ++ [d]) := by rw [lmP, h]; simp [hd]
theorem lmP_length {R : Nat} {l s : List Int} {k : Nat} (h : lmP R l k = some s) : s.length = k := by
  induction k generalizing s with
  | zero => cases h; rfl
  | succ k ih =>
    rw [lmP] at h
    obtain ⟨s', h1, h2⟩ := Option.bind_eq_some_iff.1 h
    obtain ⟨d, _, rfl⟩ := Option.map_eq_some_iff.1 h2
    simp [ih h1]
def lmO (r c : Int) (l : List Int) : Option (List Int) := if isSq r c l then lmP r.toNat l r.toNat else none
theorem lmO_no {r c : Int} {l : List Int} (h : isSq r c l = false) : lmO r c l = none := by unfold lmO; simp [h]
theorem lmO_yes {R : Nat} {l : List Int} (h : isSq R R l = true) : lmO R R l = lmP R l R := by unfold lmO; simp [h]
theorem lmO_length {r c : Int} {l s : List Int} (h : lmO r c l = some s) : s.length ≤ 6 := by
  cases hq : isSq r c l
  · rw [lmO_no hq] at h; cases h
  · obtain ⟨_, R, rfl, rfl, hR, _⟩ := isSq_nat hq
    rw [lmO_yes hq] at h
    rw [lmP_length h]; exact hR
/-- the slice that an answer holds -/
def oL (o : Option (List Int)) : List Int := o.getD []

section
set_option maxHeartbeats 1000000
set_option maxRecDepth 10000 in
theorem iLMin_c (r c : Int) (A : Option Addr) (l : List Int) (n cap : Nat) (w : World) (hn : l.length = n) (hcap : n ≤ cap) (hcap2 : cap ≤ 9223372036854775807) (ha : Rd w A l) (hl : n ≤ 1099511627776) :
    Calls Try.prog 64 #[.agg #[.int .i64 r, .int .i64 c, .slice A n cap]] w fun e w' => ∃ v, e = .returned (.tuple #[v, .bool (lmO r c l).isSome]) ∧ Own w' w.heap.size v (oL (lmO r c l)) ∧ Grows w w' := by
  have HS := fun w h => iIsSquare_c r c A l n cap w hn h hl
  cases hq : isSq r c l
  · rw [lmO_no hq]
    rw [hq] at HS
    have HS' := Lib.hid HS
    clear HS hq hn
    go_enter Try.func64, Try.ntmps64
    go_wp2_with fail
    refine (HS'.out _ (by exact (Rd.grows ha (by ((repeat' (first | with_reducible exact Below.refl _ _ | with_reducible assumption | (with_reducible refine Below.setCell ?_ ?_ _) | (with_reducible refine Below.alloc ?_ ?_ _) | (with_reducible refine Below.drew ?_) | (with_reducible refine below_drewN ?_ _))); all_goals (first | omega | (simp; done) | (simp; omega) | (simp [*]; done) | (simp at *; omega))))))).mono ?_; rintro e w1 ⟨rfl, g1⟩
    go_wp2_with fail
    go_ret2
    exact ⟨_, rfl, Own.new_ _ rfl (by have := Below.size g1; simp at this; omega), by (have bz0 := Below.size (g1); (try simp at bz0); (repeat' (first | with_reducible exact Below.refl _ _ | with_reducible assumption | (with_reducible refine Below.setCell ?_ ?_ _) | (with_reducible refine Below.alloc ?_ ?_ _) | (with_reducible refine Below.drew ?_) | (with_reducible refine below_drewN ?_ _) | (with_reducible refine Below.trans ?_ (Below.mono (g1) ?_)))); all_goals (first | omega | (simp; done) | (simp; omega) | (simp [*]; done) | (simp at *; omega)))⟩
  · obtain ⟨_, R, rfl, rfl, hR, hlen, hnum⟩ := isSq_nat hq
    rw [lmO_yes hq]
    rw [hq] at HS
    have HS' := Lib.hid HS
    have HN := Lib.hid hn
    have HLN := Lib.hid hlen
    have HNU := Lib.hid hnum
    have hRR : R * R ≤ 36 := Nat.mul_le_mul hR hR
    have hn36 : n ≤ 36 := by omega
    have hln : l.length = n := hn
    obtain ⟨w1, hw1⟩ : ∃ w1, w1 = w.alloc (.cells #[.int .i64 R, .int .i64 R, .slice A n cap] 26) := ⟨_, rfl⟩
    have mb1 : MBox w1 w.heap.size R R (.slice A n cap) := by rw [hw1]; exact MBox.mk_ _ _ _ _ _
    have hg01 : Grows w w1 := by rw [hw1]; ((repeat' (first | with_reducible exact Below.refl _ _ | with_reducible assumption | (with_reducible refine Below.setCell ?_ ?_ _) | (with_reducible refine Below.alloc ?_ ?_ _) | (with_reducible refine Below.drew ?_) | (with_reducible refine below_drewN ?_ _))); all_goals (first | omega | (simp; done) | (simp; omega) | (simp [*]; done) | (simp at *; omega)))
    have ha1 : Rd w1 A l := ha.grows hg01
    have hs1 : w1.heap.size = w.heap.size + 1 := by rw [hw1]; simp
    have HW1 := Lib.hid hw1
    have HS1 := Lib.hid hs1
    clear hw1 HS hq hn hlen hnum hln hs1
    go_enter Try.func64, Try.ntmps64
    go_wp2_with fail
    refine (HS'.out _ (by exact (Rd.grows ha (by ((repeat' (first | with_reducible exact Below.refl _ _ | with_reducible assumption | (with_reducible refine Below.setCell ?_ ?_ _) | (with_reducible refine Below.alloc ?_ ?_ _) | (with_reducible refine Below.drew ?_) | (with_reducible refine below_drewN ?_ _))); all_goals (first | omega | (simp; done) | (simp; omega) | (simp [*]; done) | (simp at *; omega))))))).mono ?_; rintro e w2 ⟨rfl, g2⟩
    rw [← HW1.out] at g2
    go_wp2_with fail
    go_loopw [4, 5] (fun o k wr => ∃ (K : Nat) (A4 : Option Addr) (L : List Int) (c4 : Nat), k = .int .i64 ((K : Int) + 1) ∧ o = .slice A4 L.length c4 ∧ K ≤ R ∧ lmP R l K = some L ∧ Own wr w1.heap.size (.slice A4 L.length c4) L ∧ Grows w1 wr) (fun _ k _ => R + 1 - (intOf k).toNat)
    case atStart => exact ⟨0, _, [], _, rfl, rfl, Nat.zero_le _, rfl, Own.new_ _ rfl (Below.size g2), by (have bz0 := Below.size (g2); (try simp at bz0); (repeat' (first | with_reducible exact Below.refl _ _ | with_reducible assumption | (with_reducible refine Below.setCell ?_ ?_ _) | (with_reducible refine Below.alloc ?_ ?_ _) | (with_reducible refine Below.drew ?_) | (with_reducible refine below_drewN ?_ _) | (with_reducible refine Below.trans ?_ (Below.mono (g2) ?_)))); all_goals (first | omega | (simp; done) | (simp; omega) | (simp [*]; done) | (simp at *; omega)))⟩
    case round =>
      clear g2
      obtain ⟨K, A4, L, c4, rfl, rfl, hK, hL, ho, hg⟩ := hrel
      have HL := Lib.hid hL
      have HLL := Lib.hid (lmP_length hL)
      clear hL
      have mb := mb1.grows hg
      obtain ⟨b0, b1, b2⟩ := mb.cells
      by_cases hlt : K < R
      · have hKK : (K + 1) * (K + 1) ≤ 36 := Nat.le_trans (Nat.mul_le_mul (show K + 1 ≤ R by omega) (show K + 1 ≤ R by omega)) hRR
        obtain ⟨N, hN⟩ : ∃ N, N = K + 1 := ⟨_, rfl⟩
        have hNi : (K : Int) + 1 = (N : Int) := by omega
        rw [hNi]
        have hNR : N ≤ R := by omega
        have hNN : N * N ≤ 36 := by rw [hN]; exact hKK
        have CN := Lib.hid fun W => newMatrix_c N N W (by omega)
        have HNN := Lib.hid hN
        clear hN
        go_wp2_with fail
        refine (CN.out _).mono ?_; rintro e w3 ⟨g, rfl, ho3, g3⟩
        have hwr := hg.size
        have hw3 := Below.size g3
        have hgl := ho3.lt
        go_wp2_with fail
        obtain ⟨wo, rfl⟩ : ∃ wo : World, wo = wr := ⟨_, rfl⟩
        go_loopw [7] (fun i wx => ∃ (I : Nat) (m : List Int), i = .int .i64 I ∧ I ≤ N ∧ m.length = N * N ∧ Upto N (fun i j => nth l (i * R + j)) I 0 m ∧ Own wx wo.heap.size (.slice (some ⟨g, 0, none⟩) (N * N) (N * N)) m ∧ Grows wo wx ∧ MBox wx w3.heap.size N N (.slice (some ⟨g, 0, none⟩) (N * N) (N * N))) (fun i _ => N - (intOf i).toNat)
        case atStart => exact ⟨0, _, rfl, Nat.zero_le _, by simp, Upto.zero _ _ _, ho3.alloc _, by (have bz0 := Below.size (g3); (try simp at bz0); (repeat' (first | with_reducible exact Below.refl _ _ | with_reducible assumption | (with_reducible refine Below.setCell ?_ ?_ _) | (with_reducible refine Below.alloc ?_ ?_ _) | (with_reducible refine Below.drew ?_) | (with_reducible refine below_drewN ?_ _) | (with_reducible refine Below.trans ?_ (Below.mono (g3) ?_)))); all_goals (first | omega | (simp; done) | (simp; omega) | (simp [*]; done) | (simp at *; omega))), MBox.new_ _ _ _ _ _ rfl⟩
        case round =>
          clear ho3 g3 b0 b1 b2
          obtain ⟨I, m, rfl, hI, hm, hU, ho3, g3, m3⟩ := hrel
          have HM := Lib.hid hm
          have HU := Lib.hid hU
          clear hm hU
          by_cases hlt2 : I < N
          · obtain ⟨x0, x1, x2⟩ := (mb.grows g3).ext
            obtain ⟨y0, y1, y2⟩ := m3.ext
            have hra := (ha1.grows hg).grows g3
            have hIN : (I + 1) * N ≤ N * N := Nat.mul_le_mul_right N hlt2
            have hIR : (I + 1) * R ≤ R * R := Nat.mul_le_mul_right R (by omega)
            have hIN2 : I * N + N = (I + 1) * N := by rw [Nat.add_mul, Nat.one_mul]
            have hIR2 : I * R + R = (I + 1) * R := by rw [Nat.add_mul, Nat.one_mul]
            have CR := Lib.hid fun W => row_c N N (some ⟨g, 0, none⟩) m (N * N) (N * N) I I W rfl HM.out (Nat.le_refl _) (by omega) hIN (by omega) (by omega)
            have CS := Lib.hid fun W => row_c R R A l n cap I I W rfl HN.out hcap hcap2 (by have := HLN.out; have := HN.out; omega) (by omega) (by omega)
            have hcl : I * R + R ≤ cap := by have := HLN.out; have := HN.out; omega
            have z1 : (N : Int) ≤ ((cap - I * R : Nat) : Int) := by omega
            have rS := rowA_rd (cap := cap) (C := R) (I := I) hra (by rw [HLN.out]; exact hIR) (by rw [HN.out]; exact hcap)
            have rl : (rowL R l I).length = R := rowL_length (by rw [HLN.out]; exact hIR)
            have rS2 := rS.take_ N
            have dA : 0 < ((rowL R l I).take N).length → rowA (N * N) N (some ⟨g, 0, none⟩) I = some ⟨g, 0 + I * N, none⟩ := fun _ => rowA_at (by omega) (by omega)
            have tl : ((rowL R l I).take N).length = N := by rw [List.length_take, rl]; omega
            have DA := Lib.hid dA
            have TL := Lib.hid tl
            have hgs := ho3.lt
            have HX := Lib.hid (show ∀ j, j < N → nth ((rowL R l I).take N) j = nth l (I * R + j) from fun j hj => by rw [← rowL_nth (C := R) (by omega)]; unfold nth; simp only [List.getD_eq_getElem?_getD, List.getElem?_take, if_pos hj])
            have HIN := Lib.hid hIN2
            clear dA tl rl hIN2 hIR2
            generalize hRN : rowA (N * N) N (some ⟨g, 0, none⟩) I = dN at *
            generalize hRS : rowA cap R A I = dS at *
            have R1 := Lib.hid hRN
            have R2 := Lib.hid hRS
            clear hRN hRS
            go_wp2_with fail
            ((refine wp_region_tail 8 (by kernel_rfl) (by kernel_rfl) ?_; simp only [List.take_succ_cons, List.take_zero, List.drop_succ_cons, List.drop_zero]); (repeat (go_big_quiet_step ((first | (go_at_call 67; with_reducible exact extC (CR.out _)) | (go_at_call 67; with_reducible exact extC (CS.out _)))))); refine wpQuiet_nil ?_; rintro w4 ⟨w40, hw40⟩; have g4 := grows_of_ext hw40; clear hw40 w40)
            have ho4 := ho3.grows g4
            have r4 := rS2.grows g4
            refine wpList_copyI rfl (.tmp 31) (.tmp 36) rfl _ wo.heap.size g (N * N) (N * N) (0 + I * N) N (N * N - I * N) m ho4 HM.out dN (by rfl) dS ((rowL R l I).take N) N (cap - I * R) (by rfl) r4 TL.out.symm (by rw [TL.out]; exact Nat.le_refl _) (by rw [TL.out]; have := HIN.out; omega) DA.out ?_; intro w5 ho5 hg5
            have hLY := Lib.hid (show Upto N (fun i j => nth l (i * R + j)) (I + 1) 0 (lay m (0 + I * N) ((rowL R l I).take N)) from fun i j hij => by
              have hin := HIN.out
              have hiN : i * N + N = (i + 1) * N := by rw [Nat.add_mul, Nat.one_mul]
              by_cases e : i = I
              · subst e
                rw [show i * N + j = (0 + i * N) + j by omega, lay_nth_in (by rw [TL.out, HM.out]; omega) (by rw [TL.out]; omega)]
                exact HX.out j (by omega)
              · have hlt3 : (i + 1) * N ≤ I * N := Nat.mul_le_mul_right N (by omega)
                rw [lay_nth_out (by rw [TL.out, HM.out]; omega) (by left; omega)]
                exact HU.out i j (by omega))
            have hLL := Lib.hid (lay_length (l := m) (m := (rowL R l I).take N) (off := 0 + I * N) (by rw [TL.out, HM.out]; have := HIN.out; omega))
            go_wp2_with fail
            go_round
            case rel => exact ⟨I + 1, _, by go_num, by omega, by rw [hLL.out, HM.out], hLY.out, ho5, below_only (Grows.trans g3 g4) hg5 (by omega) (by have := g3.size; have := g4.size; omega), (m3.grows g4).only hg5 (by omega)⟩
            case measure => simp [intOf]; omega
          · obtain rfl : I = N := by omega
            have hfin : m = subm I R l := Upto.all HU.out HM.out
            subst hfin
            obtain ⟨y0, y1, y2⟩ := m3.cells
            have hsl := subm_length I R l
            have hsn := subm_num hNR HLN.out HNU.out
            have CD := Lib.hid fun W h => iDet_c I (by omega) (subm I R l) (some ⟨g, 0, none⟩) (I * I) (I * I) I W rfl HM.out rfl hsn h
            have F0 := Lib.hid fun h => lmP_fail (R := R) (l := l) HL.out (by rw [← HNN.out]; exact h)
            have F1 := Lib.hid fun d h => lmP_some (R := R) (l := l) (d := d) HL.out (by rw [← HNN.out]; exact h)
            have ND := Lib.hid fun d h => detO_num (n := I) (l := subm I R l) (d := d) h
            have hr3 := ho3.rd_
            clear hsl hsn
            generalize detO I (subm I R l) = D at *
            go_wp2_with fail
            refine (CD.out _ (by exact (Rd.grows hr3 (by ((repeat' (first | with_reducible exact Below.refl _ _ | with_reducible assumption | (with_reducible refine Below.setCell ?_ ?_ _) | (with_reducible refine Below.alloc ?_ ?_ _) | (with_reducible refine Below.drew ?_) | (with_reducible refine below_drewN ?_ _))); all_goals (first | omega | (simp; done) | (simp; omega) | (simp [*]; done) | (simp at *; omega))))))).mono ?_; rintro e w6 ⟨⟨x, rfl, hx⟩, g6⟩
            cases D with
            | none =>
              have FD := Lib.hid (lmP_none (k := R) (F0.out rfl) (by omega))
              clear hx
              go_wp2_with fail
              go_ret2
              exact ⟨_, by rw [FD.out]; rfl, by rw [FD.out]; exact Own.new_ _ rfl (by have := hg01.size; have := g3.size; have := g6.size; omega), by (have bz0 := Below.size (g6); (try simp at bz0); have bz1 := Below.size (g3); (try simp at bz1); have bz2 := Below.size (hg); (try simp at bz2); have bz3 := Below.size (hg01); (try simp at bz3); (repeat' (first | with_reducible exact Below.refl _ _ | with_reducible assumption | (with_reducible refine Below.setCell ?_ ?_ _) | (with_reducible refine Below.alloc ?_ ?_ _) | (with_reducible refine Below.drew ?_) | (with_reducible refine below_drewN ?_ _) | (with_reducible refine Below.trans ?_ (Below.mono (g6) ?_)) | (with_reducible refine Below.trans ?_ (Below.mono (g3) ?_)) | (with_reducible refine Below.trans ?_ (Below.mono (hg) ?_)) | (with_reducible refine Below.trans ?_ (Below.mono (hg01) ?_)))); all_goals (first | omega | (simp; done) | (simp; omega) | (simp [*]; done) | (simp at *; omega)))⟩
            | some d =>
              obtain rfl : x = d := hx d rfl
              have FD := Lib.hid (F1.out x rfl)
              clear hx
              have ho6 := (ho.grows g3).grows g6
              go_wp2_with (at_builtin; refine wpList_app1 rfl (.tmp 46) (.tmp 48) rfl _ x w1.heap.size _ L (by rfl) ho6 (by rfl) (by have := HLL.out; omega) (by have := g3.size; have := g6.size; omega) ?_; intro v7 w7 ho7 hg7 _)
              obtain ⟨A7, c7, rfl, _, _⟩ := ho7.val
              have hb7 : Below w1.heap.size w6 w7 := below_app ho6 (by have := g3.size; have := g6.size; omega) hg7
              have hNi2 : (I : Int) + 1 = ((K + 1 : Nat) : Int) + 1 := by have := HNN.out; omega
              go_round
              case rel => exact ⟨K + 1, _, _, _, by rw [← hNi2], rfl, by omega, FD.out, ho7, by (have bz0 := Below.size (hb7); (try simp at bz0); have bz1 := Below.size (g6); (try simp at bz1); have bz2 := Below.size (g3); (try simp at bz2); have bz3 := Below.size (hg); (try simp at bz3); (repeat' (first | with_reducible exact Below.refl _ _ | with_reducible assumption | (with_reducible refine Below.setCell ?_ ?_ _) | (with_reducible refine Below.alloc ?_ ?_ _) | (with_reducible refine Below.drew ?_) | (with_reducible refine below_drewN ?_ _) | (with_reducible refine Below.trans ?_ (Below.mono (hb7) ?_)) | (with_reducible refine Below.trans ?_ (Below.mono (g6) ?_)) | (with_reducible refine Below.trans ?_ (Below.mono (g3) ?_)) | (with_reducible refine Below.trans ?_ (Below.mono (hg) ?_)))); all_goals (first | omega | (simp; done) | (simp; omega) | (simp [*]; done) | (simp at *; omega)))⟩
              case measure => simp [intOf]; omega
      · obtain rfl : K = R := by omega
        go_wp2_with fail
        go_ret2
        have hs1 := HS1.out
        exact ⟨_, by rw [HL.out]; rfl, by rw [HL.out]; exact ho.less (by omega), by (have bz0 := Below.size (hg); (try simp at bz0); have bz1 := Below.size (hg01); (try simp at bz1); (repeat' (first | with_reducible exact Below.refl _ _ | with_reducible assumption | (with_reducible refine Below.setCell ?_ ?_ _) | (with_reducible refine Below.alloc ?_ ?_ _) | (with_reducible refine Below.drew ?_) | (with_reducible refine below_drewN ?_ _) | (with_reducible refine Below.trans ?_ (Below.mono (hg) ?_)) | (with_reducible refine Below.trans ?_ (Below.mono (hg01) ?_)))); all_goals (first | omega | (simp; done) | (simp; omega) | (simp [*]; done) | (simp at *; omega)))⟩
end
end Go.Proofs.Ytpfijhcjempfjaa
