/- Contracts: a copy of a matrix; a matrix times a number. -/
import Derived.Test.YtpfijhcjempfjaaAdj
import Derived.Test.YtpfijhcjempfjaaLat4
namespace Go.Proofs.Ytpfijhcjempfjaa
open Go.RowKit

def scL (k : Int) (l : List Int) : List Int := l.map (· * k)
def scO (a : MX) (k : Int) : Option MX := if a.ok && isNum k && allNum (scL k a.l) then some ⟨a.r, a.c, scL k a.l⟩ else none
theorem scO_no {a : MX} {k : Int} (h : a.ok = false ∨ isNum k = false) : scO a k = none := by
  unfold scO; rw [if_neg]; rcases h with h | h <;> simp [h]
theorem scL_nth (k : Int) (l : List Int) (i : Nat) (h : i < l.length) : nth (scL k l) i = nth l i * k := by
  rw [nth_get _ _ (by simp [scL]; exact h), nth_get _ _ h]; simp [scL]
/-- the first i cells are done -/
def ScD (k : Int) (l : List Int) (i : Nat) (m : List Int) : Prop := m.length = l.length ∧ ∀ j, j < i → nth m j = nth l j * k
theorem ScD.set {k : Int} {l m : List Int} {i : Nat} (h : ScD k l i m) (hi : i < l.length) : ScD k l (i + 1) (m.set i (nth l i * k)) := by
  refine ⟨by rw [List.length_set]; exact h.1, fun j hj => ?_⟩
  rw [nth_set _ _ _ _ (by rw [h.1]; exact hi)]
  split
  · rename_i e; rw [e]
  · exact h.2 j (by omega)
theorem ScD.all {k : Int} {l m : List Int} (h : ScD k l l.length m) : m = scL k l :=
  nth_ext (by rw [h.1]; simp [scL]) fun i hi => by rw [h.2 i (by rw [← h.1]; exact hi), scL_nth _ _ _ (by rw [← h.1]; exact hi)]
theorem scO_yes {R C : Nat} {k : Int} {l : List Int} (h : isMat R C l = true) (hk : isNum k = true) : isMat R C (scL k l) = allNum (scL k l) ∧ scO ⟨R, C, l⟩ k = if allNum (scL k l) then some ⟨R, C, scL k l⟩ else none := by
  obtain ⟨R', C', e1, e2, hR, hC, hl, hn⟩ := isMat_nat h
  obtain rfl : R = R' := by omega
  obtain rfl : C = C' := by omega
  refine ⟨isMat_made hR hC (by simp [scL, hl]), ?_⟩
  unfold scO MX.ok
  simp only [h, hk, Bool.true_and]
theorem scO_ok {a m : MX} {k : Int} (h : scO a k = some m) : m.ok = true := by
  unfold scO at h
  split at h
  · rename_i hh
    cases h
    simp only [Bool.and_eq_true] at hh
    obtain ⟨R, C, e1, e2, hR, hC, hl, hn⟩ := isMat_ok hh.1.1
    have := hh.1.1
    unfold MX.ok at this ⊢
    simp only [e1, e2] at this ⊢
    rw [(scO_yes this hh.1.2).1]; exact hh.2
  · cases h

section
set_option maxHeartbeats 1000000
theorem copyM_c (r c : Int) (A : Option Addr) (l : List Int) (n cap : Nat) (w : World) (hn : l.length = n) (ha : Rd w A l) (hl : n ≤ 1099511627776) :
    Calls Try.prog 118 #[.agg #[.int .i64 r, .int .i64 c, .slice A n cap]] w (Mat1 ⟨r, c, l⟩ w) := by
  obtain ⟨w1, hw1, mg, mr, hs1, g01⟩ := one_mat w r c (.slice A n cap)
  have HW1 := Lib.hid hw1
  have HS1 := Lib.hid hs1
  have ha1 : Rd w1 A l := ha.grows g01
  have HN := Lib.hid hn
  clear hw1 hs1 hn
  go_enter Try.func118, Try.ntmps118
  go_wp2_with (
      at_builtin
      rw [← HW1.out]
      refine wpList_app rfl (.tmp 3) (.tmp 5) rfl _ w1.heap.size _ [] (by rfl) (Own.new_ _ (by have := HS1.out; omega) (by have := HS1.out; omega)) A l n cap (by rfl) HN.out (by exact (Rd.grows ha1 (by ((repeat' (first | with_reducible exact Below.refl _ _ | with_reducible assumption | (with_reducible refine Below.setCell ?_ ?_ _) | (with_reducible refine Below.alloc ?_ ?_ _) | (with_reducible refine Below.drew ?_) | (with_reducible refine below_drewN ?_ _))); all_goals (first | omega | (simp; done) | (simp; omega) | (simp [*]; done) | (simp at *; omega)))))) (by simp; have := HN.out; omega) (by simp) ?_
      intro v7 w7 ho7 hg7 hv7
      have hne : ∀ b, b < w1.heap.size → ∀ g, (Value.slice (some ⟨w.heap.size + 1 + 1, 0, none⟩) 0 0).ownBlock = some g → g ≠ b := by
        intro b hb g hg
        have := HS1.out
        simp [Value.ownBlock] at hg
        omega
      have mg7 := (mg.alloc (.cells #[] 3)).own hg7 (hne _ mg.lt)
      have mr7 := (mr.alloc (.cells #[] 3)).own hg7 (hne _ mr.lt)
      have hb7 : Below w1.heap.size (w1.alloc (.cells #[] 3)) w7 := below_app (Own.new_ _ (by have := HS1.out; omega) (by have := HS1.out; omega)) (by simp) hg7
      have g17 : Grows w1 w7 := Below.trans (show Grows w1 (w1.alloc (.cells #[] 3)) by ((repeat' (first | with_reducible exact Below.refl _ _ | with_reducible assumption | (with_reducible refine Below.setCell ?_ ?_ _) | (with_reducible refine Below.alloc ?_ ?_ _) | (with_reducible refine Below.drew ?_) | (with_reducible refine below_drewN ?_ _))); all_goals (first | omega | (simp; done) | (simp; omega) | (simp [*]; done) | (simp at *; omega)))) hb7
      rw [List.nil_append] at ho7
      obtain ⟨A7, c7, rfl, _, _⟩ := ho7.val
      have mg8 := mg7.put2 (.slice A7 l.length c7)
      have mr8 := mr7.far (p := ⟨w.heap.size, 2, none⟩) (by simp) (.slice A7 l.length c7)
      have ho8 := ho7.low (p := ⟨w.heap.size, 2, none⟩) mg.lt (.slice A7 l.length c7)
      have hs1 := HS1.out
      have ho9 := ho8.less (B' := w.heap.size) (by omega)
      obtain ⟨a0, a1, a2⟩ := mg7.cells
      have af := mg7.fz
      have al := mg7.lt
      obtain ⟨b0, b1, b2⟩ := mg8.cells
      obtain ⟨r0, r1, r2⟩ := mr8.cells
      have rf := mr8.fz
      have rl := mr8.lt
      clear hs1)
  refine bodyPost_ret (v := .agg #[.int .i64 r, .int .i64 c, .slice A7 l.length c7]) ?_ rfl ?_
  · simp [results, Try.results118, go_sem, r0, r1, r2, rf, rl]
  · have hs2 := Below.size g17
    have hs1 := HS1.out
    refine ⟨_, rfl, ?_, ?_⟩
    · have hf : ∀ g, (Value.slice A7 l.length c7).ownBlock = some g → g ≠ w.heap.size + 1 := fun g hg => by have := (World.ownsRow.lt ho7 g hg).1; omega
      exact ((ho9.far (p := ⟨w.heap.size + 1, 0, none⟩) hf _).far (p := ⟨w.heap.size + 1, 1, none⟩) hf _).far (p := ⟨w.heap.size + 1, 2, none⟩) hf _
    · (have bz0 := Below.size (g17); (try simp at bz0); have bz1 := Below.size (g01); (try simp at bz1); (repeat' (first | with_reducible exact Below.refl _ _ | with_reducible assumption | (with_reducible refine Below.setCell ?_ ?_ _) | (with_reducible refine Below.alloc ?_ ?_ _) | (with_reducible refine Below.drew ?_) | (with_reducible refine below_drewN ?_ _) | (with_reducible refine Below.trans ?_ (Below.mono (g17) ?_)) | (with_reducible refine Below.trans ?_ (Below.mono (g01) ?_)))); all_goals (first | omega | (simp; done) | (simp; omega) | (simp [*]; done) | (simp at *; omega)))
theorem iScale_c (r c k : Int) (A : Option Addr) (l : List Int) (n cap : Nat) (w : World) (hn : l.length = n) (ha : Rd w A l) (hl : n ≤ 1099511627776) :
    Calls Try.prog 62 #[.agg #[.int .i64 r, .int .i64 c, .slice A n cap], .int .i64 k] w (MatRet (scO ⟨r, c, l⟩ k) w) := by
  have HS := fun w h => iIsMatrix_c r c A l n cap w hn h hl
  obtain ⟨w1, hw1, mg, mr, hs1, g01⟩ := one_mat w r c (.slice A n cap)
  have HW1 := Lib.hid hw1
  have HS1 := Lib.hid hs1
  have ha1 : Rd w1 A l := ha.grows g01
  clear hw1 hs1
  have HK := Lib.hid fun W => iIsNumber_c k W
  obtain ⟨RES, hRES⟩ : ∃ x, x = scO ⟨r, c, l⟩ k := ⟨_, rfl⟩
  rw [← hRES]
  cases hq : isMat r c l
  · rw [scO_no (a := ⟨r, c, l⟩) (.inl hq)] at hRES
    rw [hq] at HS
    have HS' := Lib.hid HS
    subst hRES
    clear HS hq hn
    go_enter Try.func62, Try.ntmps62
    go_wp2_with fail
    refine (HS'.out _ (by exact (Rd.grows ha (by ((repeat' (first | with_reducible exact Below.refl _ _ | with_reducible assumption | (with_reducible refine Below.setCell ?_ ?_ _) | (with_reducible refine Below.alloc ?_ ?_ _) | (with_reducible refine Below.drew ?_) | (with_reducible refine below_drewN ?_ _))); all_goals (first | omega | (simp; done) | (simp; omega) | (simp [*]; done) | (simp at *; omega))))))).mono ?_; rintro e w2 ⟨rfl, g2⟩
    rw [← HW1.out] at g2
    (have zr := MBox.grows mr (w' := w2) (by (have bz0 := Below.size (g2); (try simp at bz0); (repeat' (first | with_reducible exact Below.refl _ _ | with_reducible assumption | (with_reducible refine Below.setCell ?_ ?_ _) | (with_reducible refine Below.alloc ?_ ?_ _) | (with_reducible refine Below.drew ?_) | (with_reducible refine below_drewN ?_ _) | (with_reducible refine Below.trans ?_ (Below.mono (g2) ?_)))); all_goals (first | omega | (simp; done) | (simp; omega) | (simp [*]; done) | (simp at *; omega)))); obtain ⟨zr0, zr1, zr2⟩ := zr.cells; have zrf := zr.fz; have zrl := zr.lt; go_wp2_with fail; refine bodyPost_ret (v := .tuple #[.agg #[.int .i64 0, .int .i64 0, .slice none 0 0], .bool false]) ?_ rfl ?_; (simp [results, Try.results62, go_sem, zr0, zr1, zr2, zrf, zrl]); exact ⟨_, rfl, Own.nil _ _, by (have bz0 := Below.size (g2); (try simp at bz0); have bz1 := Below.size (g01); (try simp at bz1); (repeat' (first | with_reducible exact Below.refl _ _ | with_reducible assumption | (with_reducible refine Below.setCell ?_ ?_ _) | (with_reducible refine Below.alloc ?_ ?_ _) | (with_reducible refine Below.drew ?_) | (with_reducible refine below_drewN ?_ _) | (with_reducible refine Below.trans ?_ (Below.mono (g2) ?_)) | (with_reducible refine Below.trans ?_ (Below.mono (g01) ?_)))); all_goals (first | omega | (simp; done) | (simp; omega) | (simp [*]; done) | (simp at *; omega)))⟩)
  · rw [hq] at HS
    have HS' := Lib.hid HS
    cases hkn : isNum k
    · rw [scO_no (a := ⟨r, c, l⟩) (.inr hkn)] at hRES
      have HK := fun W => iIsNumber_c k W
      rw [hkn] at HK
      have HK' := Lib.hid HK
      subst hRES
      clear HS hq hn hkn HK
      go_enter Try.func62, Try.ntmps62
      go_wp2_with fail
      refine (HS'.out _ (by exact (Rd.grows ha (by ((repeat' (first | with_reducible exact Below.refl _ _ | with_reducible assumption | (with_reducible refine Below.setCell ?_ ?_ _) | (with_reducible refine Below.alloc ?_ ?_ _) | (with_reducible refine Below.drew ?_) | (with_reducible refine below_drewN ?_ _))); all_goals (first | omega | (simp; done) | (simp; omega) | (simp [*]; done) | (simp at *; omega))))))).mono ?_; rintro e w2 ⟨rfl, g2⟩
      rw [← HW1.out] at g2
      go_wp2_with fail
      refine (HK'.out _).mono ?_; rintro e w' ⟨rfl, rfl⟩
      (have zr := MBox.grows mr (w' := w2) (by (have bz0 := Below.size (g2); (try simp at bz0); (repeat' (first | with_reducible exact Below.refl _ _ | with_reducible assumption | (with_reducible refine Below.setCell ?_ ?_ _) | (with_reducible refine Below.alloc ?_ ?_ _) | (with_reducible refine Below.drew ?_) | (with_reducible refine below_drewN ?_ _) | (with_reducible refine Below.trans ?_ (Below.mono (g2) ?_)))); all_goals (first | omega | (simp; done) | (simp; omega) | (simp [*]; done) | (simp at *; omega)))); obtain ⟨zr0, zr1, zr2⟩ := zr.cells; have zrf := zr.fz; have zrl := zr.lt; go_wp2_with fail; refine bodyPost_ret (v := .tuple #[.agg #[.int .i64 0, .int .i64 0, .slice none 0 0], .bool false]) ?_ rfl ?_; (simp [results, Try.results62, go_sem, zr0, zr1, zr2, zrf, zrl]); exact ⟨_, rfl, Own.nil _ _, by (have bz0 := Below.size (g2); (try simp at bz0); have bz1 := Below.size (g01); (try simp at bz1); (repeat' (first | with_reducible exact Below.refl _ _ | with_reducible assumption | (with_reducible refine Below.setCell ?_ ?_ _) | (with_reducible refine Below.alloc ?_ ?_ _) | (with_reducible refine Below.drew ?_) | (with_reducible refine below_drewN ?_ _) | (with_reducible refine Below.trans ?_ (Below.mono (g2) ?_)) | (with_reducible refine Below.trans ?_ (Below.mono (g01) ?_)))); all_goals (first | omega | (simp; done) | (simp; omega) | (simp [*]; done) | (simp at *; omega)))⟩)
    · obtain ⟨R, C, rfl, rfl, hR, hC, hlen, hnum⟩ := isMat_nat hq
      have hy := scO_yes hq hkn
      rw [hy.2] at hRES
      have HMM := Lib.hid hy.1
      have HR := Lib.hid hRES
      have hkb := (isNum_iff _).1 hkn
      have HK := fun W => iIsNumber_c k W
      rw [hkn] at HK
      have HK' := Lib.hid HK
      have CP := Lib.hid fun W h => copyM_c R C A l n cap W hn h hl
      have HNB := Lib.hid fun i hi => (isNum_iff _).1 (hnum i hi)
      have hn576 : n ≤ 576 := by rw [← hn, hlen]; exact Nat.mul_le_mul hR hC
      have hrc := castMul R C
      have HN := Lib.hid hn
      clear HS hq hkn HK hy hRES hlen hnum hn
      go_enter Try.func62, Try.ntmps62
      go_wp2_with fail
      refine (HS'.out _ (by exact (Rd.grows ha (by ((repeat' (first | with_reducible exact Below.refl _ _ | with_reducible assumption | (with_reducible refine Below.setCell ?_ ?_ _) | (with_reducible refine Below.alloc ?_ ?_ _) | (with_reducible refine Below.drew ?_) | (with_reducible refine below_drewN ?_ _))); all_goals (first | omega | (simp; done) | (simp; omega) | (simp [*]; done) | (simp at *; omega))))))).mono ?_; rintro e w2 ⟨rfl, g2⟩
      rw [← HW1.out] at g2
      obtain ⟨b0, b1, b2⟩ := (mg.grows g2).cells
      go_wp2_with fail
      refine (HK'.out _).mono ?_; rintro e w' ⟨rfl, rfl⟩
      go_wp2_with fail
      refine (CP.out _ (by exact (Rd.grows ha1 (by (have bz0 := Below.size (g2); (try simp at bz0); (repeat' (first | with_reducible exact Below.refl _ _ | with_reducible assumption | (with_reducible refine Below.setCell ?_ ?_ _) | (with_reducible refine Below.alloc ?_ ?_ _) | (with_reducible refine Below.drew ?_) | (with_reducible refine below_drewN ?_ _) | (with_reducible refine Below.trans ?_ (Below.mono (g2) ?_)))); all_goals (first | omega | (simp; done) | (simp; omega) | (simp [*]; done) | (simp at *; omega))))))).mono ?_; rintro e w3 ⟨v3, rfl, ho3, g3⟩
      obtain ⟨A3, c3, rfl, _, hc3⟩ := ho3.val
      clear b0 b1 b2
      have HA3 := Lib.hid fun g h => (World.ownsRow.lt ho3 g h).2
      have hs2 := Below.size g2
      have hs3 := Below.size g3
      have g13 : Grows w1 w3 := by (have bz0 := Below.size (g3); (try simp at bz0); have bz1 := Below.size (g2); (try simp at bz1); (repeat' (first | with_reducible exact Below.refl _ _ | with_reducible assumption | (with_reducible refine Below.setCell ?_ ?_ _) | (with_reducible refine Below.alloc ?_ ?_ _) | (with_reducible refine Below.drew ?_) | (with_reducible refine below_drewN ?_ _) | (with_reducible refine Below.trans ?_ (Below.mono (g3) ?_)) | (with_reducible refine Below.trans ?_ (Below.mono (g2) ?_)))); all_goals (first | omega | (simp; done) | (simp; omega) | (simp [*]; done) | (simp at *; omega)))
      have hnl : l.length ≤ 576 := by have := HN.out; omega
      go_wp2_with fail
      go_loopw [22] (fun i wr => ∃ (I : Nat) (m : List Int), i = .int .i64 I ∧ I ≤ l.length ∧ ScD k l I m ∧ (∀ j, I ≤ j → nth m j = nth l j) ∧ Own wr w2.heap.size (.slice A3 l.length c3) m ∧ MBox wr w3.heap.size R C (.slice A3 l.length c3) ∧ Grows w1 wr) (fun i _ => l.length - (intOf i).toNat)
      case atStart => exact ⟨0, l, rfl, Nat.zero_le _, ⟨rfl, fun j hj => by omega⟩, fun _ _ => rfl, ho3.alloc _, MBox.new_ _ _ _ _ _ rfl, by (have bz0 := Below.size (g13); (try simp at bz0); (repeat' (first | with_reducible exact Below.refl _ _ | with_reducible assumption | (with_reducible refine Below.setCell ?_ ?_ _) | (with_reducible refine Below.alloc ?_ ?_ _) | (with_reducible refine Below.drew ?_) | (with_reducible refine below_drewN ?_ _) | (with_reducible refine Below.trans ?_ (Below.mono (g13) ?_)))); all_goals (first | omega | (simp; done) | (simp; omega) | (simp [*]; done) | (simp at *; omega)))⟩
      case round =>
        clear ho3
        obtain ⟨I, m, rfl, hI, hd, hrest, ho, mm, hg⟩ := hrel
        have HD := Lib.hid hd
        have HRS := Lib.hid hrest
        clear hd hrest
        obtain ⟨y0, y1, y2⟩ := mm.cells
        have hml := HD.out.1
        by_cases hlt : I < l.length
        · have HML := Lib.hid hml
          have hf := ho.form (by rw [hml]; omega)
          clear hml
          obtain ⟨g, cap', e, hgB, hgw⟩ := hf
          simp only [Value.slice.injEq] at e
          obtain ⟨rfl, _, rfl⟩ := e
          have c1 := ho.cell I (by rw [HML.out]; exact hlt)
          rw [HRS.out I (Nat.le_refl _)] at c1
          have cf := ho.free I
          have hlt' : (I : Int) < (l.length : Int) := by omega
          have HNX := Lib.hid (HD.out.set hlt)
          have hxb := HNB.out I hlt
          have hmb : -160000000000000000 ≤ nth l I * k ∧ nth l I * k ≤ 160000000000000000 := mul_bd ((isNum_iff _).2 hxb) ((isNum_iff _).2 hkb)
          have hos : ∀ x : Int, Own (wr.setCell ⟨g, I, none⟩ (.int .i64 x)) w2.heap.size (.slice (some ⟨g, 0, none⟩) l.length c3) (m.set I x) := fun x => by
            have := ho
            rw [← HML.out] at this ⊢
            exact this.set _ _
          have hgs : ∀ x : Int, wr.grownBy (wr.setCell ⟨g, I, none⟩ (.int .i64 x)) (some g) := fun x => only_setCell (p := ⟨g, I, none⟩) (World.grownBy.refl wr _) rfl _
          have HRN := Lib.hid (show ∀ j, I + 1 ≤ j → nth (m.set I (nth l I * k)) j = nth l j from fun j hj => by
            rw [nth_set _ _ _ _ (by rw [HML.out]; exact hlt), if_neg (by omega)]; exact HRS.out j (by omega))
          have HOS := Lib.hid hos
          have HGS := Lib.hid hgs
          clear hos hgs
          generalize nth l I = x at *
          have hs1 := Below.size hg
          have hgg : g < w3.heap.size := HA3.out g (by simp [Value.ownBlock])
          go_wp2_with fail
          go_round
          case rel => exact ⟨I + 1, _, by go_num, by omega, HNX.out, HRN.out, HOS.out _, mm.only (HGS.out _) (by omega), below_only hg (HGS.out _) (by omega) (by omega)⟩
          case measure => simp [intOf]; omega
        · obtain rfl : I = l.length := by omega
          have hfin : m = scL k l := HD.out.all
          subst hfin
          have HRQ := HR.out
          have HMQ := HMM.out
          have hml := HD.out.1
          have hro := ho.rd_
          by_cases hok : allNum (scL k l) = true
          · rw [hok] at HRQ HMQ
            obtain rfl : RES = some ⟨R, C, scL k l⟩ := HRQ
            have CK := Lib.hid fun W h => checked_yes R C A3 (scL k l) l.length c3 W hml h (by omega) HMQ
            have ho2 : Own wr w2.heap.size (.slice A3 l.length c3) (oM (some ⟨(R : Int), (C : Int), scL k l⟩)).l := ho
            clear HMQ hok
            go_wp2_with fail
            refine (CK.out _ (by exact (Rd.grows hro (by ((repeat' (first | with_reducible exact Below.refl _ _ | with_reducible assumption | (with_reducible refine Below.setCell ?_ ?_ _) | (with_reducible refine Below.alloc ?_ ?_ _) | (with_reducible refine Below.drew ?_) | (with_reducible refine below_drewN ?_ _))); all_goals (first | omega | (simp; done) | (simp; omega) | (simp [*]; done) | (simp at *; omega))))))).mono ?_; rintro e w7 ⟨rfl, g7⟩
            have g17 : Grows w1 w7 := by (have bz0 := Below.size (g7); (try simp at bz0); have bz1 := Below.size (hg); (try simp at bz1); (repeat' (first | with_reducible exact Below.refl _ _ | with_reducible assumption | (with_reducible refine Below.setCell ?_ ?_ _) | (with_reducible refine Below.alloc ?_ ?_ _) | (with_reducible refine Below.drew ?_) | (with_reducible refine below_drewN ?_ _) | (with_reducible refine Below.trans ?_ (Below.mono (g7) ?_)) | (with_reducible refine Below.trans ?_ (Below.mono (hg) ?_)))); all_goals (first | omega | (simp; done) | (simp; omega) | (simp [*]; done) | (simp at *; omega)))
            have ho7 := ho2.grows g7
            have hs7 := Below.size g17
            have hs1 := HS1.out
            (have zr := MBox.grows mr (w' := w7) (by (have bz0 := Below.size (g17); (try simp at bz0); (repeat' (first | with_reducible exact Below.refl _ _ | with_reducible assumption | (with_reducible refine Below.setCell ?_ ?_ _) | (with_reducible refine Below.alloc ?_ ?_ _) | (with_reducible refine Below.drew ?_) | (with_reducible refine below_drewN ?_ _) | (with_reducible refine Below.trans ?_ (Below.mono (g17) ?_)))); all_goals (first | omega | (simp; done) | (simp; omega) | (simp [*]; done) | (simp at *; omega)))); obtain ⟨zr0, zr1, zr2⟩ := zr.cells; have zrf := zr.fz; have zrl := zr.lt; go_wp2_with fail; refine bodyPost_ret (v := .tuple #[.agg #[.int .i64 R, .int .i64 C, .slice A3 l.length c3], .bool true]) ?_ rfl ?_; (simp [results, Try.results62, go_sem, zr0, zr1, zr2, zrf, zrl]); exact ⟨_, rfl, by (refine Own.less (B := ?OB) ?_ ?_; (repeat' (first | with_reducible exact ho7 | with_reducible refine Own.alloc ?_ _ | with_reducible refine Own.drew ?_ | with_reducible refine Own.low ?_ ?_ _)); all_goals (first | omega | (simp; done) | (simp; omega) | (simp [*]; done) | (simp at *; omega))), by (have bz0 := Below.size (g17); (try simp at bz0); have bz1 := Below.size (g01); (try simp at bz1); (repeat' (first | with_reducible exact Below.refl _ _ | with_reducible assumption | (with_reducible refine Below.setCell ?_ ?_ _) | (with_reducible refine Below.alloc ?_ ?_ _) | (with_reducible refine Below.drew ?_) | (with_reducible refine below_drewN ?_ _) | (with_reducible refine Below.trans ?_ (Below.mono (g17) ?_)) | (with_reducible refine Below.trans ?_ (Below.mono (g01) ?_)))); all_goals (first | omega | (simp; done) | (simp; omega) | (simp [*]; done) | (simp at *; omega)))⟩)
          · have hok' : allNum (scL k l) = false := by simpa using hok
            rw [hok'] at HRQ HMQ
            obtain rfl : RES = none := HRQ
            have CK := Lib.hid fun W h => checked_no R C A3 (scL k l) l.length c3 W hml h (by omega) HMQ
            clear HMQ hok hok'
            go_wp2_with fail
            refine (CK.out _ (by exact (Rd.grows hro (by ((repeat' (first | with_reducible exact Below.refl _ _ | with_reducible assumption | (with_reducible refine Below.setCell ?_ ?_ _) | (with_reducible refine Below.alloc ?_ ?_ _) | (with_reducible refine Below.drew ?_) | (with_reducible refine below_drewN ?_ _))); all_goals (first | omega | (simp; done) | (simp; omega) | (simp [*]; done) | (simp at *; omega))))))).mono ?_; rintro e w7 ⟨rfl, g7⟩
            have g17 : Grows w1 w7 := by (have bz0 := Below.size (g7); (try simp at bz0); have bz1 := Below.size (hg); (try simp at bz1); (repeat' (first | with_reducible exact Below.refl _ _ | with_reducible assumption | (with_reducible refine Below.setCell ?_ ?_ _) | (with_reducible refine Below.alloc ?_ ?_ _) | (with_reducible refine Below.drew ?_) | (with_reducible refine below_drewN ?_ _) | (with_reducible refine Below.trans ?_ (Below.mono (g7) ?_)) | (with_reducible refine Below.trans ?_ (Below.mono (hg) ?_)))); all_goals (first | omega | (simp; done) | (simp; omega) | (simp [*]; done) | (simp at *; omega)))
            (have zr := MBox.grows mr (w' := w7) (by (have bz0 := Below.size (g17); (try simp at bz0); (repeat' (first | with_reducible exact Below.refl _ _ | with_reducible assumption | (with_reducible refine Below.setCell ?_ ?_ _) | (with_reducible refine Below.alloc ?_ ?_ _) | (with_reducible refine Below.drew ?_) | (with_reducible refine below_drewN ?_ _) | (with_reducible refine Below.trans ?_ (Below.mono (g17) ?_)))); all_goals (first | omega | (simp; done) | (simp; omega) | (simp [*]; done) | (simp at *; omega)))); obtain ⟨zr0, zr1, zr2⟩ := zr.cells; have zrf := zr.fz; have zrl := zr.lt; go_wp2_with fail; refine bodyPost_ret (v := .tuple #[.agg #[.int .i64 0, .int .i64 0, .slice none 0 0], .bool false]) ?_ rfl ?_; (simp [results, Try.results62, go_sem, zr0, zr1, zr2, zrf, zrl]); exact ⟨_, rfl, Own.nil _ _, by (have bz0 := Below.size (g17); (try simp at bz0); have bz1 := Below.size (g01); (try simp at bz1); (repeat' (first | with_reducible exact Below.refl _ _ | with_reducible assumption | (with_reducible refine Below.setCell ?_ ?_ _) | (with_reducible refine Below.alloc ?_ ?_ _) | (with_reducible refine Below.drew ?_) | (with_reducible refine below_drewN ?_ _) | (with_reducible refine Below.trans ?_ (Below.mono (g17) ?_)) | (with_reducible refine Below.trans ?_ (Below.mono (g01) ?_)))); all_goals (first | omega | (simp; done) | (simp; omega) | (simp [*]; done) | (simp at *; omega)))⟩)
theorem sScale_c (r c k : Int) (A : Option Addr) (l : List Int) (n cap : Nat) (w : World) (hn : l.length = n) (ha : Rd w A l) (hl : n ≤ 1099511627776) :
    Calls Try.prog 59 #[.agg #[.int .i64 r, .int .i64 c, .slice A n cap], .int .i64 k] w (MatRet (scO ⟨r, c, l⟩ k) w) := by
  have HS := fun w h => sIsMatrix_c r c A l n cap w hn h hl
  obtain ⟨w1, hw1, mg, mr, hs1, g01⟩ := one_mat w r c (.slice A n cap)
  have HW1 := Lib.hid hw1
  have HS1 := Lib.hid hs1
  have ha1 : Rd w1 A l := ha.grows g01
  clear hw1 hs1
  obtain ⟨RES, hRES⟩ : ∃ x, x = scO ⟨r, c, l⟩ k := ⟨_, rfl⟩
  rw [← hRES]
  cases hq : isMat r c l
  · rw [scO_no (a := ⟨r, c, l⟩) (.inl hq)] at hRES
    rw [hq] at HS
    have HS' := Lib.hid HS
    subst hRES
    clear HS hq hn
    go_enter Try.func59, Try.ntmps59
    go_wp2_with fail
    refine (HS'.out _ (by exact (Rd.grows ha (by ((repeat' (first | with_reducible exact Below.refl _ _ | with_reducible assumption | (with_reducible refine Below.setCell ?_ ?_ _) | (with_reducible refine Below.alloc ?_ ?_ _) | (with_reducible refine Below.drew ?_) | (with_reducible refine below_drewN ?_ _))); all_goals (first | omega | (simp; done) | (simp; omega) | (simp [*]; done) | (simp at *; omega))))))).mono ?_; rintro e w2 ⟨rfl, g2⟩
    rw [← HW1.out] at g2
    (have zr := MBox.grows mr (w' := w2) (by (have bz0 := Below.size (g2); (try simp at bz0); (repeat' (first | with_reducible exact Below.refl _ _ | with_reducible assumption | (with_reducible refine Below.setCell ?_ ?_ _) | (with_reducible refine Below.alloc ?_ ?_ _) | (with_reducible refine Below.drew ?_) | (with_reducible refine below_drewN ?_ _) | (with_reducible refine Below.trans ?_ (Below.mono (g2) ?_)))); all_goals (first | omega | (simp; done) | (simp; omega) | (simp [*]; done) | (simp at *; omega)))); obtain ⟨zr0, zr1, zr2⟩ := zr.cells; have zrf := zr.fz; have zrl := zr.lt; go_wp2_with fail; refine bodyPost_ret (v := .tuple #[.agg #[.int .i64 0, .int .i64 0, .slice none 0 0], .bool false]) ?_ rfl ?_; (simp [results, Try.results59, go_sem, zr0, zr1, zr2, zrf, zrl]); exact ⟨_, rfl, Own.nil _ _, by (have bz0 := Below.size (g2); (try simp at bz0); have bz1 := Below.size (g01); (try simp at bz1); (repeat' (first | with_reducible exact Below.refl _ _ | with_reducible assumption | (with_reducible refine Below.setCell ?_ ?_ _) | (with_reducible refine Below.alloc ?_ ?_ _) | (with_reducible refine Below.drew ?_) | (with_reducible refine below_drewN ?_ _) | (with_reducible refine Below.trans ?_ (Below.mono (g2) ?_)) | (with_reducible refine Below.trans ?_ (Below.mono (g01) ?_)))); all_goals (first | omega | (simp; done) | (simp; omega) | (simp [*]; done) | (simp at *; omega)))⟩)
  · rw [hq] at HS
    have HS' := Lib.hid HS
    cases hkn : isNum k
    · rw [scO_no (a := ⟨r, c, l⟩) (.inr hkn)] at hRES
      have HK := fun W => sIsNumber_c k W
      rw [hkn] at HK
      have HK' := Lib.hid HK
      subst hRES
      clear HS hq hn hkn HK
      go_enter Try.func59, Try.ntmps59
      go_wp2_with fail
      refine (HS'.out _ (by exact (Rd.grows ha (by ((repeat' (first | with_reducible exact Below.refl _ _ | with_reducible assumption | (with_reducible refine Below.setCell ?_ ?_ _) | (with_reducible refine Below.alloc ?_ ?_ _) | (with_reducible refine Below.drew ?_) | (with_reducible refine below_drewN ?_ _))); all_goals (first | omega | (simp; done) | (simp; omega) | (simp [*]; done) | (simp at *; omega))))))).mono ?_; rintro e w2 ⟨rfl, g2⟩
      rw [← HW1.out] at g2
      go_wp2_with fail
      refine (HK'.out _).mono ?_; rintro e w' ⟨rfl, rfl⟩
      (have zr := MBox.grows mr (w' := w2) (by (have bz0 := Below.size (g2); (try simp at bz0); (repeat' (first | with_reducible exact Below.refl _ _ | with_reducible assumption | (with_reducible refine Below.setCell ?_ ?_ _) | (with_reducible refine Below.alloc ?_ ?_ _) | (with_reducible refine Below.drew ?_) | (with_reducible refine below_drewN ?_ _) | (with_reducible refine Below.trans ?_ (Below.mono (g2) ?_)))); all_goals (first | omega | (simp; done) | (simp; omega) | (simp [*]; done) | (simp at *; omega)))); obtain ⟨zr0, zr1, zr2⟩ := zr.cells; have zrf := zr.fz; have zrl := zr.lt; go_wp2_with fail; refine bodyPost_ret (v := .tuple #[.agg #[.int .i64 0, .int .i64 0, .slice none 0 0], .bool false]) ?_ rfl ?_; (simp [results, Try.results59, go_sem, zr0, zr1, zr2, zrf, zrl]); exact ⟨_, rfl, Own.nil _ _, by (have bz0 := Below.size (g2); (try simp at bz0); have bz1 := Below.size (g01); (try simp at bz1); (repeat' (first | with_reducible exact Below.refl _ _ | with_reducible assumption | (with_reducible refine Below.setCell ?_ ?_ _) | (with_reducible refine Below.alloc ?_ ?_ _) | (with_reducible refine Below.drew ?_) | (with_reducible refine below_drewN ?_ _) | (with_reducible refine Below.trans ?_ (Below.mono (g2) ?_)) | (with_reducible refine Below.trans ?_ (Below.mono (g01) ?_)))); all_goals (first | omega | (simp; done) | (simp; omega) | (simp [*]; done) | (simp at *; omega)))⟩)
    · obtain ⟨R, C, rfl, rfl, hR, hC, hlen, hnum⟩ := isMat_nat hq
      have hy := scO_yes hq hkn
      rw [hy.2] at hRES
      have HMM := Lib.hid hy.1
      have HR := Lib.hid hRES
      have hkb := (isNum_iff _).1 hkn
      have HK := fun W => sIsNumber_c k W
      rw [hkn] at HK
      have HK' := Lib.hid HK
      have hRC : R * C ≤ 576 := Nat.mul_le_mul hR hC
      have CN := Lib.hid fun W => l3New_c R C W (by omega)
      have HNB := Lib.hid fun i hi => (isNum_iff _).1 (hnum i hi)
      have HN := Lib.hid hn
      have HLN := Lib.hid hlen
      have HRB := Lib.hid (rd_bound ha1)
      clear HS hq hkn HK hy hRES hlen hnum hn
      go_enter Try.func59, Try.ntmps59
      go_wp2_with fail
      refine (HS'.out _ (by exact (Rd.grows ha (by ((repeat' (first | with_reducible exact Below.refl _ _ | with_reducible assumption | (with_reducible refine Below.setCell ?_ ?_ _) | (with_reducible refine Below.alloc ?_ ?_ _) | (with_reducible refine Below.drew ?_) | (with_reducible refine below_drewN ?_ _))); all_goals (first | omega | (simp; done) | (simp; omega) | (simp [*]; done) | (simp at *; omega))))))).mono ?_; rintro e w2 ⟨rfl, g2⟩
      rw [← HW1.out] at g2
      obtain ⟨b0, b1, b2⟩ := (mg.grows g2).cells
      go_wp2_with fail
      refine (HK'.out _).mono ?_; rintro e w' ⟨rfl, rfl⟩
      go_wp2_with fail
      refine (CN.out _).mono ?_; rintro e w3 ⟨g, rfl, ho3, g3⟩
      clear b0 b1 b2
      have hs2 := Below.size g2
      have hs3 := Below.size g3
      have g13 : Grows w1 w3 := by (have bz0 := Below.size (g3); (try simp at bz0); have bz1 := Below.size (g2); (try simp at bz1); (repeat' (first | with_reducible exact Below.refl _ _ | with_reducible assumption | (with_reducible refine Below.setCell ?_ ?_ _) | (with_reducible refine Below.alloc ?_ ?_ _) | (with_reducible refine Below.drew ?_) | (with_reducible refine below_drewN ?_ _) | (with_reducible refine Below.trans ?_ (Below.mono (g3) ?_)) | (with_reducible refine Below.trans ?_ (Below.mono (g2) ?_)))); all_goals (first | omega | (simp; done) | (simp; omega) | (simp [*]; done) | (simp at *; omega)))
      have hgl := ho3.lt
      have hmg := mg.lt
      go_wp2_with fail
      go_loopw [7] (fun i wr => ∃ (I : Nat) (m : List Int), i = .int .i64 I ∧ I ≤ R * C ∧ ScD k l I m ∧ Own wr w2.heap.size (.slice (some ⟨g, 0, none⟩) (R * C) (R * C)) m ∧ MBox wr w3.heap.size R C (.slice (some ⟨g, 0, none⟩) (R * C) (R * C)) ∧ Grows w1 wr) (fun i _ => R * C - (intOf i).toNat)
      case atStart => exact ⟨0, _, rfl, Nat.zero_le _, ⟨by rw [HLN.out]; simp, fun j hj => by omega⟩, ho3.alloc _, MBox.new_ _ _ _ _ _ rfl, by (have bz0 := Below.size (g13); (try simp at bz0); (repeat' (first | with_reducible exact Below.refl _ _ | with_reducible assumption | (with_reducible refine Below.setCell ?_ ?_ _) | (with_reducible refine Below.alloc ?_ ?_ _) | (with_reducible refine Below.drew ?_) | (with_reducible refine below_drewN ?_ _) | (with_reducible refine Below.trans ?_ (Below.mono (g13) ?_)))); all_goals (first | omega | (simp; done) | (simp; omega) | (simp [*]; done) | (simp at *; omega)))⟩
      case round =>
        clear ho3
        obtain ⟨I, m, rfl, hI, hd, ho, mm, hg⟩ := hrel
        have HD := Lib.hid hd
        clear hd
        have hci := Int.natCast_mul R C
        by_cases hlt : I < R * C
        · have HML := Lib.hid (show m.length = R * C by rw [HD.out.1, HLN.out])
          obtain ⟨y0, y1, y2⟩ := mm.cells
          obtain ⟨z0, z1, z2⟩ := mm.ext
          obtain ⟨x0, x1, x2⟩ := (mg.grows hg).ext
          have hra := ha1.grows hg
          obtain ⟨b, off, rfl, hbs, hcell⟩ := hra.at_ I (by rw [HLN.out]; exact hlt)
          have x3 := ext_is hcell
          have hlt' : (I : Int) < (R : Int) * (C : Int) := by rw [← hci]; omega
          have hnn : (I : Int) < (n : Int) := by have := HN.out; have := HLN.out; omega
          have HNX := Lib.hid (HD.out.set (i := I) (by rw [HLN.out]; exact hlt))
          have hxb := HNB.out I (by rw [HLN.out]; exact hlt)
          have hmb : -160000000000000000 ≤ nth l I * k ∧ nth l I * k ≤ 160000000000000000 := mul_bd ((isNum_iff _).2 hxb) ((isNum_iff _).2 hkb)
          generalize nth l I = x at *
          go_wp2_with fail
          ((refine wp_region_tail 11 (by kernel_rfl) (by kernel_rfl) ?_; simp only [List.take_succ_cons, List.take_zero, List.drop_succ_cons, List.drop_zero]); (repeat (go_big_quiet_step ((fail)))); refine wpQuiet_nil ?_; rintro w4 ⟨w40, hw40⟩; have g4 := grows_of_ext hw40; clear hw40 w40)
          have ho4 := ho.grows g4
          have k1 := ho4.cell I (by rw [HML.out]; exact hlt)
          have k2 := ho4.free I
          have hos : Own (w4.setCell ⟨g, I, none⟩ (.int .i64 (x * k))) w2.heap.size (.slice (some ⟨g, 0, none⟩) (R * C) (R * C)) (m.set I (x * k)) := by
            have := ho4
            rw [← HML.out] at this ⊢
            exact this.set _ _
          have hgs : w4.grownBy (w4.setCell ⟨g, I, none⟩ (.int .i64 (x * k))) (some g) := only_setCell (p := ⟨g, I, none⟩) (World.grownBy.refl w4 _) rfl _
          have g14 : Grows w1 w4 := by (have bz0 := Below.size (g4); (try simp at bz0); have bz1 := Below.size (hg); (try simp at bz1); (repeat' (first | with_reducible exact Below.refl _ _ | with_reducible assumption | (with_reducible refine Below.setCell ?_ ?_ _) | (with_reducible refine Below.alloc ?_ ?_ _) | (with_reducible refine Below.drew ?_) | (with_reducible refine below_drewN ?_ _) | (with_reducible refine Below.trans ?_ (Below.mono (g4) ?_)) | (with_reducible refine Below.trans ?_ (Below.mono (hg) ?_)))); all_goals (first | omega | (simp; done) | (simp; omega) | (simp [*]; done) | (simp at *; omega)))
          have hs4 := Below.size g14
          have mm4 := mm.grows g4
          go_wp2_with fail
          go_round
          case rel => exact ⟨I + 1, _, by go_num, by omega, HNX.out, hos, mm4.only hgs (by omega), below_only g14 hgs (by omega) (by omega)⟩
          case measure => simp [intOf]; omega
        · obtain rfl : I = R * C := by omega
          have hdd := HD.out
          rw [← HLN.out] at hdd
          have hfin : m = scL k l := hdd.all
          subst hfin
          have HRQ := HR.out
          have HMQ := HMM.out
          have hml : (scL k l).length = R * C := by rw [← HLN.out]; exact hdd.1
          have hro := ho.rd_
          obtain ⟨y0, y1, y2⟩ := mm.cells
          generalize allNum (scL k l) = ok at *
          have CK := Lib.hid fun W h => l3Done_c ok R C (some ⟨g, 0, none⟩) (scL k l) (R * C) (R * C) W hml h (by omega) HMQ
          have HML := Lib.hid hml
          clear HMQ hml hdd
          have HRQ' := Lib.hid HRQ
          clear HRQ
          go_wp2_with fail
          refine (CK.out _ (by exact (Rd.grows hro (by ((repeat' (first | with_reducible exact Below.refl _ _ | with_reducible assumption | (with_reducible refine Below.setCell ?_ ?_ _) | (with_reducible refine Below.alloc ?_ ?_ _) | (with_reducible refine Below.drew ?_) | (with_reducible refine below_drewN ?_ _))); all_goals (first | omega | (simp; done) | (simp; omega) | (simp [*]; done) | (simp at *; omega))))))).mono ?_; rintro e w7 ⟨A7, c7, rfl, o7, g7⟩
          have ho7 := o7 w7 w2.heap.size (by have := ho.grows g7; rw [← HML.out] at this ⊢; exact this)
          have g17 : Grows w1 w7 := by (have bz0 := Below.size (g7); (try simp at bz0); have bz1 := Below.size (hg); (try simp at bz1); (repeat' (first | with_reducible exact Below.refl _ _ | with_reducible assumption | (with_reducible refine Below.setCell ?_ ?_ _) | (with_reducible refine Below.alloc ?_ ?_ _) | (with_reducible refine Below.drew ?_) | (with_reducible refine below_drewN ?_ _) | (with_reducible refine Below.trans ?_ (Below.mono (g7) ?_)) | (with_reducible refine Below.trans ?_ (Below.mono (hg) ?_)))); all_goals (first | omega | (simp; done) | (simp; omega) | (simp [*]; done) | (simp at *; omega)))
          have hs7 := Below.size g17
          have hs1 := HS1.out
          cases ok
          · obtain rfl : RES = none := HRQ'.out
            have ho' : Own w7 w2.heap.size (.slice A7 (ifL false (scL k l)).length c7) (oM none).l := ho7
            (have zr := MBox.grows mr (w' := w7) (by (have bz0 := Below.size (g17); (try simp at bz0); (repeat' (first | with_reducible exact Below.refl _ _ | with_reducible assumption | (with_reducible refine Below.setCell ?_ ?_ _) | (with_reducible refine Below.alloc ?_ ?_ _) | (with_reducible refine Below.drew ?_) | (with_reducible refine below_drewN ?_ _) | (with_reducible refine Below.trans ?_ (Below.mono (g17) ?_)))); all_goals (first | omega | (simp; done) | (simp; omega) | (simp [*]; done) | (simp at *; omega)))); obtain ⟨zr0, zr1, zr2⟩ := zr.cells; have zrf := zr.fz; have zrl := zr.lt; go_wp2_with fail; refine bodyPost_ret (v := .tuple #[.agg #[.int .i64 (ifI false R), .int .i64 (ifI false C), .slice A7 (ifL false (scL k l)).length c7], .bool false]) ?_ rfl ?_; (simp [results, Try.results59, go_sem, zr0, zr1, zr2, zrf, zrl]); exact ⟨_, rfl, by (refine Own.less (B := ?OB) ?_ ?_; (repeat' (first | with_reducible exact ho' | with_reducible refine Own.alloc ?_ _ | with_reducible refine Own.drew ?_ | with_reducible refine Own.low ?_ ?_ _)); all_goals (first | omega | (simp; done) | (simp; omega) | (simp [*]; done) | (simp at *; omega))), by (have bz0 := Below.size (g17); (try simp at bz0); have bz1 := Below.size (g01); (try simp at bz1); (repeat' (first | with_reducible exact Below.refl _ _ | with_reducible assumption | (with_reducible refine Below.setCell ?_ ?_ _) | (with_reducible refine Below.alloc ?_ ?_ _) | (with_reducible refine Below.drew ?_) | (with_reducible refine below_drewN ?_ _) | (with_reducible refine Below.trans ?_ (Below.mono (g17) ?_)) | (with_reducible refine Below.trans ?_ (Below.mono (g01) ?_)))); all_goals (first | omega | (simp; done) | (simp; omega) | (simp [*]; done) | (simp at *; omega)))⟩)
          · obtain rfl : RES = some ⟨R, C, scL k l⟩ := HRQ'.out
            have ho' : Own w7 w2.heap.size (.slice A7 (ifL true (scL k l)).length c7) (oM (some ⟨(R : Int), (C : Int), scL k l⟩)).l := ho7
            (have zr := MBox.grows mr (w' := w7) (by (have bz0 := Below.size (g17); (try simp at bz0); (repeat' (first | with_reducible exact Below.refl _ _ | with_reducible assumption | (with_reducible refine Below.setCell ?_ ?_ _) | (with_reducible refine Below.alloc ?_ ?_ _) | (with_reducible refine Below.drew ?_) | (with_reducible refine below_drewN ?_ _) | (with_reducible refine Below.trans ?_ (Below.mono (g17) ?_)))); all_goals (first | omega | (simp; done) | (simp; omega) | (simp [*]; done) | (simp at *; omega)))); obtain ⟨zr0, zr1, zr2⟩ := zr.cells; have zrf := zr.fz; have zrl := zr.lt; go_wp2_with fail; refine bodyPost_ret (v := .tuple #[.agg #[.int .i64 (ifI true R), .int .i64 (ifI true C), .slice A7 (ifL true (scL k l)).length c7], .bool true]) ?_ rfl ?_; (simp [results, Try.results59, go_sem, zr0, zr1, zr2, zrf, zrl]); exact ⟨_, rfl, by (refine Own.less (B := ?OB) ?_ ?_; (repeat' (first | with_reducible exact ho' | with_reducible refine Own.alloc ?_ _ | with_reducible refine Own.drew ?_ | with_reducible refine Own.low ?_ ?_ _)); all_goals (first | omega | (simp; done) | (simp; omega) | (simp [*]; done) | (simp at *; omega))), by (have bz0 := Below.size (g17); (try simp at bz0); have bz1 := Below.size (g01); (try simp at bz1); (repeat' (first | with_reducible exact Below.refl _ _ | with_reducible assumption | (with_reducible refine Below.setCell ?_ ?_ _) | (with_reducible refine Below.alloc ?_ ?_ _) | (with_reducible refine Below.drew ?_) | (with_reducible refine below_drewN ?_ _) | (with_reducible refine Below.trans ?_ (Below.mono (g17) ?_)) | (with_reducible refine Below.trans ?_ (Below.mono (g01) ?_)))); all_goals (first | omega | (simp; done) | (simp; omega) | (simp [*]; done) | (simp at *; omega)))⟩)
/-- a lattice times n -/
def slO (a : MX) (k : Int) : Option MX := if latB a.r a.c a.l && decide (1 ≤ k) then scO a k else none
theorem slO_ok {a m : MX} {k : Int} (h : slO a k = some m) : m.ok = true := by
  unfold slO at h
  split at h
  · exact scO_ok h
  · cases h
theorem iSL_c (r c k : Int) (A : Option Addr) (l : List Int) (n cap : Nat) (w : World) (hn : l.length = n) (hcap : n ≤ cap) (hcap2 : cap ≤ 9223372036854775807) (ha : Rd w A l) (hl : n ≤ 1099511627776) :
    Calls Try.prog 23 #[.agg #[.int .i64 r, .int .i64 c, .slice A n cap], .int .i64 k] w (MatRet (slO ⟨r, c, l⟩ k) w) := by
  have HS := fun w h => iIsLat_c r c A l n cap w hn hcap hcap2 h hl
  obtain ⟨w1, hw1, mg, mr, hs1, g01⟩ := one_mat w r c (.slice A n cap)
  have HW1 := Lib.hid hw1
  have HS1 := Lib.hid hs1
  have ha1 : Rd w1 A l := ha.grows g01
  clear hw1 hs1
  obtain ⟨RES, hRES⟩ : ∃ x, x = slO ⟨r, c, l⟩ k := ⟨_, rfl⟩
  rw [← hRES]
  cases hq : latB r c l
  · rw [show slO ⟨r, c, l⟩ k = none by unfold slO; rw [hq]; rfl] at hRES
    rw [hq] at HS
    have HS' := Lib.hid HS
    subst hRES
    clear HS hq hn
    go_enter Try.func23, Try.ntmps23
    go_wp2_with fail
    refine (HS'.out _ (by exact (Rd.grows ha (by ((repeat' (first | with_reducible exact Below.refl _ _ | with_reducible assumption | (with_reducible refine Below.setCell ?_ ?_ _) | (with_reducible refine Below.alloc ?_ ?_ _) | (with_reducible refine Below.drew ?_) | (with_reducible refine below_drewN ?_ _))); all_goals (first | omega | (simp; done) | (simp; omega) | (simp [*]; done) | (simp at *; omega))))))).mono ?_; rintro e w2 ⟨rfl, g2⟩
    rw [← HW1.out] at g2
    (have zr := MBox.grows mr (w' := w2) (by (have bz0 := Below.size (g2); (try simp at bz0); (repeat' (first | with_reducible exact Below.refl _ _ | with_reducible assumption | (with_reducible refine Below.setCell ?_ ?_ _) | (with_reducible refine Below.alloc ?_ ?_ _) | (with_reducible refine Below.drew ?_) | (with_reducible refine below_drewN ?_ _) | (with_reducible refine Below.trans ?_ (Below.mono (g2) ?_)))); all_goals (first | omega | (simp; done) | (simp; omega) | (simp [*]; done) | (simp at *; omega)))); obtain ⟨zr0, zr1, zr2⟩ := zr.cells; have zrf := zr.fz; have zrl := zr.lt; go_wp2_with fail; refine bodyPost_ret (v := .tuple #[.agg #[.int .i64 0, .int .i64 0, .slice none 0 0], .bool false]) ?_ rfl ?_; (simp [results, Try.results23, go_sem, zr0, zr1, zr2, zrf, zrl]); exact ⟨_, rfl, Own.nil _ _, by (have bz0 := Below.size (g2); (try simp at bz0); have bz1 := Below.size (g01); (try simp at bz1); (repeat' (first | with_reducible exact Below.refl _ _ | with_reducible assumption | (with_reducible refine Below.setCell ?_ ?_ _) | (with_reducible refine Below.alloc ?_ ?_ _) | (with_reducible refine Below.drew ?_) | (with_reducible refine below_drewN ?_ _) | (with_reducible refine Below.trans ?_ (Below.mono (g2) ?_)) | (with_reducible refine Below.trans ?_ (Below.mono (g01) ?_)))); all_goals (first | omega | (simp; done) | (simp; omega) | (simp [*]; done) | (simp at *; omega)))⟩)
  · rw [hq] at HS
    have HS' := Lib.hid HS
    by_cases hk : 1 ≤ k
    · rw [show slO ⟨r, c, l⟩ k = scO ⟨r, c, l⟩ k by unfold slO; rw [hq, decide_eq_true hk]; rfl] at hRES
      have CS := Lib.hid fun W h => iScale_c r c k A l n cap W hn h hl
      rw [← hRES] at CS
      have hk1 : ¬ k < 1 := by omega
      clear HS hq hn hRES hk
      go_enter Try.func23, Try.ntmps23
      go_wp2_with fail
      refine (HS'.out _ (by exact (Rd.grows ha (by ((repeat' (first | with_reducible exact Below.refl _ _ | with_reducible assumption | (with_reducible refine Below.setCell ?_ ?_ _) | (with_reducible refine Below.alloc ?_ ?_ _) | (with_reducible refine Below.drew ?_) | (with_reducible refine below_drewN ?_ _))); all_goals (first | omega | (simp; done) | (simp; omega) | (simp [*]; done) | (simp at *; omega))))))).mono ?_; rintro e w2 ⟨rfl, g2⟩
      rw [← HW1.out] at g2
      obtain ⟨b0, b1, b2⟩ := (mg.grows g2).cells
      go_wp2_with fail
      refine (CS.out _ (by exact (Rd.grows ha1 (by (have bz0 := Below.size (g2); (try simp at bz0); (repeat' (first | with_reducible exact Below.refl _ _ | with_reducible assumption | (with_reducible refine Below.setCell ?_ ?_ _) | (with_reducible refine Below.alloc ?_ ?_ _) | (with_reducible refine Below.drew ?_) | (with_reducible refine below_drewN ?_ _) | (with_reducible refine Below.trans ?_ (Below.mono (g2) ?_)))); all_goals (first | omega | (simp; done) | (simp; omega) | (simp [*]; done) | (simp at *; omega))))))).mono ?_; intro e w3 h3
      obtain ⟨v3, rfl, ho3, g3⟩ := matRet_out h3
      obtain ⟨A3, c3, rfl, _, _⟩ := ho3.val
      have g13 : Grows w1 w3 := by (have bz0 := Below.size (g3); (try simp at bz0); have bz1 := Below.size (g2); (try simp at bz1); (repeat' (first | with_reducible exact Below.refl _ _ | with_reducible assumption | (with_reducible refine Below.setCell ?_ ?_ _) | (with_reducible refine Below.alloc ?_ ?_ _) | (with_reducible refine Below.drew ?_) | (with_reducible refine below_drewN ?_ _) | (with_reducible refine Below.trans ?_ (Below.mono (g3) ?_)) | (with_reducible refine Below.trans ?_ (Below.mono (g2) ?_)))); all_goals (first | omega | (simp; done) | (simp; omega) | (simp [*]; done) | (simp at *; omega)))
      have hs2 := Below.size g2
      have hs1 := HS1.out
      clear b0 b1 b2
      (have zr := MBox.grows mr (w' := w3) (by (have bz0 := Below.size (g13); (try simp at bz0); (repeat' (first | with_reducible exact Below.refl _ _ | with_reducible assumption | (with_reducible refine Below.setCell ?_ ?_ _) | (with_reducible refine Below.alloc ?_ ?_ _) | (with_reducible refine Below.drew ?_) | (with_reducible refine below_drewN ?_ _) | (with_reducible refine Below.trans ?_ (Below.mono (g13) ?_)))); all_goals (first | omega | (simp; done) | (simp; omega) | (simp [*]; done) | (simp at *; omega)))); obtain ⟨zr0, zr1, zr2⟩ := zr.cells; have zrf := zr.fz; have zrl := zr.lt; go_wp2_with fail; refine bodyPost_ret (v := .tuple #[.agg #[.int .i64 (oM RES).r, .int .i64 (oM RES).c, .slice A3 (oM RES).l.length c3], .bool RES.isSome]) ?_ rfl ?_; (simp [results, Try.results23, go_sem, zr0, zr1, zr2, zrf, zrl]); exact ⟨_, rfl, by (refine Own.less (B := ?OB) ?_ ?_; (repeat' (first | with_reducible exact ho3 | with_reducible refine Own.alloc ?_ _ | with_reducible refine Own.drew ?_ | with_reducible refine Own.low ?_ ?_ _)); all_goals (first | omega | (simp; done) | (simp; omega) | (simp [*]; done) | (simp at *; omega))), by (have bz0 := Below.size (g13); (try simp at bz0); have bz1 := Below.size (g01); (try simp at bz1); (repeat' (first | with_reducible exact Below.refl _ _ | with_reducible assumption | (with_reducible refine Below.setCell ?_ ?_ _) | (with_reducible refine Below.alloc ?_ ?_ _) | (with_reducible refine Below.drew ?_) | (with_reducible refine below_drewN ?_ _) | (with_reducible refine Below.trans ?_ (Below.mono (g13) ?_)) | (with_reducible refine Below.trans ?_ (Below.mono (g01) ?_)))); all_goals (first | omega | (simp; done) | (simp; omega) | (simp [*]; done) | (simp at *; omega)))⟩)
    · rw [show slO ⟨r, c, l⟩ k = none by unfold slO; rw [decide_eq_false hk]; simp] at hRES
      subst hRES
      have hk1 : k < 1 := by omega
      clear HS hq hn
      go_enter Try.func23, Try.ntmps23
      go_wp2_with fail
      refine (HS'.out _ (by exact (Rd.grows ha (by ((repeat' (first | with_reducible exact Below.refl _ _ | with_reducible assumption | (with_reducible refine Below.setCell ?_ ?_ _) | (with_reducible refine Below.alloc ?_ ?_ _) | (with_reducible refine Below.drew ?_) | (with_reducible refine below_drewN ?_ _))); all_goals (first | omega | (simp; done) | (simp; omega) | (simp [*]; done) | (simp at *; omega))))))).mono ?_; rintro e w2 ⟨rfl, g2⟩
      rw [← HW1.out] at g2
      (have zr := MBox.grows mr (w' := w2) (by (have bz0 := Below.size (g2); (try simp at bz0); (repeat' (first | with_reducible exact Below.refl _ _ | with_reducible assumption | (with_reducible refine Below.setCell ?_ ?_ _) | (with_reducible refine Below.alloc ?_ ?_ _) | (with_reducible refine Below.drew ?_) | (with_reducible refine below_drewN ?_ _) | (with_reducible refine Below.trans ?_ (Below.mono (g2) ?_)))); all_goals (first | omega | (simp; done) | (simp; omega) | (simp [*]; done) | (simp at *; omega)))); obtain ⟨zr0, zr1, zr2⟩ := zr.cells; have zrf := zr.fz; have zrl := zr.lt; go_wp2_with fail; refine bodyPost_ret (v := .tuple #[.agg #[.int .i64 0, .int .i64 0, .slice none 0 0], .bool false]) ?_ rfl ?_; (simp [results, Try.results23, go_sem, zr0, zr1, zr2, zrf, zrl]); exact ⟨_, rfl, Own.nil _ _, by (have bz0 := Below.size (g2); (try simp at bz0); have bz1 := Below.size (g01); (try simp at bz1); (repeat' (first | with_reducible exact Below.refl _ _ | with_reducible assumption | (with_reducible refine Below.setCell ?_ ?_ _) | (with_reducible refine Below.alloc ?_ ?_ _) | (with_reducible refine Below.drew ?_) | (with_reducible refine below_drewN ?_ _) | (with_reducible refine Below.trans ?_ (Below.mono (g2) ?_)) | (with_reducible refine Below.trans ?_ (Below.mono (g01) ?_)))); all_goals (first | omega | (simp; done) | (simp; omega) | (simp [*]; done) | (simp at *; omega)))⟩)
theorem sSL_c (r c k : Int) (A : Option Addr) (l : List Int) (n cap : Nat) (w : World) (hn : l.length = n) (ha : Rd w A l) (hl : n ≤ 1099511627776) :
    Calls Try.prog 22 #[.agg #[.int .i64 r, .int .i64 c, .slice A n cap], .int .i64 k] w (MatRet (slO ⟨r, c, l⟩ k) w) := by
  have HS := fun w h => sIsLat_c r c A l n cap w hn h hl
  obtain ⟨w1, hw1, mg, mr, hs1, g01⟩ := one_mat w r c (.slice A n cap)
  have HW1 := Lib.hid hw1
  have HS1 := Lib.hid hs1
  have ha1 : Rd w1 A l := ha.grows g01
  clear hw1 hs1
  have CS := fun W h => sScale_c r c k A l n cap W hn h hl
  obtain ⟨RES, hRES⟩ : ∃ x, x = slO ⟨r, c, l⟩ k := ⟨_, rfl⟩
  rw [← hRES]
  obtain ⟨SC, hSC⟩ : ∃ x, x = scO ⟨r, c, l⟩ k := ⟨_, rfl⟩
  rw [← hSC] at CS
  have CS' := Lib.hid CS
  unfold slO at hRES
  rw [← hSC] at hRES
  simp only at hRES
  clear CS hSC hn
  cases SC with
  | none =>
    rw [show (if (latB r c l && decide (1 ≤ k)) = true then (none : Option MX) else none) = none by split <;> rfl] at hRES
    subst hRES
    clear HS
    go_enter Try.func22, Try.ntmps22
    go_wp2_with fail
    refine (CS'.out _ (by exact (Rd.grows ha (by ((repeat' (first | with_reducible exact Below.refl _ _ | with_reducible assumption | (with_reducible refine Below.setCell ?_ ?_ _) | (with_reducible refine Below.alloc ?_ ?_ _) | (with_reducible refine Below.drew ?_) | (with_reducible refine below_drewN ?_ _))); all_goals (first | omega | (simp; done) | (simp; omega) | (simp [*]; done) | (simp at *; omega))))))).mono ?_; intro e w2 h2
    obtain ⟨v2, rfl, ho2, g2⟩ := matRet_out h2
    obtain ⟨A2, c2, rfl, _, _⟩ := ho2.val
    rw [← HW1.out] at g2
    clear h2
    (have zr := MBox.grows mr (w' := w2) (by (have bz0 := Below.size (g2); (try simp at bz0); (repeat' (first | with_reducible exact Below.refl _ _ | with_reducible assumption | (with_reducible refine Below.setCell ?_ ?_ _) | (with_reducible refine Below.alloc ?_ ?_ _) | (with_reducible refine Below.drew ?_) | (with_reducible refine below_drewN ?_ _) | (with_reducible refine Below.trans ?_ (Below.mono (g2) ?_)))); all_goals (first | omega | (simp; done) | (simp; omega) | (simp [*]; done) | (simp at *; omega)))); obtain ⟨zr0, zr1, zr2⟩ := zr.cells; have zrf := zr.fz; have zrl := zr.lt; go_wp2_with fail; refine bodyPost_ret (v := .tuple #[.agg #[.int .i64 0, .int .i64 0, .slice none 0 0], .bool false]) ?_ rfl ?_; (simp [results, Try.results22, go_sem, zr0, zr1, zr2, zrf, zrl]); exact ⟨_, rfl, Own.nil _ _, by (have bz0 := Below.size (g2); (try simp at bz0); have bz1 := Below.size (g01); (try simp at bz1); (repeat' (first | with_reducible exact Below.refl _ _ | with_reducible assumption | (with_reducible refine Below.setCell ?_ ?_ _) | (with_reducible refine Below.alloc ?_ ?_ _) | (with_reducible refine Below.drew ?_) | (with_reducible refine below_drewN ?_ _) | (with_reducible refine Below.trans ?_ (Below.mono (g2) ?_)) | (with_reducible refine Below.trans ?_ (Below.mono (g01) ?_)))); all_goals (first | omega | (simp; done) | (simp; omega) | (simp [*]; done) | (simp at *; omega)))⟩)
  | some m =>
    generalize latB r c l = q at *
    have HS' := Lib.hid HS
    clear HS
    cases q
    · obtain rfl : RES = none := hRES
      go_enter Try.func22, Try.ntmps22
      go_wp2_with fail
      refine (CS'.out _ (by exact (Rd.grows ha (by ((repeat' (first | with_reducible exact Below.refl _ _ | with_reducible assumption | (with_reducible refine Below.setCell ?_ ?_ _) | (with_reducible refine Below.alloc ?_ ?_ _) | (with_reducible refine Below.drew ?_) | (with_reducible refine below_drewN ?_ _))); all_goals (first | omega | (simp; done) | (simp; omega) | (simp [*]; done) | (simp at *; omega))))))).mono ?_; intro e w2 h2
      obtain ⟨v2, rfl, ho2, g2⟩ := matRet_out h2
      obtain ⟨A2, c2, rfl, _, _⟩ := ho2.val
      rw [← HW1.out] at g2
      clear h2
      obtain ⟨b0, b1, b2⟩ := (mg.grows g2).cells
      have hs2 := Below.size g2
      have hs1 := HS1.out
      have mgl := (mg.grows g2).lt
      go_wp2_with fail
      refine (HS'.out _ (by exact (Rd.grows ha1 (by (have bz0 := Below.size (g2); (try simp at bz0); (repeat' (first | with_reducible exact Below.refl _ _ | with_reducible assumption | (with_reducible refine Below.setCell ?_ ?_ _) | (with_reducible refine Below.alloc ?_ ?_ _) | (with_reducible refine Below.drew ?_) | (with_reducible refine below_drewN ?_ _) | (with_reducible refine Below.trans ?_ (Below.mono (g2) ?_)))); all_goals (first | omega | (simp; done) | (simp; omega) | (simp [*]; done) | (simp at *; omega))))))).mono ?_; rintro e w3 ⟨rfl, g3⟩
      have g13 : Grows w1 w3 := by (have bz0 := Below.size (g3); (try simp at bz0); have bz1 := Below.size (g2); (try simp at bz1); (repeat' (first | with_reducible exact Below.refl _ _ | with_reducible assumption | (with_reducible refine Below.setCell ?_ ?_ _) | (with_reducible refine Below.alloc ?_ ?_ _) | (with_reducible refine Below.drew ?_) | (with_reducible refine below_drewN ?_ _) | (with_reducible refine Below.trans ?_ (Below.mono (g3) ?_)) | (with_reducible refine Below.trans ?_ (Below.mono (g2) ?_)))); all_goals (first | omega | (simp; done) | (simp; omega) | (simp [*]; done) | (simp at *; omega)))
      clear b0 b1 b2
      (have zr := MBox.grows mr (w' := w3) (by (have bz0 := Below.size (g13); (try simp at bz0); (repeat' (first | with_reducible exact Below.refl _ _ | with_reducible assumption | (with_reducible refine Below.setCell ?_ ?_ _) | (with_reducible refine Below.alloc ?_ ?_ _) | (with_reducible refine Below.drew ?_) | (with_reducible refine below_drewN ?_ _) | (with_reducible refine Below.trans ?_ (Below.mono (g13) ?_)))); all_goals (first | omega | (simp; done) | (simp; omega) | (simp [*]; done) | (simp at *; omega)))); obtain ⟨zr0, zr1, zr2⟩ := zr.cells; have zrf := zr.fz; have zrl := zr.lt; go_wp2_with fail; refine bodyPost_ret (v := .tuple #[.agg #[.int .i64 0, .int .i64 0, .slice none 0 0], .bool false]) ?_ rfl ?_; (simp [results, Try.results22, go_sem, zr0, zr1, zr2, zrf, zrl]); exact ⟨_, rfl, Own.nil _ _, by (have bz0 := Below.size (g13); (try simp at bz0); have bz1 := Below.size (g01); (try simp at bz1); (repeat' (first | with_reducible exact Below.refl _ _ | with_reducible assumption | (with_reducible refine Below.setCell ?_ ?_ _) | (with_reducible refine Below.alloc ?_ ?_ _) | (with_reducible refine Below.drew ?_) | (with_reducible refine below_drewN ?_ _) | (with_reducible refine Below.trans ?_ (Below.mono (g13) ?_)) | (with_reducible refine Below.trans ?_ (Below.mono (g01) ?_)))); all_goals (first | omega | (simp; done) | (simp; omega) | (simp [*]; done) | (simp at *; omega)))⟩)
    · by_cases hk : 1 ≤ k
      · rw [decide_eq_true hk] at hRES
        obtain rfl : RES = some m := hRES
        have hk1 : ¬ k < 1 := by omega
        go_enter Try.func22, Try.ntmps22
        go_wp2_with fail
        refine (CS'.out _ (by exact (Rd.grows ha (by ((repeat' (first | with_reducible exact Below.refl _ _ | with_reducible assumption | (with_reducible refine Below.setCell ?_ ?_ _) | (with_reducible refine Below.alloc ?_ ?_ _) | (with_reducible refine Below.drew ?_) | (with_reducible refine below_drewN ?_ _))); all_goals (first | omega | (simp; done) | (simp; omega) | (simp [*]; done) | (simp at *; omega))))))).mono ?_; intro e w2 h2
        obtain ⟨v2, rfl, ho2, g2⟩ := matRet_out h2
        obtain ⟨A2, c2, rfl, _, _⟩ := ho2.val
        rw [← HW1.out] at g2
        clear h2
        obtain ⟨b0, b1, b2⟩ := (mg.grows g2).cells
        have hs2 := Below.size g2
        have hs1 := HS1.out
        have mgl := (mg.grows g2).lt
        go_wp2_with fail
        refine (HS'.out _ (by exact (Rd.grows ha1 (by (have bz0 := Below.size (g2); (try simp at bz0); (repeat' (first | with_reducible exact Below.refl _ _ | with_reducible assumption | (with_reducible refine Below.setCell ?_ ?_ _) | (with_reducible refine Below.alloc ?_ ?_ _) | (with_reducible refine Below.drew ?_) | (with_reducible refine below_drewN ?_ _) | (with_reducible refine Below.trans ?_ (Below.mono (g2) ?_)))); all_goals (first | omega | (simp; done) | (simp; omega) | (simp [*]; done) | (simp at *; omega))))))).mono ?_; rintro e w3 ⟨rfl, g3⟩
        have g13 : Grows w1 w3 := by (have bz0 := Below.size (g3); (try simp at bz0); have bz1 := Below.size (g2); (try simp at bz1); (repeat' (first | with_reducible exact Below.refl _ _ | with_reducible assumption | (with_reducible refine Below.setCell ?_ ?_ _) | (with_reducible refine Below.alloc ?_ ?_ _) | (with_reducible refine Below.drew ?_) | (with_reducible refine below_drewN ?_ _) | (with_reducible refine Below.trans ?_ (Below.mono (g3) ?_)) | (with_reducible refine Below.trans ?_ (Below.mono (g2) ?_)))); all_goals (first | omega | (simp; done) | (simp; omega) | (simp [*]; done) | (simp at *; omega)))
        have mo3 := (MBox.mk_ w2 (oM (some m)).r (oM (some m)).c (.slice A2 (oM (some m)).l.length c2) 26).grows (w' := w3) (by (have bz0 := Below.size (g3); (try simp at bz0); (repeat' (first | with_reducible exact Below.refl _ _ | with_reducible assumption | (with_reducible refine Below.setCell ?_ ?_ _) | (with_reducible refine Below.alloc ?_ ?_ _) | (with_reducible refine Below.drew ?_) | (with_reducible refine below_drewN ?_ _) | (with_reducible refine Below.trans ?_ (Below.mono (g3) ?_)))); all_goals (first | omega | (simp; done) | (simp; omega) | (simp [*]; done) | (simp at *; omega))))
        obtain ⟨y0, y1, y2⟩ := mo3.cells
        have yl := mo3.lt
        have ho3 := (ho2.alloc (.cells #[.int .i64 (oM (some m)).r, .int .i64 (oM (some m)).c, .slice A2 (oM (some m)).l.length c2] 26)).grows g3
        clear b0 b1 b2
        (have zr := MBox.grows mr (w' := w3) (by (have bz0 := Below.size (g13); (try simp at bz0); (repeat' (first | with_reducible exact Below.refl _ _ | with_reducible assumption | (with_reducible refine Below.setCell ?_ ?_ _) | (with_reducible refine Below.alloc ?_ ?_ _) | (with_reducible refine Below.drew ?_) | (with_reducible refine below_drewN ?_ _) | (with_reducible refine Below.trans ?_ (Below.mono (g13) ?_)))); all_goals (first | omega | (simp; done) | (simp; omega) | (simp [*]; done) | (simp at *; omega)))); obtain ⟨zr0, zr1, zr2⟩ := zr.cells; have zrf := zr.fz; have zrl := zr.lt; go_wp2_with fail; refine bodyPost_ret (v := .tuple #[.agg #[.int .i64 (oM (some m)).r, .int .i64 (oM (some m)).c, .slice A2 (oM (some m)).l.length c2], .bool true]) ?_ rfl ?_; (simp [results, Try.results22, go_sem, zr0, zr1, zr2, zrf, zrl]); exact ⟨_, rfl, by (refine Own.less (B := ?OB) ?_ ?_; (repeat' (first | with_reducible exact ho3 | with_reducible refine Own.alloc ?_ _ | with_reducible refine Own.drew ?_ | with_reducible refine Own.low ?_ ?_ _)); all_goals (first | omega | (simp; done) | (simp; omega) | (simp [*]; done) | (simp at *; omega))), by (have bz0 := Below.size (g13); (try simp at bz0); have bz1 := Below.size (g01); (try simp at bz1); (repeat' (first | with_reducible exact Below.refl _ _ | with_reducible assumption | (with_reducible refine Below.setCell ?_ ?_ _) | (with_reducible refine Below.alloc ?_ ?_ _) | (with_reducible refine Below.drew ?_) | (with_reducible refine below_drewN ?_ _) | (with_reducible refine Below.trans ?_ (Below.mono (g13) ?_)) | (with_reducible refine Below.trans ?_ (Below.mono (g01) ?_)))); all_goals (first | omega | (simp; done) | (simp; omega) | (simp [*]; done) | (simp at *; omega)))⟩)
      · rw [decide_eq_false hk] at hRES
        obtain rfl : RES = none := hRES
        have hk1 : k < 1 := by omega
        go_enter Try.func22, Try.ntmps22
        go_wp2_with fail
        refine (CS'.out _ (by exact (Rd.grows ha (by ((repeat' (first | with_reducible exact Below.refl _ _ | with_reducible assumption | (with_reducible refine Below.setCell ?_ ?_ _) | (with_reducible refine Below.alloc ?_ ?_ _) | (with_reducible refine Below.drew ?_) | (with_reducible refine below_drewN ?_ _))); all_goals (first | omega | (simp; done) | (simp; omega) | (simp [*]; done) | (simp at *; omega))))))).mono ?_; intro e w2 h2
        obtain ⟨v2, rfl, ho2, g2⟩ := matRet_out h2
        obtain ⟨A2, c2, rfl, _, _⟩ := ho2.val
        rw [← HW1.out] at g2
        clear h2
        obtain ⟨b0, b1, b2⟩ := (mg.grows g2).cells
        have hs2 := Below.size g2
        have hs1 := HS1.out
        have mgl := (mg.grows g2).lt
        go_wp2_with fail
        refine (HS'.out _ (by exact (Rd.grows ha1 (by (have bz0 := Below.size (g2); (try simp at bz0); (repeat' (first | with_reducible exact Below.refl _ _ | with_reducible assumption | (with_reducible refine Below.setCell ?_ ?_ _) | (with_reducible refine Below.alloc ?_ ?_ _) | (with_reducible refine Below.drew ?_) | (with_reducible refine below_drewN ?_ _) | (with_reducible refine Below.trans ?_ (Below.mono (g2) ?_)))); all_goals (first | omega | (simp; done) | (simp; omega) | (simp [*]; done) | (simp at *; omega))))))).mono ?_; rintro e w3 ⟨rfl, g3⟩
        have g13 : Grows w1 w3 := by (have bz0 := Below.size (g3); (try simp at bz0); have bz1 := Below.size (g2); (try simp at bz1); (repeat' (first | with_reducible exact Below.refl _ _ | with_reducible assumption | (with_reducible refine Below.setCell ?_ ?_ _) | (with_reducible refine Below.alloc ?_ ?_ _) | (with_reducible refine Below.drew ?_) | (with_reducible refine below_drewN ?_ _) | (with_reducible refine Below.trans ?_ (Below.mono (g3) ?_)) | (with_reducible refine Below.trans ?_ (Below.mono (g2) ?_)))); all_goals (first | omega | (simp; done) | (simp; omega) | (simp [*]; done) | (simp at *; omega)))
        clear b0 b1 b2
        (have zr := MBox.grows mr (w' := w3) (by (have bz0 := Below.size (g13); (try simp at bz0); (repeat' (first | with_reducible exact Below.refl _ _ | with_reducible assumption | (with_reducible refine Below.setCell ?_ ?_ _) | (with_reducible refine Below.alloc ?_ ?_ _) | (with_reducible refine Below.drew ?_) | (with_reducible refine below_drewN ?_ _) | (with_reducible refine Below.trans ?_ (Below.mono (g13) ?_)))); all_goals (first | omega | (simp; done) | (simp; omega) | (simp [*]; done) | (simp at *; omega)))); obtain ⟨zr0, zr1, zr2⟩ := zr.cells; have zrf := zr.fz; have zrl := zr.lt; go_wp2_with fail; refine bodyPost_ret (v := .tuple #[.agg #[.int .i64 0, .int .i64 0, .slice none 0 0], .bool false]) ?_ rfl ?_; (simp [results, Try.results22, go_sem, zr0, zr1, zr2, zrf, zrl]); exact ⟨_, rfl, Own.nil _ _, by (have bz0 := Below.size (g13); (try simp at bz0); have bz1 := Below.size (g01); (try simp at bz1); (repeat' (first | with_reducible exact Below.refl _ _ | with_reducible assumption | (with_reducible refine Below.setCell ?_ ?_ _) | (with_reducible refine Below.alloc ?_ ?_ _) | (with_reducible refine Below.drew ?_) | (with_reducible refine below_drewN ?_ _) | (with_reducible refine Below.trans ?_ (Below.mono (g13) ?_)) | (with_reducible refine Below.trans ?_ (Below.mono (g01) ?_)))); all_goals (first | omega | (simp; done) | (simp; omega) | (simp [*]; done) | (simp at *; omega)))⟩)
end
end Go.Proofs.Ytpfijhcjempfjaa
