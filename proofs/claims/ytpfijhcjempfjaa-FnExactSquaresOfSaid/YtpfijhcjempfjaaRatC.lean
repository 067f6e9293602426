/- Contracts: fractions. -/
import Derived.Test.YtpfijhcjempfjaaRatP
import Derived.Test.YtpfijhcjempfjaaReg
import Derived.IntWalk
import Derived.Deep.RegionHeld3
namespace Go.Proofs.Ytpfijhcjempfjaa
open Go.RowKit

/-- a variable that holds a fraction -/
structure QBox (w : World) (b : Nat) (q : Q2) : Prop where
  lt : b < w.heap.size
  c0 : w.cell? ⟨b, 0, none⟩ = some (.int .i64 q.1)
  c1 : w.cell? ⟨b, 1, none⟩ = some (.int .i64 q.2)
  fz : ∀ o, w.frozen? ⟨b, o, none⟩ = false
theorem QBox.grows {w w' : World} {b : Nat} {q : Q2} (h : QBox w b q) (k : Grows w w') : QBox w' b q :=
  ⟨Nat.lt_of_lt_of_le h.lt k.size, (k.cell (p := ⟨b, 0, none⟩) h.lt).trans h.c0, (k.cell (p := ⟨b, 1, none⟩) h.lt).trans h.c1, fun o => (k.frozen (p := ⟨b, o, none⟩) h.lt).trans (h.fz o)⟩
theorem QBox.new_ (w : World) (q : Q2) (t : TypeId) {b : Nat} (hb : w.heap.size = b) : QBox (w.alloc (.cells #[.int .i64 q.1, .int .i64 q.2] t)) b q := by
  subst hb
  exact ⟨by simp, by simp [go_sem], by simp [go_sem], fun o => by simp [go_sem]⟩
theorem QBox.cells {w : World} {b : Nat} {q : Q2} (h : QBox w b q) : w.cell? ⟨b, 0, none⟩ = some (.int .i64 q.1) ∧ w.cell? ⟨b, 1, none⟩ = some (.int .i64 q.2) := ⟨h.c0, h.c1⟩
/-- the answer is the fraction q -/
def QRet (q : Q2) (w : World) (e : Ending) (w' : World) : Prop := e = .returned (.agg #[.int .i64 q.1, .int .i64 q.2]) ∧ Grows w w'

section
set_option maxHeartbeats 1000000
theorem gcd_c (a b : Int) (w : World) (ha : -4611686018427387904 ≤ a) (ha2 : a ≤ 4611686018427387904) (hb : -4611686018427387904 ≤ b) (hb2 : b ≤ 4611686018427387904) :
    Calls Try.prog 142 #[.int .i64 a, .int .i64 b] w fun e w' => e = .returned (.int .i64 (gcdI a b)) ∧ Grows w w' := by
  go_enter Try.func142, Try.ntmps142
  go_wp2_with fail
  go_loopw [0, 1] (fun x y wr => ∃ (p q : Int), x = .int .i64 p ∧ y = .int .i64 q ∧ gcdI p q = gcdI a b ∧ -4611686018427387904 ≤ p ∧ p ≤ 4611686018427387904 ∧ -4611686018427387904 ≤ q ∧ q ≤ 4611686018427387904 ∧ Grows w wr) (fun _ y _ => (intOf y).natAbs)
  case atStart => exact ⟨a, b, rfl, rfl, rfl, ha, ha2, hb, hb2, by ((repeat' (first | with_reducible exact Below.refl _ _ | with_reducible assumption | (with_reducible refine Below.setCell ?_ ?_ _) | (with_reducible refine Below.alloc ?_ ?_ _) | (with_reducible refine Below.drew ?_) | (with_reducible refine below_drewN ?_ _))); all_goals (first | omega | (simp; done) | (simp; omega) | (simp [*]; done) | (simp at *; omega)))⟩
  case round =>
    obtain ⟨p, q, rfl, rfl, hg, h1, h2, h3, h4, hgr⟩ := hrel
    have HG := Lib.hid hg
    clear hg
    by_cases hq : q = 0
    · subst hq
      have HA := Lib.hid fun W => absInt_c p W (by omega)
      go_wp2_with (go_at_call 148; refine (HA.out _).mono ?_; rintro e w' ⟨rfl, rfl⟩)
      go_ret
      exact ⟨ret_int (by rw [← HG.out, gcdI_zero]), hgr⟩
    · have hq' : (q != 0) = true := by simpa using hq
      have hq2 : (q == 0) = false := by simpa using hq
      have hm := tmod_natAbs_lt p hq
      have HB := Lib.hid (show -4611686018427387904 ≤ p.tmod q ∧ p.tmod q ≤ 4611686018427387904 by omega)
      have HM := Lib.hid hm
      clear hm
      have HS := Lib.hid (gcdI_step p q)
      go_wp2_with fail
      go_quiet (fail)
      go_wp2_with fail
      go_round
      case rel => exact ⟨q, p.tmod q, rfl, rfl, by rw [HS.out, HG.out], by omega, by omega, HB.out.1, HB.out.2, by (have bz0 := Below.size (hgr); (try simp at bz0); (repeat' (first | with_reducible exact Below.refl _ _ | with_reducible assumption | (with_reducible refine Below.setCell ?_ ?_ _) | (with_reducible refine Below.alloc ?_ ?_ _) | (with_reducible refine Below.drew ?_) | (with_reducible refine below_drewN ?_ _) | (with_reducible refine Below.trans ?_ (Below.mono (hgr) ?_)))); all_goals (first | omega | (simp; done) | (simp; omega) | (simp [*]; done) | (simp at *; omega)))⟩
      case measure => have := HM.out; simpa [intOf] using this

theorem iIsRatio_c (n d : Int) (w : World) :
    Calls Try.prog 86 #[.agg #[.int .i64 n, .int .i64 d]] w fun e w' => e = .returned (.bool (isRat n d)) ∧ Grows w w' := by
  have HN := fun W => iIsNumber_c n W
  unfold isRat
  by_cases h1 : 1 ≤ d
  · by_cases h2 : d ≤ 400000000
    · have e1 : inB d 1 400000000 = true := (inB_iff _ _ _).2 ⟨h1, h2⟩
      rw [e1]
      cases hn : isNum n
      · rw [hn] at HN
        have HN' := Lib.hid HN
        clear HN hn
        go_enter Try.func86, Try.ntmps86
        go_wp2_with (go_at_call 79; refine (HN'.out _).mono ?_; rintro e w' ⟨rfl, rfl⟩)
        go_ret
        exact ⟨ret_bool (by simp), by ((repeat' (first | with_reducible exact Below.refl _ _ | with_reducible assumption | (with_reducible refine Below.setCell ?_ ?_ _) | (with_reducible refine Below.alloc ?_ ?_ _) | (with_reducible refine Below.drew ?_) | (with_reducible refine below_drewN ?_ _))); all_goals (first | omega | (simp; done) | (simp; omega) | (simp [*]; done) | (simp at *; omega)))⟩
      · rw [hn] at HN
        have HN' := Lib.hid HN
        have hb := (isNum_iff n).1 hn
        have HG := Lib.hid fun W => gcd_c n d W (by omega) (by omega) (by omega) (by omega)
        clear HN hn hb
        generalize gcdI n d = g at *
        go_enter Try.func86, Try.ntmps86
        go_wp2_with (go_at_call 79; refine (HN'.out _).mono ?_; rintro e w' ⟨rfl, rfl⟩)
        refine (HG.out _).mono ?_; rintro e w2 ⟨rfl, g2⟩
        go_wp2_with fail
        all_goals go_ret
        all_goals exact ⟨ret_bool (by simp [*]), by (have bz0 := Below.size (g2); (try simp at bz0); (repeat' (first | with_reducible exact Below.refl _ _ | with_reducible assumption | (with_reducible refine Below.setCell ?_ ?_ _) | (with_reducible refine Below.alloc ?_ ?_ _) | (with_reducible refine Below.drew ?_) | (with_reducible refine below_drewN ?_ _) | (with_reducible refine Below.trans ?_ (Below.mono (g2) ?_)))); all_goals (first | omega | (simp; done) | (simp; omega) | (simp [*]; done) | (simp at *; omega)))⟩
    · have e1 : inB d 1 400000000 = false := (inB_no _ _ _).2 (by omega)
      rw [e1]
      have h2' : 400000000 < d := by omega
      clear HN e1
      go_enter Try.func86, Try.ntmps86
      go_wp2_with fail
      go_ret
      exact ⟨ret_bool (by simp), by ((repeat' (first | with_reducible exact Below.refl _ _ | with_reducible assumption | (with_reducible refine Below.setCell ?_ ?_ _) | (with_reducible refine Below.alloc ?_ ?_ _) | (with_reducible refine Below.drew ?_) | (with_reducible refine below_drewN ?_ _))); all_goals (first | omega | (simp; done) | (simp; omega) | (simp [*]; done) | (simp at *; omega)))⟩
  · have e1 : inB d 1 400000000 = false := (inB_no _ _ _).2 (by omega)
    rw [e1]
    have h1' : d < 1 := by omega
    clear HN e1
    go_enter Try.func86, Try.ntmps86
    go_wp2_with fail
    go_ret
    exact ⟨ret_bool (by simp), by ((repeat' (first | with_reducible exact Below.refl _ _ | with_reducible assumption | (with_reducible refine Below.setCell ?_ ?_ _) | (with_reducible refine Below.alloc ?_ ?_ _) | (with_reducible refine Below.drew ?_) | (with_reducible refine below_drewN ?_ _))); all_goals (first | omega | (simp; done) | (simp; omega) | (simp [*]; done) | (simp at *; omega)))⟩
theorem lowest_c (n d : Int) (w : World) (hd : d ≠ 0) (hn1 : -1000000000000000000 ≤ n) (hn2 : n ≤ 1000000000000000000) (hd1 : -1000000000000000000 ≤ d) (hd2 : d ≤ 1000000000000000000) :
    Calls Try.prog 132 #[.int .i64 n, .int .i64 d] w (QRet (mkQ n d) w) := by
  have HG := Lib.hid fun W => gcd_c n d W (by omega) (by omega) (by omega) (by omega)
  have hg := gcdI_pos (a := n) hd
  have hgle : gcdI n d ≤ 1000000000000000000 := by
    have : (Int.gcd n d : Int) ≤ (d.natAbs : Int) := Int.ofNat_le.2 (Int.gcd_le_natAbs_right n hd)
    unfold gcdI; omega
  have mq : mkQ n d = if d < 0 then keepQ ((-n).tdiv (gcdI n d)) ((-d).tdiv (gcdI n d)) else keepQ (n.tdiv (gcdI n d)) (d.tdiv (gcdI n d)) := by unfold mkQ; rw [if_neg hd]
  generalize gcdI n d = g at *
  obtain ⟨w1, hw1⟩ : ∃ w1, w1 = w.alloc (.cells #[.int .i64 0, .int .i64 0] 47) := ⟨_, rfl⟩
  have mr : QBox w1 w.heap.size (0, 0) := by rw [hw1]; exact QBox.new_ _ (0, 0) _ rfl
  have g01 : Grows w w1 := by rw [hw1]; ((repeat' (first | with_reducible exact Below.refl _ _ | with_reducible assumption | (with_reducible refine Below.setCell ?_ ?_ _) | (with_reducible refine Below.alloc ?_ ?_ _) | (with_reducible refine Below.drew ?_) | (with_reducible refine below_drewN ?_ _))); all_goals (first | omega | (simp; done) | (simp; omega) | (simp [*]; done) | (simp at *; omega)))
  have HW1 := Lib.hid hw1
  have gz : ¬ g = 0 := by omega
  have gne : (g == 0) = false := by rw [beq_eq_false_iff_ne]; omega
  have MQ := Lib.hid mq
  clear hw1 mq
  by_cases hneg : d < 0
  · have b1 := tdiv_le n hg
    have b2 := tdiv_le d hg
    have a1 : -1000000000000000000 ≤ n.tdiv g ∧ n.tdiv g ≤ 1000000000000000000 := by omega
    have a2 : -1000000000000000000 ≤ d.tdiv g ∧ d.tdiv g ≤ 1000000000000000000 := by omega
    obtain ⟨a11, a12⟩ := a1
    obtain ⟨a21, a22⟩ := a2
    have MQ' := Lib.hid (show mkQ n d = keepQ (-n.tdiv g) (-d.tdiv g) by rw [MQ.out, if_pos hneg, Int.neg_tdiv, Int.neg_tdiv])
    have HR := fun W => iIsRatio_c (-n.tdiv g) (-d.tdiv g) W
    have gn2 : (-g == 0) = false := by rw [beq_eq_false_iff_ne]; omega
    clear b1 b2
    unfold keepQ at MQ'
    generalize isRat (-n.tdiv g) (-d.tdiv g) = ok at *
    have HR' := Lib.hid HR
    clear HR
    go_enter Try.func132, Try.ntmps132
    go_wp2_with fail
    refine (HG.out _).mono ?_; rintro e w2 ⟨rfl, g2⟩
    rw [← HW1.out] at g2
    go_wp2_with fail
    go_region_held3 (fun _ => True) (trivial) (fail)
    all_goals
      go_wp2_with fail
      refine (HR'.out _).mono ?_; rintro e w3 ⟨rfl, g3⟩
      have zr := mr.grows (w' := w3) (by (have bz0 := Below.size (g3); (try simp at bz0); have bz1 := Below.size (g2); (try simp at bz1); (repeat' (first | with_reducible exact Below.refl _ _ | with_reducible assumption | (with_reducible refine Below.setCell ?_ ?_ _) | (with_reducible refine Below.alloc ?_ ?_ _) | (with_reducible refine Below.drew ?_) | (with_reducible refine below_drewN ?_ _) | (with_reducible refine Below.trans ?_ (Below.mono (g3) ?_)) | (with_reducible refine Below.trans ?_ (Below.mono (g2) ?_)))); all_goals (first | omega | (simp; done) | (simp; omega) | (simp [*]; done) | (simp at *; omega))))
      have zrl := zr.lt
      have zrf := zr.fz
      have zn := (QBox.new_ w2 (-n.tdiv g, -d.tdiv g) 47 rfl).grows (w' := w3) (by (have bz0 := Below.size (g3); (try simp at bz0); (repeat' (first | with_reducible exact Below.refl _ _ | with_reducible assumption | (with_reducible refine Below.setCell ?_ ?_ _) | (with_reducible refine Below.alloc ?_ ?_ _) | (with_reducible refine Below.drew ?_) | (with_reducible refine below_drewN ?_ _) | (with_reducible refine Below.trans ?_ (Below.mono (g3) ?_)))); all_goals (first | omega | (simp; done) | (simp; omega) | (simp [*]; done) | (simp at *; omega))))
      obtain ⟨zn0, zn1⟩ := zn.cells
      obtain ⟨zr0, zr1⟩ := zr.cells
      cases ok
      · go_wp2_with fail
        refine bodyPost_ret (v := .agg #[.int .i64 0, .int .i64 0]) ?_ rfl ?_
        · simp [results, Try.results132, go_sem, zr0, zr1]
        · exact ⟨by rw [MQ'.out]; rfl, by (have bz0 := Below.size (g3); (try simp at bz0); have bz1 := Below.size (g2); (try simp at bz1); have bz2 := Below.size (g01); (try simp at bz2); (repeat' (first | with_reducible exact Below.refl _ _ | with_reducible assumption | (with_reducible refine Below.setCell ?_ ?_ _) | (with_reducible refine Below.alloc ?_ ?_ _) | (with_reducible refine Below.drew ?_) | (with_reducible refine below_drewN ?_ _) | (with_reducible refine Below.trans ?_ (Below.mono (g3) ?_)) | (with_reducible refine Below.trans ?_ (Below.mono (g2) ?_)) | (with_reducible refine Below.trans ?_ (Below.mono (g01) ?_)))); all_goals (first | omega | (simp; done) | (simp; omega) | (simp [*]; done) | (simp at *; omega)))⟩
      · go_wp2_with fail
        refine bodyPost_ret (v := .agg #[.int .i64 (-n.tdiv g), .int .i64 (-d.tdiv g)]) ?_ rfl ?_
        · simp [results, Try.results132, go_sem, zr0, zr1]
        · exact ⟨by rw [MQ'.out]; rfl, by (have bz0 := Below.size (g3); (try simp at bz0); have bz1 := Below.size (g2); (try simp at bz1); have bz2 := Below.size (g01); (try simp at bz2); (repeat' (first | with_reducible exact Below.refl _ _ | with_reducible assumption | (with_reducible refine Below.setCell ?_ ?_ _) | (with_reducible refine Below.alloc ?_ ?_ _) | (with_reducible refine Below.drew ?_) | (with_reducible refine below_drewN ?_ _) | (with_reducible refine Below.trans ?_ (Below.mono (g3) ?_)) | (with_reducible refine Below.trans ?_ (Below.mono (g2) ?_)) | (with_reducible refine Below.trans ?_ (Below.mono (g01) ?_)))); all_goals (first | omega | (simp; done) | (simp; omega) | (simp [*]; done) | (simp at *; omega)))⟩
  · have b1 := tdiv_le n hg
    have b2 := tdiv_le d hg
    have a1 : -1000000000000000000 ≤ n.tdiv g ∧ n.tdiv g ≤ 1000000000000000000 := by omega
    have a2 : -1000000000000000000 ≤ d.tdiv g ∧ d.tdiv g ≤ 1000000000000000000 := by omega
    obtain ⟨a11, a12⟩ := a1
    obtain ⟨a21, a22⟩ := a2
    have MQ' := Lib.hid (show mkQ n d = keepQ (n.tdiv g) (d.tdiv g) by rw [MQ.out, if_neg hneg])
    have HR := fun W => iIsRatio_c (n.tdiv g) (d.tdiv g) W
    clear b1 b2
    unfold keepQ at MQ'
    generalize isRat (n.tdiv g) (d.tdiv g) = ok at *
    have HR' := Lib.hid HR
    clear HR
    go_enter Try.func132, Try.ntmps132
    go_wp2_with fail
    refine (HG.out _).mono ?_; rintro e w2 ⟨rfl, g2⟩
    rw [← HW1.out] at g2
    go_wp2_with fail
    go_region_held3 (fun _ => True) (trivial) (fail)
    all_goals
      go_wp2_with fail
      refine (HR'.out _).mono ?_; rintro e w3 ⟨rfl, g3⟩
      have zr := mr.grows (w' := w3) (by (have bz0 := Below.size (g3); (try simp at bz0); have bz1 := Below.size (g2); (try simp at bz1); (repeat' (first | with_reducible exact Below.refl _ _ | with_reducible assumption | (with_reducible refine Below.setCell ?_ ?_ _) | (with_reducible refine Below.alloc ?_ ?_ _) | (with_reducible refine Below.drew ?_) | (with_reducible refine below_drewN ?_ _) | (with_reducible refine Below.trans ?_ (Below.mono (g3) ?_)) | (with_reducible refine Below.trans ?_ (Below.mono (g2) ?_)))); all_goals (first | omega | (simp; done) | (simp; omega) | (simp [*]; done) | (simp at *; omega))))
      have zrl := zr.lt
      have zrf := zr.fz
      have zn := (QBox.new_ w2 (n.tdiv g, d.tdiv g) 47 rfl).grows (w' := w3) (by (have bz0 := Below.size (g3); (try simp at bz0); (repeat' (first | with_reducible exact Below.refl _ _ | with_reducible assumption | (with_reducible refine Below.setCell ?_ ?_ _) | (with_reducible refine Below.alloc ?_ ?_ _) | (with_reducible refine Below.drew ?_) | (with_reducible refine below_drewN ?_ _) | (with_reducible refine Below.trans ?_ (Below.mono (g3) ?_)))); all_goals (first | omega | (simp; done) | (simp; omega) | (simp [*]; done) | (simp at *; omega))))
      obtain ⟨zn0, zn1⟩ := zn.cells
      obtain ⟨zr0, zr1⟩ := zr.cells
      cases ok
      · go_wp2_with fail
        refine bodyPost_ret (v := .agg #[.int .i64 0, .int .i64 0]) ?_ rfl ?_
        · simp [results, Try.results132, go_sem, zr0, zr1]
        · exact ⟨by rw [MQ'.out]; rfl, by (have bz0 := Below.size (g3); (try simp at bz0); have bz1 := Below.size (g2); (try simp at bz1); have bz2 := Below.size (g01); (try simp at bz2); (repeat' (first | with_reducible exact Below.refl _ _ | with_reducible assumption | (with_reducible refine Below.setCell ?_ ?_ _) | (with_reducible refine Below.alloc ?_ ?_ _) | (with_reducible refine Below.drew ?_) | (with_reducible refine below_drewN ?_ _) | (with_reducible refine Below.trans ?_ (Below.mono (g3) ?_)) | (with_reducible refine Below.trans ?_ (Below.mono (g2) ?_)) | (with_reducible refine Below.trans ?_ (Below.mono (g01) ?_)))); all_goals (first | omega | (simp; done) | (simp; omega) | (simp [*]; done) | (simp at *; omega)))⟩
      · go_wp2_with fail
        refine bodyPost_ret (v := .agg #[.int .i64 (n.tdiv g), .int .i64 (d.tdiv g)]) ?_ rfl ?_
        · simp [results, Try.results132, go_sem, zr0, zr1]
        · exact ⟨by rw [MQ'.out]; rfl, by (have bz0 := Below.size (g3); (try simp at bz0); have bz1 := Below.size (g2); (try simp at bz1); have bz2 := Below.size (g01); (try simp at bz2); (repeat' (first | with_reducible exact Below.refl _ _ | with_reducible assumption | (with_reducible refine Below.setCell ?_ ?_ _) | (with_reducible refine Below.alloc ?_ ?_ _) | (with_reducible refine Below.drew ?_) | (with_reducible refine below_drewN ?_ _) | (with_reducible refine Below.trans ?_ (Below.mono (g3) ?_)) | (with_reducible refine Below.trans ?_ (Below.mono (g2) ?_)) | (with_reducible refine Below.trans ?_ (Below.mono (g01) ?_)))); all_goals (first | omega | (simp; done) | (simp; omega) | (simp [*]; done) | (simp at *; omega)))⟩

def gcdN (a b : Int) : Int := if isNum a && isNum b then gcdI a b else 0
theorem sGcdOf_c (a b : Int) (w : World) (ha : isNum a = true) (hb : isNum b = true) :
    Calls Try.prog 137 #[.int .i64 a, .int .i64 b] w fun e w' => e = .returned (.int .i64 (gcdI a b)) ∧ Grows w w' := by
  have HA := fun W => sIsNumber_c a W
  have HB := fun W => sIsNumber_c b W
  rw [ha] at HA
  rw [hb] at HB
  have HA' := Lib.hid HA
  have HB' := Lib.hid HB
  have ba := (isNum_iff a).1 ha
  have bb := (isNum_iff b).1 hb
  clear HA HB ha hb
  go_enter Try.func137, Try.ntmps137
  go_wp2_with fail
  refine (HA'.out _).mono ?_; rintro e w' ⟨rfl, rfl⟩
  go_wp2_with fail
  refine (HB'.out _).mono ?_; rintro e w' ⟨rfl, rfl⟩
  go_wp2_with fail
  go_loopw [0, 1] (fun x y wr => ∃ (p q : Int), x = .int .i64 p ∧ y = .int .i64 q ∧ gcdI p q = gcdI a b ∧ -4611686018427387904 ≤ p ∧ p ≤ 4611686018427387904 ∧ -4611686018427387904 ≤ q ∧ q ≤ 4611686018427387904 ∧ Grows w wr) (fun _ y _ => (intOf y).natAbs)
  case atStart => exact ⟨a, b, rfl, rfl, rfl, by omega, by omega, by omega, by omega, by ((repeat' (first | with_reducible exact Below.refl _ _ | with_reducible assumption | (with_reducible refine Below.setCell ?_ ?_ _) | (with_reducible refine Below.alloc ?_ ?_ _) | (with_reducible refine Below.drew ?_) | (with_reducible refine below_drewN ?_ _))); all_goals (first | omega | (simp; done) | (simp; omega) | (simp [*]; done) | (simp at *; omega)))⟩
  case round =>
    obtain ⟨p, q, rfl, rfl, hg, h1, h2, h3, h4, hgr⟩ := hrel
    have HG := Lib.hid hg
    clear hg
    by_cases hq : q = 0
    · subst hq
      have HL := Lib.hid fun W => l1Abs_c p W (by omega) (by omega)
      go_wp2_with (go_at_call 96; refine (HL.out _).mono ?_; rintro e w' ⟨rfl, rfl⟩)
      go_ret
      exact ⟨ret_int (by rw [← HG.out, gcdI_zero]), hgr⟩
    · have hq' : (q != 0) = true := by simpa using hq
      have hq2 : (q == 0) = false := by simpa using hq
      have hm := tmod_natAbs_lt p hq
      have HB := Lib.hid (show -4611686018427387904 ≤ p.tmod q ∧ p.tmod q ≤ 4611686018427387904 by omega)
      have HM := Lib.hid hm
      clear hm
      have HS := Lib.hid (gcdI_step p q)
      go_wp2_with fail
      go_quiet (fail)
      go_wp2_with fail
      go_round
      case rel => exact ⟨q, p.tmod q, rfl, rfl, by rw [HS.out, HG.out], by omega, by omega, HB.out.1, HB.out.2, by (have bz0 := Below.size (hgr); (try simp at bz0); (repeat' (first | with_reducible exact Below.refl _ _ | with_reducible assumption | (with_reducible refine Below.setCell ?_ ?_ _) | (with_reducible refine Below.alloc ?_ ?_ _) | (with_reducible refine Below.drew ?_) | (with_reducible refine below_drewN ?_ _) | (with_reducible refine Below.trans ?_ (Below.mono (hgr) ?_)))); all_goals (first | omega | (simp; done) | (simp; omega) | (simp [*]; done) | (simp at *; omega)))⟩
      case measure => have := HM.out; simpa [intOf] using this
theorem sIsRatio_c (n d : Int) (w : World) :
    Calls Try.prog 84 #[.agg #[.int .i64 n, .int .i64 d]] w fun e w' => e = .returned (.bool (isRat n d)) ∧ Grows w w' := by
  have HI := fun W => l1In_c d 1 400000000 W
  have HN := fun W => sIsNumber_c n W
  unfold isRat
  cases h1 : inB d 1 400000000
  · rw [h1] at HI
    have HI' := Lib.hid HI
    clear HI HN h1
    go_enter Try.func84, Try.ntmps84
    go_wp2_with fail
    refine (HI'.out _).mono ?_; rintro e w' ⟨rfl, rfl⟩
    go_wp2_with fail
    go_ret
    exact ⟨ret_bool (by simp), by ((repeat' (first | with_reducible exact Below.refl _ _ | with_reducible assumption | (with_reducible refine Below.setCell ?_ ?_ _) | (with_reducible refine Below.alloc ?_ ?_ _) | (with_reducible refine Below.drew ?_) | (with_reducible refine below_drewN ?_ _))); all_goals (first | omega | (simp; done) | (simp; omega) | (simp [*]; done) | (simp at *; omega)))⟩
  · have bd := (inB_iff _ _ _).1 h1
    rw [h1] at HI
    have HI' := Lib.hid HI
    clear HI h1
    cases hn : isNum n
    · rw [hn] at HN
      have HN' := Lib.hid HN
      clear HN hn
      go_enter Try.func84, Try.ntmps84
      go_wp2_with fail
      refine (HI'.out _).mono ?_; rintro e w' ⟨rfl, rfl⟩
      go_wp2_with fail
      refine (HN'.out _).mono ?_; rintro e w' ⟨rfl, rfl⟩
      go_wp2_with fail
      go_ret
      exact ⟨ret_bool (by simp), by ((repeat' (first | with_reducible exact Below.refl _ _ | with_reducible assumption | (with_reducible refine Below.setCell ?_ ?_ _) | (with_reducible refine Below.alloc ?_ ?_ _) | (with_reducible refine Below.drew ?_) | (with_reducible refine below_drewN ?_ _))); all_goals (first | omega | (simp; done) | (simp; omega) | (simp [*]; done) | (simp at *; omega)))⟩
    · rw [hn] at HN
      have HN' := Lib.hid HN
      have HG := Lib.hid fun W => sGcdOf_c n d W hn ((isNum_iff d).2 (by omega))
      clear HN hn
      generalize gcdI n d = g at *
      go_enter Try.func84, Try.ntmps84
      go_wp2_with fail
      refine (HI'.out _).mono ?_; rintro e w' ⟨rfl, rfl⟩
      go_wp2_with fail
      refine (HN'.out _).mono ?_; rintro e w' ⟨rfl, rfl⟩
      go_wp2_with fail
      refine (HG.out _).mono ?_; rintro e w2 ⟨rfl, g2⟩
      go_wp2_with fail
      all_goals go_ret
      all_goals exact ⟨ret_bool (by simp [*]), by (have bz0 := Below.size (g2); (try simp at bz0); (repeat' (first | with_reducible exact Below.refl _ _ | with_reducible assumption | (with_reducible refine Below.setCell ?_ ?_ _) | (with_reducible refine Below.alloc ?_ ?_ _) | (with_reducible refine Below.drew ?_) | (with_reducible refine below_drewN ?_ _) | (with_reducible refine Below.trans ?_ (Below.mono (g2) ?_)))); all_goals (first | omega | (simp; done) | (simp; omega) | (simp [*]; done) | (simp at *; omega)))⟩
end
end Go.Proofs.Ytpfijhcjempfjaa
