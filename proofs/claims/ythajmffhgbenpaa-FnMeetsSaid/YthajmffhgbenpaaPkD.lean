/- Contracts and lemmas, put together. -/
import Derived.Deep.DeepCutAuto
import Derived.Deep.RegionHeld3
import Derived.IntWalk
import Derived.OwnWalk
import Derived.Test.YthajmffhgbenpaaPkA
/- Fractions in lowest terms, in plain numbers. -/
namespace Go.Proofs.Ythajmffhgbenpaa
set_option linter.unusedSimpArgs false
set_option linter.unusedVariables false

/-- the greatest common divisor -/
def gcdI (a b : Int) : Int := (Int.gcd a b : Int)
theorem gcdI_zero (a : Int) : gcdI a 0 = absI a := by
  unfold gcdI absI; rw [Int.gcd_zero_right]; split <;> omega
theorem gcdI_step (a b : Int) : gcdI b (a.tmod b) = gcdI a b := by
  unfold gcdI
  congr 1
  rw [Int.gcd_comm a b, Int.gcd_right_eq_iff]
  intro c hc
  have e := Int.mul_tdiv_add_tmod a b
  constructor
  · intro h
    rw [← e]
    exact Int.dvd_add (Int.dvd_trans hc (Int.dvd_mul_right _ _)) h
  · intro h
    rw [Int.tmod_def]
    exact Int.dvd_sub h (Int.dvd_trans hc (Int.dvd_mul_right _ _))
theorem gcdI_pos {a b : Int} (h : b ≠ 0) : 0 < gcdI a b := by
  unfold gcdI
  have := Int.gcd_pos_of_ne_zero_right a h
  omega
theorem gcdI_nonneg (a b : Int) : 0 ≤ gcdI a b := by unfold gcdI; omega
theorem gcdI_neg (a b : Int) : gcdI (-a) (-b) = gcdI a b := by unfold gcdI; simp
theorem tmod_natAbs_lt (a : Int) {b : Int} (h : b ≠ 0) : (a.tmod b).natAbs < b.natAbs := by
  rw [Int.natAbs_tmod]
  exact Nat.mod_lt _ (by omega)
theorem tdiv_le (n : Int) {g : Int} (_h : 0 < g) : (n.tdiv g).natAbs ≤ n.natAbs := by
  rw [Int.natAbs_tdiv]
  exact Nat.div_le_self _ _

/-- is it a fraction in lowest terms, with a positive denominator, within the limit? -/
def isRat (n d : Int) : Bool := inB d 1 400000000 && isNum n && (gcdI n d == 1)
theorem isRat_iff (n d : Int) : isRat n d = true ↔ 1 ≤ d ∧ d ≤ 400000000 ∧ -400000000 ≤ n ∧ n ≤ 400000000 ∧ gcdI n d = 1 := by
  unfold isRat
  simp only [Bool.and_eq_true, inB_iff, isNum_iff, beq_iff_eq]
  omega
theorem isRat_zero : isRat 0 0 = false := by decide
/-- a pair of numbers: a fraction, or (0, 0) for none -/
abbrev Q2 := Int × Int
def okQ (q : Q2) : Bool := isRat q.1 q.2
/-- the pair if it is a fraction -/
def keepQ (a b : Int) : Q2 := if isRat a b then (a, b) else (0, 0)
/-- n / d in lowest terms, (0, 0) if that is none -/
def mkQ (n d : Int) : Q2 :=
  if d = 0 then (0, 0)
  else if d < 0 then keepQ ((-n).tdiv (gcdI n d)) ((-d).tdiv (gcdI n d)) else keepQ (n.tdiv (gcdI n d)) (d.tdiv (gcdI n d))
theorem mkQ_pos {n d : Int} (h : 0 < d) : mkQ n d = keepQ (n.tdiv (gcdI n d)) (d.tdiv (gcdI n d)) := by
  unfold mkQ; rw [if_neg (by omega), if_neg (by omega)]
theorem mkQ_neg {n d : Int} (h : d < 0) : mkQ n d = keepQ ((-n).tdiv (gcdI n d)) ((-d).tdiv (gcdI n d)) := by
  unfold mkQ; rw [if_neg (by omega), if_pos h]
theorem keepQ_or (a b : Int) : keepQ a b = (0, 0) ∨ okQ (keepQ a b) = true := by
  unfold keepQ okQ
  cases h : isRat a b
  · exact .inl rfl
  · exact .inr h
theorem mkQ_or (a b : Int) : mkQ a b = (0, 0) ∨ okQ (mkQ a b) = true := by
  unfold mkQ
  split
  · exact .inl rfl
  · split
    · exact keepQ_or _ _
    · exact keepQ_or _ _
def makeQ (n d : Int) : Q2 := if isNum n && isNum d then mkQ n d else (0, 0)
def addQ (a b : Q2) : Q2 := if okQ a && okQ b then mkQ (a.1 * b.2 + b.1 * a.2) (a.2 * b.2) else (0, 0)
def negQ (a : Q2) : Q2 := if okQ a then (-a.1, a.2) else (0, 0)
def mulQ (a b : Q2) : Q2 := if okQ a && okQ b then mkQ (a.1 * b.1) (a.2 * b.2) else (0, 0)
def divQ (a b : Q2) : Q2 := if okQ a && okQ b && (b.1 != 0) then mkQ (a.1 * b.2) (a.2 * b.1) else (0, 0)
def cmpQ (a b : Q2) : Int := if okQ a && okQ b then (if a.1 * b.2 < b.1 * a.2 then -1 else if b.1 * a.2 < a.1 * b.2 then 1 else 0) else 2
def floorQ (a : Q2) : Int := if okQ a then a.1 / a.2 else 0
def roundQ (a : Q2) : Int := if okQ a then (2 * a.1 + a.2) / (2 * a.2) else 0
theorem okQ_bd {a : Q2} (h : okQ a = true) : 1 ≤ a.2 ∧ a.2 ≤ 400000000 ∧ -400000000 ≤ a.1 ∧ a.1 ≤ 400000000 := by
  have := (isRat_iff _ _).1 h
  omega
theorem subQ_def (a b : Q2) : addQ a (negQ b) = addQ a (negQ b) := rfl
end Go.Proofs.Ythajmffhgbenpaa

/- Contracts: fractions. -/
namespace Go.Proofs.Ythajmffhgbenpaa
set_option linter.unusedSimpArgs false
set_option linter.unusedVariables false
open Go.RowKit

/-- a variable that holds a fraction -/
structure QBox (w : World) (b : Nat) (q : Q2) : Prop where
  lt : b < w.heap.size
  c0 : w.cell? ⟨b, 0, none⟩ = some (.int .i64 q.1)
  c1 : w.cell? ⟨b, 1, none⟩ = some (.int .i64 q.2)
  fz : ∀ o, w.frozen? ⟨b, o, none⟩ = false
theorem QBox.grows {w w' : World} {b : Nat} {q : Q2} (h : QBox w b q) (k : Grows w w') : QBox w' b q :=
  ⟨Nat.lt_of_lt_of_le h.lt k.size, (k.cell (p := ⟨b, 0, none⟩) h.lt).trans h.c0, (k.cell (p := ⟨b, 1, none⟩) h.lt).trans h.c1, fun o => (k.frozen (p := ⟨b, o, none⟩) h.lt).trans (h.fz o)⟩
theorem QBox.new_ (w : World) (q : Q2) (t : TypeId) {b : Nat} (hb : w.heap.size = b) : QBox (w.alloc (.cells #[.int .i64 q.1, .int .i64 q.2] t)) b q := by
  subst hb
  exact ⟨by simp, by simp [go_sem], by simp [go_sem], fun o => by simp [go_sem]⟩
theorem QBox.cells {w : World} {b : Nat} {q : Q2} (h : QBox w b q) : w.cell? ⟨b, 0, none⟩ = some (.int .i64 q.1) ∧ w.cell? ⟨b, 1, none⟩ = some (.int .i64 q.2) := ⟨h.c0, h.c1⟩
/-- the answer is the fraction q -/
def QRet (q : Q2) (w : World) (e : Ending) (w' : World) : Prop := e = .returned (.agg #[.int .i64 q.1, .int .i64 q.2]) ∧ Grows w w'

section
set_option maxHeartbeats 1000000
theorem gcd_c (a b : Int) (w : World) (ha : -4611686018427387904 ≤ a) (ha2 : a ≤ 4611686018427387904) (hb : -4611686018427387904 ≤ b) (hb2 : b ≤ 4611686018427387904) :
    Calls Try.prog 131 #[.int .i64 a, .int .i64 b] w fun e w' => e = .returned (.int .i64 (gcdI a b)) ∧ Grows w w' := by
  go_enter Try.func131, Try.ntmps131
  go_wp2_with fail
  go_loopw [0, 1] (fun x y wr => ∃ (p q : Int), x = .int .i64 p ∧ y = .int .i64 q ∧ gcdI p q = gcdI a b ∧ -4611686018427387904 ≤ p ∧ p ≤ 4611686018427387904 ∧ -4611686018427387904 ≤ q ∧ q ≤ 4611686018427387904 ∧ Grows w wr) (fun _ y _ => (intOf y).natAbs)
  case atStart => exact ⟨a, b, rfl, rfl, rfl, ha, ha2, hb, hb2, by exact bel0⟩
  case round =>
    obtain ⟨p, q, rfl, rfl, hg, h1, h2, h3, h4, hgr⟩ := hrel
    have HG := Lib.hid hg
    clear hg
    by_cases hq : q = 0
    · subst hq
      have HA := Lib.hid fun W => absInt_c p W (by omega)
      go_wp2_with (go_at_call 118; refine (HA.out _).mono ?_; rintro e w' ⟨rfl, rfl⟩)
      go_ret
      exact ⟨ret_int (by rw [← HG.out, gcdI_zero]), hgr⟩
    · have hq' : (q != 0) = true := by simpa using hq
      have hq2 : (q == 0) = false := by simpa using hq
      have hm := tmod_natAbs_lt p hq
      have HB := Lib.hid (show -4611686018427387904 ≤ p.tmod q ∧ p.tmod q ≤ 4611686018427387904 by omega)
      have HM := Lib.hid hm
      clear hm
      have HS := Lib.hid (gcdI_step p q)
      go_wp2_with fail
      go_quiet (fail)
      go_wp2_with fail
      go_round
      case rel => exact ⟨q, p.tmod q, rfl, rfl, by rw [HS.out, HG.out], by omega, by omega, HB.out.1, HB.out.2, by exact bel1 hgr⟩
      case measure => have := HM.out; simpa [intOf] using this

theorem iIsRatio_c (n d : Int) (w : World) :
    Calls Try.prog 86 #[.agg #[.int .i64 n, .int .i64 d]] w fun e w' => e = .returned (.bool (isRat n d)) ∧ Grows w w' := by
  have HN := fun W => iIsNumber_c n W
  unfold isRat
  by_cases h1 : 1 ≤ d
  · by_cases h2 : d ≤ 400000000
    · have e1 : inB d 1 400000000 = true := (inB_iff _ _ _).2 ⟨h1, h2⟩
      rw [e1]
      cases hn : isNum n
      · rw [hn] at HN
        have HN' := Lib.hid HN
        clear HN hn
        go_enter Try.func86, Try.ntmps86
        go_wp2_with (go_at_call 33; refine (HN'.out _).mono ?_; rintro e w' ⟨rfl, rfl⟩)
        go_ret
        exact ⟨ret_bool (by simp), by exact bel0⟩
      · rw [hn] at HN
        have HN' := Lib.hid HN
        have hb := (isNum_iff n).1 hn
        have HG := Lib.hid fun W => gcd_c n d W (by omega) (by omega) (by omega) (by omega)
        clear HN hn hb
        generalize gcdI n d = g at *
        go_enter Try.func86, Try.ntmps86
        go_wp2_with (go_at_call 33; refine (HN'.out _).mono ?_; rintro e w' ⟨rfl, rfl⟩)
        refine (HG.out _).mono ?_; rintro e w2 ⟨rfl, g2⟩
        go_wp2_with fail
        all_goals go_ret
        all_goals exact ⟨ret_bool (by simp [*]), by exact bel1 g2⟩
    · have e1 : inB d 1 400000000 = false := (inB_no _ _ _).2 (by omega)
      rw [e1]
      have h2' : 400000000 < d := by omega
      clear HN e1
      go_enter Try.func86, Try.ntmps86
      go_wp2_with fail
      go_ret
      exact ⟨ret_bool (by simp), by exact bel0⟩
  · have e1 : inB d 1 400000000 = false := (inB_no _ _ _).2 (by omega)
    rw [e1]
    have h1' : d < 1 := by omega
    clear HN e1
    go_enter Try.func86, Try.ntmps86
    go_wp2_with fail
    go_ret
    exact ⟨ret_bool (by simp), by exact bel0⟩
theorem lowest_c (n d : Int) (w : World) (hd : d ≠ 0) (hn1 : -1000000000000000000 ≤ n) (hn2 : n ≤ 1000000000000000000) (hd1 : -1000000000000000000 ≤ d) (hd2 : d ≤ 1000000000000000000) :
    Calls Try.prog 130 #[.int .i64 n, .int .i64 d] w (QRet (mkQ n d) w) := by
  have HG := Lib.hid fun W => gcd_c n d W (by omega) (by omega) (by omega) (by omega)
  have hg := gcdI_pos (a := n) hd
  have hgle : gcdI n d ≤ 1000000000000000000 := by
    have : (Int.gcd n d : Int) ≤ (d.natAbs : Int) := Int.ofNat_le.2 (Int.gcd_le_natAbs_right n hd)
    unfold gcdI; omega
  have mq : mkQ n d = if d < 0 then keepQ ((-n).tdiv (gcdI n d)) ((-d).tdiv (gcdI n d)) else keepQ (n.tdiv (gcdI n d)) (d.tdiv (gcdI n d)) := by unfold mkQ; rw [if_neg hd]
  generalize gcdI n d = g at *
  obtain ⟨w1, hw1⟩ : ∃ w1, w1 = w.alloc (.cells #[.int .i64 0, .int .i64 0] 56) := ⟨_, rfl⟩
  have mr : QBox w1 w.heap.size (0, 0) := by rw [hw1]; exact QBox.new_ _ (0, 0) _ rfl
  have g01 : Grows w w1 := by rw [hw1]; exact bel0
  have HW1 := Lib.hid hw1
  have gz : ¬ g = 0 := by omega
  have gne : (g == 0) = false := by rw [beq_eq_false_iff_ne]; omega
  have MQ := Lib.hid mq
  clear hw1 mq
  by_cases hneg : d < 0
  · have b1 := tdiv_le n hg
    have b2 := tdiv_le d hg
    have a1 : -1000000000000000000 ≤ n.tdiv g ∧ n.tdiv g ≤ 1000000000000000000 := by omega
    have a2 : -1000000000000000000 ≤ d.tdiv g ∧ d.tdiv g ≤ 1000000000000000000 := by omega
    obtain ⟨a11, a12⟩ := a1
    obtain ⟨a21, a22⟩ := a2
    have MQ' := Lib.hid (show mkQ n d = keepQ (-n.tdiv g) (-d.tdiv g) by rw [MQ.out, if_pos hneg, Int.neg_tdiv, Int.neg_tdiv])
    have HR := fun W => iIsRatio_c (-n.tdiv g) (-d.tdiv g) W
    have gn2 : (-g == 0) = false := by rw [beq_eq_false_iff_ne]; omega
    clear b1 b2
    unfold keepQ at MQ'
    generalize isRat (-n.tdiv g) (-d.tdiv g) = ok at *
    have HR' := Lib.hid HR
    clear HR
    go_enter Try.func130, Try.ntmps130
    go_wp2_with fail
    refine (HG.out _).mono ?_; rintro e w2 ⟨rfl, g2⟩
    rw [← HW1.out] at g2
    go_wp2_with fail
    go_region_held3 (fun _ => True) (trivial) (fail)
    all_goals
      go_wp2_with fail
      refine (HR'.out _).mono ?_; rintro e w3 ⟨rfl, g3⟩
      have zr := mr.grows (w' := w3) (by exact bel2 g3 g2)
      have zrl := zr.lt
      have zrf := zr.fz
      have zn := (QBox.new_ w2 (-n.tdiv g, -d.tdiv g) 56 rfl).grows (w' := w3) (by exact bel1 g3)
      obtain ⟨zn0, zn1⟩ := zn.cells
      obtain ⟨zr0, zr1⟩ := zr.cells
      cases ok
      · go_wp2_with fail
        refine bodyPost_ret (v := .agg #[.int .i64 0, .int .i64 0]) ?_ rfl ?_
        · simp [results, Try.results130, go_sem, zr0, zr1]
        · exact ⟨by rw [MQ'.out]; rfl, by exact bel3 g3 g2 g01⟩
      · go_wp2_with fail
        refine bodyPost_ret (v := .agg #[.int .i64 (-n.tdiv g), .int .i64 (-d.tdiv g)]) ?_ rfl ?_
        · simp [results, Try.results130, go_sem, zr0, zr1]
        · exact ⟨by rw [MQ'.out]; rfl, by exact bel3 g3 g2 g01⟩
  · have b1 := tdiv_le n hg
    have b2 := tdiv_le d hg
    have a1 : -1000000000000000000 ≤ n.tdiv g ∧ n.tdiv g ≤ 1000000000000000000 := by omega
    have a2 : -1000000000000000000 ≤ d.tdiv g ∧ d.tdiv g ≤ 1000000000000000000 := by omega
    obtain ⟨a11, a12⟩ := a1
    obtain ⟨a21, a22⟩ := a2
    have MQ' := Lib.hid (show mkQ n d = keepQ (n.tdiv g) (d.tdiv g) by rw [MQ.out, if_neg hneg])
    have HR := fun W => iIsRatio_c (n.tdiv g) (d.tdiv g) W
    clear b1 b2
    unfold keepQ at MQ'
    generalize isRat (n.tdiv g) (d.tdiv g) = ok at *
    have HR' := Lib.hid HR
    clear HR
    go_enter Try.func130, Try.ntmps130
    go_wp2_with fail
    refine (HG.out _).mono ?_; rintro e w2 ⟨rfl, g2⟩
    rw [← HW1.out] at g2
    go_wp2_with fail
    go_region_held3 (fun _ => True) (trivial) (fail)
    all_goals
      go_wp2_with fail
      refine (HR'.out _).mono ?_; rintro e w3 ⟨rfl, g3⟩
      have zr := mr.grows (w' := w3) (by exact bel2 g3 g2)
      have zrl := zr.lt
      have zrf := zr.fz
      have zn := (QBox.new_ w2 (n.tdiv g, d.tdiv g) 56 rfl).grows (w' := w3) (by exact bel1 g3)
      obtain ⟨zn0, zn1⟩ := zn.cells
      obtain ⟨zr0, zr1⟩ := zr.cells
      cases ok
      · go_wp2_with fail
        refine bodyPost_ret (v := .agg #[.int .i64 0, .int .i64 0]) ?_ rfl ?_
        · simp [results, Try.results130, go_sem, zr0, zr1]
        · exact ⟨by rw [MQ'.out]; rfl, by exact bel3 g3 g2 g01⟩
      · go_wp2_with fail
        refine bodyPost_ret (v := .agg #[.int .i64 (n.tdiv g), .int .i64 (d.tdiv g)]) ?_ rfl ?_
        · simp [results, Try.results130, go_sem, zr0, zr1]
        · exact ⟨by rw [MQ'.out]; rfl, by exact bel3 g3 g2 g01⟩

def gcdN (a b : Int) : Int := if isNum a && isNum b then gcdI a b else 0
theorem sGcdOf_c (a b : Int) (w : World) (ha : isNum a = true) (hb : isNum b = true) :
    Calls Try.prog 139 #[.int .i64 a, .int .i64 b] w fun e w' => e = .returned (.int .i64 (gcdI a b)) ∧ Grows w w' := by
  have HA := fun W => sIsNumber_c a W
  have HB := fun W => sIsNumber_c b W
  rw [ha] at HA
  rw [hb] at HB
  have HA' := Lib.hid HA
  have HB' := Lib.hid HB
  have ba := (isNum_iff a).1 ha
  have bb := (isNum_iff b).1 hb
  clear HA HB ha hb
  go_enter Try.func139, Try.ntmps139
  go_wp2_with fail
  refine (HA'.out _).mono ?_; rintro e w' ⟨rfl, rfl⟩
  go_wp2_with fail
  refine (HB'.out _).mono ?_; rintro e w' ⟨rfl, rfl⟩
  go_wp2_with fail
  go_loopw [0, 1] (fun x y wr => ∃ (p q : Int), x = .int .i64 p ∧ y = .int .i64 q ∧ gcdI p q = gcdI a b ∧ -4611686018427387904 ≤ p ∧ p ≤ 4611686018427387904 ∧ -4611686018427387904 ≤ q ∧ q ≤ 4611686018427387904 ∧ Grows w wr) (fun _ y _ => (intOf y).natAbs)
  case atStart => exact ⟨a, b, rfl, rfl, rfl, by omega, by omega, by omega, by omega, by exact bel0⟩
  case round =>
    obtain ⟨p, q, rfl, rfl, hg, h1, h2, h3, h4, hgr⟩ := hrel
    have HG := Lib.hid hg
    clear hg
    by_cases hq : q = 0
    · subst hq
      have HL := Lib.hid fun W => l1Abs_c p W (by omega) (by omega)
      go_wp2_with (go_at_call 148; refine (HL.out _).mono ?_; rintro e w' ⟨rfl, rfl⟩)
      go_ret
      exact ⟨ret_int (by rw [← HG.out, gcdI_zero]), hgr⟩
    · have hq' : (q != 0) = true := by simpa using hq
      have hq2 : (q == 0) = false := by simpa using hq
      have hm := tmod_natAbs_lt p hq
      have HB := Lib.hid (show -4611686018427387904 ≤ p.tmod q ∧ p.tmod q ≤ 4611686018427387904 by omega)
      have HM := Lib.hid hm
      clear hm
      have HS := Lib.hid (gcdI_step p q)
      go_wp2_with fail
      go_quiet (fail)
      go_wp2_with fail
      go_round
      case rel => exact ⟨q, p.tmod q, rfl, rfl, by rw [HS.out, HG.out], by omega, by omega, HB.out.1, HB.out.2, by exact bel1 hgr⟩
      case measure => have := HM.out; simpa [intOf] using this
theorem sIsRatio_c (n d : Int) (w : World) :
    Calls Try.prog 105 #[.agg #[.int .i64 n, .int .i64 d]] w fun e w' => e = .returned (.bool (isRat n d)) ∧ Grows w w' := by
  have HI := fun W => l1In_c d 1 400000000 W
  have HN := fun W => sIsNumber_c n W
  unfold isRat
  cases h1 : inB d 1 400000000
  · rw [h1] at HI
    have HI' := Lib.hid HI
    clear HI HN h1
    go_enter Try.func105, Try.ntmps105
    go_wp2_with fail
    refine (HI'.out _).mono ?_; rintro e w' ⟨rfl, rfl⟩
    go_wp2_with fail
    go_ret
    exact ⟨ret_bool (by simp), by exact bel0⟩
  · have bd := (inB_iff _ _ _).1 h1
    rw [h1] at HI
    have HI' := Lib.hid HI
    clear HI h1
    cases hn : isNum n
    · rw [hn] at HN
      have HN' := Lib.hid HN
      clear HN hn
      go_enter Try.func105, Try.ntmps105
      go_wp2_with fail
      refine (HI'.out _).mono ?_; rintro e w' ⟨rfl, rfl⟩
      go_wp2_with fail
      refine (HN'.out _).mono ?_; rintro e w' ⟨rfl, rfl⟩
      go_wp2_with fail
      go_ret
      exact ⟨ret_bool (by simp), by exact bel0⟩
    · rw [hn] at HN
      have HN' := Lib.hid HN
      have HG := Lib.hid fun W => sGcdOf_c n d W hn ((isNum_iff d).2 (by omega))
      clear HN hn
      generalize gcdI n d = g at *
      go_enter Try.func105, Try.ntmps105
      go_wp2_with fail
      refine (HI'.out _).mono ?_; rintro e w' ⟨rfl, rfl⟩
      go_wp2_with fail
      refine (HN'.out _).mono ?_; rintro e w' ⟨rfl, rfl⟩
      go_wp2_with fail
      refine (HG.out _).mono ?_; rintro e w2 ⟨rfl, g2⟩
      go_wp2_with fail
      all_goals go_ret
      all_goals exact ⟨ret_bool (by simp [*]), by exact bel1 g2⟩
end
end Go.Proofs.Ythajmffhgbenpaa

/- Contracts: the reference's fractions. -/
namespace Go.Proofs.Ythajmffhgbenpaa
set_option linter.unusedSimpArgs false
set_option linter.unusedVariables false
open Go.RowKit

section
set_option maxHeartbeats 1000000
theorem l2Make_neg (n d : Int) (w : World) (hd : d < 0) (hn1 : -1000000000000000000 ≤ n) (hn2 : n ≤ 1000000000000000000) (hd1 : -1000000000000000000 ≤ d) :
    Calls Try.prog 138 #[.int .i64 n, .int .i64 d] w (QRet (keepQ ((-n).tdiv (gcdI (-n) (-d))) ((-d).tdiv (gcdI (-n) (-d)))) w) := by
  have hg : 0 < gcdI (-n) (-d) := gcdI_pos (by omega)
  have hgle : gcdI (-n) (-d) ≤ 1000000000000000000 := by
    have : (Int.gcd (-n) (-d) : Int) ≤ ((-d).natAbs : Int) := Int.ofNat_le.2 (Int.gcd_le_natAbs_right (-n) (by omega))
    unfold gcdI; omega
  have b1 := tdiv_le (-n) hg
  have b2 := tdiv_le (-d) hg
  have a1 : -1000000000000000000 ≤ (-n).tdiv (gcdI (-n) (-d)) ∧ (-n).tdiv (gcdI (-n) (-d)) ≤ 1000000000000000000 := by omega
  have a2 : -1000000000000000000 ≤ (-d).tdiv (gcdI (-n) (-d)) ∧ (-d).tdiv (gcdI (-n) (-d)) ≤ 1000000000000000000 := by omega
  obtain ⟨a11, a12⟩ := a1
  obtain ⟨a21, a22⟩ := a2
  have dne : (d == 0) = false := by rw [beq_eq_false_iff_ne]; omega
  clear b1 b2
  obtain ⟨RES, hRES⟩ : ∃ x, x = keepQ ((-n).tdiv (gcdI (-n) (-d))) ((-d).tdiv (gcdI (-n) (-d))) := ⟨_, rfl⟩
  rw [← hRES]
  unfold keepQ at hRES
  have HR := fun W => sIsRatio_c ((-n).tdiv (gcdI (-n) (-d))) ((-d).tdiv (gcdI (-n) (-d))) W
  generalize isRat ((-n).tdiv (gcdI (-n) (-d))) ((-d).tdiv (gcdI (-n) (-d))) = ok at *
  generalize hga : gcdI (-n) (-d) = ga at *
  (try rw [Int.neg_tdiv] at a11); (try rw [Int.neg_tdiv] at a12); (try rw [Int.neg_tdiv] at a21); (try rw [Int.neg_tdiv] at a22)
  (try rw [Int.neg_tdiv, Int.neg_tdiv] at hRES)
  (try simp only [Int.neg_tdiv] at HR)
  have HRS := Lib.hid hRES
  have HR' := Lib.hid HR
  clear HR hRES
  have HGA := Lib.hid hga
  have gz : ¬ ga = 0 := by omega
  have gne : (ga == 0) = false := by rw [beq_eq_false_iff_ne]; omega
  clear hga
  obtain ⟨w1, hw1⟩ : ∃ w1, w1 = w.alloc (.cells #[.int .i64 0, .int .i64 0] 56) := ⟨_, rfl⟩
  have mr : QBox w1 w.heap.size (0, 0) := by rw [hw1]; exact QBox.new_ _ (0, 0) _ rfl
  have g01 : Grows w w1 := by rw [hw1]; exact bel0
  have HW1 := Lib.hid hw1
  clear hw1
  go_enter Try.func138, Try.ntmps138
  go_wp2_with fail
  go_loopw [5, 6] (fun x y wr => ∃ (p q : Int), x = .int .i64 p ∧ y = .int .i64 q ∧ gcdI p q = ga ∧ -4611686018427387904 ≤ p ∧ p ≤ 4611686018427387904 ∧ -4611686018427387904 ≤ q ∧ q ≤ 4611686018427387904 ∧ Grows w1 wr) (fun _ y _ => (intOf y).natAbs)
  case atStart => exact ⟨_, _, rfl, rfl, HGA.out, by omega, by omega, by omega, by omega, by rw [← HW1.out]; exact bel0⟩
  case round =>
    obtain ⟨p, q, rfl, rfl, hgg, h1, h2, h3, h4, hgr⟩ := hrel
    have HG := Lib.hid hgg
    clear hgg
    by_cases hq : q = 0
    · subst hq
      have HL := fun W => l1Abs_c p W (by omega) (by omega)
      rw [show absI p = ga by rw [← gcdI_zero]; exact HG.out] at HL
      have HL' := Lib.hid HL
      clear HL
      go_wp2_with (go_at_call 148; refine (HL'.out _).mono ?_; rintro e w' ⟨rfl, rfl⟩)
      go_region_held3 (fun _ => True) (trivial) (fail)
      all_goals
        go_wp2_with fail
        refine (HR'.out _).mono ?_; rintro e w3 ⟨rfl, g3⟩
        have zr := mr.grows (w' := w3) (by exact bel2 g3 hgr)
        have zrl := zr.lt
        have zrf := zr.fz
        have zn := (QBox.new_ wr ((-n.tdiv ga), (-d.tdiv ga)) 56 rfl).grows (w' := w3) (by exact bel1 g3)
        obtain ⟨zn0, zn1⟩ := zn.cells
        obtain ⟨zr0, zr1⟩ := zr.cells
        cases ok
        · go_wp2_with fail
          refine bodyPost_ret (v := .agg #[.int .i64 0, .int .i64 0]) ?_ rfl ?_
          · simp [results, Try.results138, go_sem, zr0, zr1]
          · exact ⟨by rw [HRS.out]; rfl, by exact bel3 g3 hgr g01⟩
        · go_wp2_with fail
          refine bodyPost_ret (v := .agg #[.int .i64 (-n.tdiv ga), .int .i64 (-d.tdiv ga)]) ?_ rfl ?_
          · simp [results, Try.results138, go_sem, zr0, zr1]
          · exact ⟨by rw [HRS.out]; rfl, by exact bel3 g3 hgr g01⟩
    · have hq' : (q != 0) = true := by simpa using hq
      have hq2 : (q == 0) = false := by simpa using hq
      have hm := tmod_natAbs_lt p hq
      have HB := Lib.hid (show -4611686018427387904 ≤ p.tmod q ∧ p.tmod q ≤ 4611686018427387904 by omega)
      have HM := Lib.hid hm
      clear hm
      have HS := Lib.hid (gcdI_step p q)
      go_wp2_with fail
      go_quiet (fail)
      go_wp2_with fail
      go_round
      case rel => exact ⟨q, p.tmod q, rfl, rfl, by rw [HS.out, HG.out], by omega, by omega, HB.out.1, HB.out.2, by exact bel1 hgr⟩
      case measure => have := HM.out; simpa [intOf] using this
theorem l2Make_pos (n d : Int) (w : World) (hd : 0 < d) (hn1 : -1000000000000000000 ≤ n) (hn2 : n ≤ 1000000000000000000) (hd1 : d ≤ 1000000000000000000) :
    Calls Try.prog 138 #[.int .i64 n, .int .i64 d] w (QRet (keepQ (n.tdiv (gcdI n d)) (d.tdiv (gcdI n d))) w) := by
  have hg : 0 < gcdI (n) (d) := gcdI_pos (by omega)
  have hgle : gcdI (n) (d) ≤ 1000000000000000000 := by
    have : (Int.gcd (n) (d) : Int) ≤ ((d).natAbs : Int) := Int.ofNat_le.2 (Int.gcd_le_natAbs_right (n) (by omega))
    unfold gcdI; omega
  have b1 := tdiv_le (n) hg
  have b2 := tdiv_le (d) hg
  have a1 : -1000000000000000000 ≤ (n).tdiv (gcdI (n) (d)) ∧ (n).tdiv (gcdI (n) (d)) ≤ 1000000000000000000 := by omega
  have a2 : -1000000000000000000 ≤ (d).tdiv (gcdI (n) (d)) ∧ (d).tdiv (gcdI (n) (d)) ≤ 1000000000000000000 := by omega
  obtain ⟨a11, a12⟩ := a1
  obtain ⟨a21, a22⟩ := a2
  have dne : (d == 0) = false := by rw [beq_eq_false_iff_ne]; omega
  clear b1 b2
  obtain ⟨RES, hRES⟩ : ∃ x, x = keepQ ((n).tdiv (gcdI (n) (d))) ((d).tdiv (gcdI (n) (d))) := ⟨_, rfl⟩
  rw [← hRES]
  unfold keepQ at hRES
  have HR := fun W => sIsRatio_c ((n).tdiv (gcdI (n) (d))) ((d).tdiv (gcdI (n) (d))) W
  generalize isRat ((n).tdiv (gcdI (n) (d))) ((d).tdiv (gcdI (n) (d))) = ok at *
  generalize hga : gcdI (n) (d) = ga at *
  (try rw [Int.neg_tdiv] at a11); (try rw [Int.neg_tdiv] at a12); (try rw [Int.neg_tdiv] at a21); (try rw [Int.neg_tdiv] at a22)
  (try rw [Int.neg_tdiv, Int.neg_tdiv] at hRES)
  (try simp only [Int.neg_tdiv] at HR)
  have HRS := Lib.hid hRES
  have HR' := Lib.hid HR
  clear HR hRES
  have HGA := Lib.hid hga
  have gz : ¬ ga = 0 := by omega
  have gne : (ga == 0) = false := by rw [beq_eq_false_iff_ne]; omega
  clear hga
  obtain ⟨w1, hw1⟩ : ∃ w1, w1 = w.alloc (.cells #[.int .i64 0, .int .i64 0] 56) := ⟨_, rfl⟩
  have mr : QBox w1 w.heap.size (0, 0) := by rw [hw1]; exact QBox.new_ _ (0, 0) _ rfl
  have g01 : Grows w w1 := by rw [hw1]; exact bel0
  have HW1 := Lib.hid hw1
  clear hw1
  go_enter Try.func138, Try.ntmps138
  go_wp2_with fail
  go_loopw [5, 6] (fun x y wr => ∃ (p q : Int), x = .int .i64 p ∧ y = .int .i64 q ∧ gcdI p q = ga ∧ -4611686018427387904 ≤ p ∧ p ≤ 4611686018427387904 ∧ -4611686018427387904 ≤ q ∧ q ≤ 4611686018427387904 ∧ Grows w1 wr) (fun _ y _ => (intOf y).natAbs)
  case atStart => exact ⟨_, _, rfl, rfl, HGA.out, by omega, by omega, by omega, by omega, by rw [← HW1.out]; exact bel0⟩
  case round =>
    obtain ⟨p, q, rfl, rfl, hgg, h1, h2, h3, h4, hgr⟩ := hrel
    have HG := Lib.hid hgg
    clear hgg
    by_cases hq : q = 0
    · subst hq
      have HL := fun W => l1Abs_c p W (by omega) (by omega)
      rw [show absI p = ga by rw [← gcdI_zero]; exact HG.out] at HL
      have HL' := Lib.hid HL
      clear HL
      go_wp2_with (go_at_call 148; refine (HL'.out _).mono ?_; rintro e w' ⟨rfl, rfl⟩)
      go_region_held3 (fun _ => True) (trivial) (fail)
      all_goals
        go_wp2_with fail
        refine (HR'.out _).mono ?_; rintro e w3 ⟨rfl, g3⟩
        have zr := mr.grows (w' := w3) (by exact bel2 g3 hgr)
        have zrl := zr.lt
        have zrf := zr.fz
        have zn := (QBox.new_ wr ((n.tdiv ga), (d.tdiv ga)) 56 rfl).grows (w' := w3) (by exact bel1 g3)
        obtain ⟨zn0, zn1⟩ := zn.cells
        obtain ⟨zr0, zr1⟩ := zr.cells
        cases ok
        · go_wp2_with fail
          refine bodyPost_ret (v := .agg #[.int .i64 0, .int .i64 0]) ?_ rfl ?_
          · simp [results, Try.results138, go_sem, zr0, zr1]
          · exact ⟨by rw [HRS.out]; rfl, by exact bel3 g3 hgr g01⟩
        · go_wp2_with fail
          refine bodyPost_ret (v := .agg #[.int .i64 (n.tdiv ga), .int .i64 (d.tdiv ga)]) ?_ rfl ?_
          · simp [results, Try.results138, go_sem, zr0, zr1]
          · exact ⟨by rw [HRS.out]; rfl, by exact bel3 g3 hgr g01⟩
    · have hq' : (q != 0) = true := by simpa using hq
      have hq2 : (q == 0) = false := by simpa using hq
      have hm := tmod_natAbs_lt p hq
      have HB := Lib.hid (show -4611686018427387904 ≤ p.tmod q ∧ p.tmod q ≤ 4611686018427387904 by omega)
      have HM := Lib.hid hm
      clear hm
      have HS := Lib.hid (gcdI_step p q)
      go_wp2_with fail
      go_quiet (fail)
      go_wp2_with fail
      go_round
      case rel => exact ⟨q, p.tmod q, rfl, rfl, by rw [HS.out, HG.out], by omega, by omega, HB.out.1, HB.out.2, by exact bel1 hgr⟩
      case measure => have := HM.out; simpa [intOf] using this
theorem l2Make_zero (n : Int) (w : World) : Calls Try.prog 138 #[.int .i64 n, .int .i64 0] w (QRet (0, 0) w) := by
  have mr := QBox.new_ w (0, 0) 56 rfl
  obtain ⟨zr0, zr1⟩ := mr.cells
  go_enter Try.func138, Try.ntmps138
  go_wp2_with fail
  refine bodyPost_ret (v := .agg #[.int .i64 0, .int .i64 0]) ?_ rfl ?_
  · simp [results, Try.results138, go_sem]
  · exact ⟨rfl, by exact bel0⟩
theorem l2Make_c (n d : Int) (w : World) (hn1 : -1000000000000000000 ≤ n) (hn2 : n ≤ 1000000000000000000) (hd1 : -1000000000000000000 ≤ d) (hd2 : d ≤ 1000000000000000000) :
    Calls Try.prog 138 #[.int .i64 n, .int .i64 d] w (QRet (mkQ n d) w) := by
  rcases Int.lt_trichotomy d 0 with h | h | h
  · rw [mkQ_neg h, ← gcdI_neg n d]
    exact l2Make_neg n d w h hn1 hn2 hd1
  · subst h
    exact l2Make_zero n w
  · rw [mkQ_pos h]
    exact l2Make_pos n d w h hn1 hn2 hd2
end
end Go.Proofs.Ythajmffhgbenpaa

/- Contracts: operations on fractions. -/
namespace Go.Proofs.Ythajmffhgbenpaa
set_option linter.unusedSimpArgs false
set_option linter.unusedVariables false
open Go.RowKit

theorem mul_bd2 {x y : Int} (hx1 : -400000000 ≤ x) (hx2 : x ≤ 400000000) (hy1 : -400000000 ≤ y) (hy2 : y ≤ 400000000) : -160000000000000000 ≤ x * y ∧ x * y ≤ 160000000000000000 :=
  mul_bd ((isNum_iff x).2 ⟨hx1, hx2⟩) ((isNum_iff y).2 ⟨hy1, hy2⟩)
theorem two_q (w : World) (a b : Q2) : ∃ w1, w1 = ((w.alloc (.cells #[.int .i64 a.1, .int .i64 a.2] 56)).alloc (.cells #[.int .i64 b.1, .int .i64 b.2] 56)).alloc (.cells #[.int .i64 0, .int .i64 0] 56) ∧
    QBox w1 w.heap.size a ∧ QBox w1 (w.heap.size + 1) b ∧ QBox w1 (w.heap.size + 1 + 1) (0, 0) ∧ Grows w w1 :=
  ⟨_, rfl, ((QBox.new_ w a 56 rfl).grows ((Below.refl _ _).alloc (Nat.le_refl _) _)).grows ((Below.refl _ _).alloc (Nat.le_refl _) _), (QBox.new_ _ b 56 (by simp)).grows ((Below.refl _ _).alloc (Nat.le_refl _) _), QBox.new_ _ (0, 0) 56 (by simp), by exact bel0⟩
theorem one_q (w : World) (a : Q2) : ∃ w1, w1 = (w.alloc (.cells #[.int .i64 a.1, .int .i64 a.2] 56)).alloc (.cells #[.int .i64 0, .int .i64 0] 56) ∧
    QBox w1 w.heap.size a ∧ QBox w1 (w.heap.size + 1) (0, 0) ∧ Grows w w1 :=
  ⟨_, rfl, (QBox.new_ w a 56 rfl).grows ((Below.refl _ _).alloc (Nat.le_refl _) _), QBox.new_ _ (0, 0) 56 (by simp), by exact bel0⟩

section
set_option maxHeartbeats 1000000
end
end Go.Proofs.Ythajmffhgbenpaa

/- Contracts: more operations on fractions. -/
namespace Go.Proofs.Ythajmffhgbenpaa
set_option linter.unusedSimpArgs false
set_option linter.unusedVariables false
open Go.RowKit

theorem ediv_tdiv {n d : Int} (hd : 0 < d) : n / d = if n.tmod d < 0 then n.tdiv d - 1 else n.tdiv d := by
  have e := Int.mul_tdiv_add_tmod n d
  have h1 := Int.tmod_lt_of_pos n hd
  have h2 : -d < n.tmod d := by
    have := Int.neg_tmod n d
    have h3 := Int.tmod_lt_of_pos (-n) hd
    omega
  split
  · rename_i h
    have : n = d * (n.tdiv d - 1) + (n.tmod d + d) := by rw [Int.mul_sub]; omega
    exact ((Int.ediv_emod_unique (r := n.tmod d + d) (q := n.tdiv d - 1) hd).2 ⟨by omega, by omega, by omega⟩).1
  · exact ((Int.ediv_emod_unique (r := n.tmod d) (q := n.tdiv d) hd).2 ⟨by omega, by omega, by omega⟩).1
theorem tmod_neg_iff {n d : Int} (hd : 0 < d) : n.tmod d < 0 ↔ n.tmod d ≠ 0 ∧ n < 0 := by
  constructor
  · intro h
    refine ⟨by omega, ?_⟩
    by_cases h2 : n < 0
    · exact h2
    · have := Int.tmod_nonneg d (show 0 ≤ n by omega); omega
  · intro ⟨h1, h2⟩
    have := Int.neg_tmod n d
    have h3 := Int.tmod_nonneg (a := -n) d (by omega)
    omega
def wholeQ (n : Int) : Q2 := (n, 1)
def subQ (a b : Q2) : Q2 := addQ a (negQ b)

section
set_option maxHeartbeats 1000000
theorem iMake_c (n d : Int) (w : World) : Calls Try.prog 81 #[.int .i64 n, .int .i64 d] w (QRet (makeQ n d) w) := by
  have HA := fun W => iIsNumber_c n W
  have HB := fun W => iIsNumber_c d W
  obtain ⟨w1, hw1⟩ : ∃ w1, w1 = w.alloc (.cells #[.int .i64 0, .int .i64 0] 56) := ⟨_, rfl⟩
  have mr : QBox w1 w.heap.size (0, 0) := by rw [hw1]; exact QBox.new_ w (0, 0) 56 rfl
  have g01 : Grows w w1 := by rw [hw1]; exact bel0
  have HW1 := Lib.hid hw1
  clear hw1
  obtain ⟨RES, hRES⟩ : ∃ x, x = makeQ n d := ⟨_, rfl⟩
  rw [← hRES]
  unfold makeQ at hRES
  have hbn := (isNum_iff n).1
  have hbd := (isNum_iff d).1
  generalize isNum n = oa at *
  generalize isNum d = ob at *
  have HA' := Lib.hid HA
  have HB' := Lib.hid HB
  have HD := Lib.hid hRES
  clear HA HB hRES
  cases oa
  · have HE := Lib.hid (show RES = (0, 0) from HD.out)
    clear HD hbn hbd
    go_enter Try.func81, Try.ntmps81
    go_wp2_with fail
    refine (HA'.out _).mono ?_; rintro e w' ⟨rfl, rfl⟩
    rw [← HW1.out]
    (have zr := QBox.grows mr (w' := w1) (by exact bel0); obtain ⟨zr0, zr1⟩ := zr.cells; have zrl := zr.lt; have zrf := zr.fz; go_wp2_with fail; refine bodyPost_ret (v := .agg #[.int .i64 0, .int .i64 0]) ?_ rfl ?_; (simp [results, Try.results81, go_sem, zr0, zr1, zrf, zrl]); exact ⟨by rw [HE.out], by exact bel1 g01⟩)
  · cases ob
    · have HE := Lib.hid (show RES = (0, 0) from HD.out)
      clear HD hbn hbd
      go_enter Try.func81, Try.ntmps81
      go_wp2_with fail
      refine (HA'.out _).mono ?_; rintro e w' ⟨rfl, rfl⟩
      rw [← HW1.out]
      go_wp2_with fail
      refine (HB'.out _).mono ?_; rintro e w' ⟨rfl, rfl⟩
      (have zr := QBox.grows mr (w' := w1) (by exact bel0); obtain ⟨zr0, zr1⟩ := zr.cells; have zrl := zr.lt; have zrf := zr.fz; go_wp2_with fail; refine bodyPost_ret (v := .agg #[.int .i64 0, .int .i64 0]) ?_ rfl ?_; (simp [results, Try.results81, go_sem, zr0, zr1, zrf, zrl]); exact ⟨by rw [HE.out], by exact bel1 g01⟩)
    · have HE := Lib.hid (show RES = mkQ n d from HD.out)
      obtain ⟨a1, a2⟩ := hbn rfl
      obtain ⟨c1, c2⟩ := hbd rfl
      clear HD hbn hbd
      by_cases hd : d = 0
      · subst hd
        go_enter Try.func81, Try.ntmps81
        go_wp2_with fail
        refine (HA'.out _).mono ?_; rintro e w' ⟨rfl, rfl⟩
        rw [← HW1.out]
        go_wp2_with fail
        refine (HB'.out _).mono ?_; rintro e w' ⟨rfl, rfl⟩
        (have zr := QBox.grows mr (w' := w1) (by exact bel0); obtain ⟨zr0, zr1⟩ := zr.cells; have zrl := zr.lt; have zrf := zr.fz; go_wp2_with fail; refine bodyPost_ret (v := .agg #[.int .i64 0, .int .i64 0]) ?_ rfl ?_; (simp [results, Try.results81, go_sem, zr0, zr1, zrf, zrl]); exact ⟨by rw [HE.out]; rfl, by exact bel1 g01⟩)
      · have HL := Lib.hid fun W => lowest_c n d W hd (by omega) (by omega) (by omega) (by omega)
        have hd0 : (d == 0) = false := by simpa using hd
        generalize mkQ n d = R at *
        go_enter Try.func81, Try.ntmps81
        go_wp2_with fail
        refine (HA'.out _).mono ?_; rintro e w' ⟨rfl, rfl⟩
        rw [← HW1.out]
        go_wp2_with fail
        refine (HB'.out _).mono ?_; rintro e w' ⟨rfl, rfl⟩
        go_wp2_with fail
        refine (HL.out _).mono ?_; rintro e w4 ⟨rfl, g4⟩
        (have zr := QBox.grows mr (w' := w4) (by exact bel1 g4); obtain ⟨zr0, zr1⟩ := zr.cells; have zrl := zr.lt; have zrf := zr.fz; go_wp2_with fail; refine bodyPost_ret (v := .agg #[.int .i64 R.1, .int .i64 R.2]) ?_ rfl ?_; (simp [results, Try.results81, go_sem, zr0, zr1, zrf, zrl]); exact ⟨by rw [HE.out], by exact bel2 g4 g01⟩)
theorem sMake_c (n d : Int) (w : World) : Calls Try.prog 92 #[.int .i64 n, .int .i64 d] w (QRet (makeQ n d) w) := by
  have HA := fun W => sIsNumber_c n W
  have HB := fun W => sIsNumber_c d W
  obtain ⟨w1, hw1⟩ : ∃ w1, w1 = w.alloc (.cells #[.int .i64 0, .int .i64 0] 56) := ⟨_, rfl⟩
  have mr : QBox w1 w.heap.size (0, 0) := by rw [hw1]; exact QBox.new_ w (0, 0) 56 rfl
  have g01 : Grows w w1 := by rw [hw1]; exact bel0
  have HW1 := Lib.hid hw1
  clear hw1
  obtain ⟨RES, hRES⟩ : ∃ x, x = makeQ n d := ⟨_, rfl⟩
  rw [← hRES]
  unfold makeQ at hRES
  have hbn := (isNum_iff n).1
  have hbd := (isNum_iff d).1
  generalize isNum n = oa at *
  generalize isNum d = ob at *
  have HA' := Lib.hid HA
  have HB' := Lib.hid HB
  have HD := Lib.hid hRES
  clear HA HB hRES
  cases oa
  · have HE := Lib.hid (show RES = (0, 0) from HD.out)
    clear HD hbn hbd
    go_enter Try.func92, Try.ntmps92
    go_wp2_with fail
    refine (HA'.out _).mono ?_; rintro e w' ⟨rfl, rfl⟩
    rw [← HW1.out]
    (have zr := QBox.grows mr (w' := w1) (by exact bel0); obtain ⟨zr0, zr1⟩ := zr.cells; have zrl := zr.lt; have zrf := zr.fz; go_wp2_with fail; refine bodyPost_ret (v := .agg #[.int .i64 0, .int .i64 0]) ?_ rfl ?_; (simp [results, Try.results92, go_sem, zr0, zr1, zrf, zrl]); exact ⟨by rw [HE.out], by exact bel1 g01⟩)
  · cases ob
    · have HE := Lib.hid (show RES = (0, 0) from HD.out)
      clear HD hbn hbd
      go_enter Try.func92, Try.ntmps92
      go_wp2_with fail
      refine (HA'.out _).mono ?_; rintro e w' ⟨rfl, rfl⟩
      rw [← HW1.out]
      go_wp2_with fail
      refine (HB'.out _).mono ?_; rintro e w' ⟨rfl, rfl⟩
      (have zr := QBox.grows mr (w' := w1) (by exact bel0); obtain ⟨zr0, zr1⟩ := zr.cells; have zrl := zr.lt; have zrf := zr.fz; go_wp2_with fail; refine bodyPost_ret (v := .agg #[.int .i64 0, .int .i64 0]) ?_ rfl ?_; (simp [results, Try.results92, go_sem, zr0, zr1, zrf, zrl]); exact ⟨by rw [HE.out], by exact bel1 g01⟩)
    · have HE := Lib.hid (show RES = mkQ n d from HD.out)
      obtain ⟨a1, a2⟩ := hbn rfl
      obtain ⟨c1, c2⟩ := hbd rfl
      clear HD hbn hbd
      have HL := Lib.hid fun W => l2Make_c n d W (by omega) (by omega) (by omega) (by omega)
      generalize mkQ n d = R at *
      go_enter Try.func92, Try.ntmps92
      go_wp2_with fail
      refine (HA'.out _).mono ?_; rintro e w' ⟨rfl, rfl⟩
      rw [← HW1.out]
      go_wp2_with fail
      refine (HB'.out _).mono ?_; rintro e w' ⟨rfl, rfl⟩
      go_wp2_with fail
      refine (HL.out _).mono ?_; rintro e w4 ⟨rfl, g4⟩
      (have zr := QBox.grows mr (w' := w4) (by exact bel1 g4); obtain ⟨zr0, zr1⟩ := zr.cells; have zrl := zr.lt; have zrf := zr.fz; go_wp2_with fail; refine bodyPost_ret (v := .agg #[.int .i64 R.1, .int .i64 R.2]) ?_ rfl ?_; (simp [results, Try.results92, go_sem, zr0, zr1, zrf, zrl]); exact ⟨by rw [HE.out], by exact bel2 g4 g01⟩)
end
end Go.Proofs.Ythajmffhgbenpaa

/- Slices of fractions. -/
namespace Go.Proofs.Ythajmffhgbenpaa
set_option linter.unusedSimpArgs false
set_option linter.unusedVariables false
open Go.RowKit

/-! ### rows of any kind -/
theorem ownsRow_grows {w w' : World} {B : Nat} {e : TypeId} {s n : Nat} {v : Value} {xs : List Value} (h : w.ownsRow B e s v n xs) (k : Grows w w') : w'.ownsRow B e s v n xs := by
  refine ⟨h.1, ?_⟩
  rcases h.2 with hn | ⟨g, cap, cur, rfl, hb, hgg, rest⟩
  · exact .inl hn
  · exact .inr ⟨g, cap, cur, rfl, hb, by rw [k.block g (Array.getElem?_eq_some_iff.1 hgg).1]; exact hgg, rest⟩
theorem ownsRow_less {w : World} {B B' : Nat} {e : TypeId} {s n : Nat} {v : Value} {xs : List Value} (h : w.ownsRow B e s v n xs) (hB : B' ≤ B) : w.ownsRow B' e s v n xs := by
  refine ⟨h.1, ?_⟩
  rcases h.2 with hn | ⟨g, cap, cur, rfl, hb, rest⟩
  · exact .inl hn
  · exact .inr ⟨g, cap, cur, rfl, by omega, rest⟩
theorem ownsRow_other {w w' : World} {B : Nat} {e : TypeId} {s n : Nat} {v o : Value} {xs : List Value} (h : w.ownsRow B e s o n xs) (hg : w.grownBy w' v.ownBlock) (hne : ∀ g, v.ownBlock = some g → o.ownBlock ≠ some g) : w'.ownsRow B e s o n xs := by
  refine World.ownsRow.kept h hg ?_
  cases e : o.ownBlock with
  | none => exact .inl rfl
  | some g =>
    right
    intro h2
    exact hne g h2.symm e
theorem ownsRow_far {w : World} {B : Nat} {e : TypeId} {s n : Nat} {v : Value} {xs : List Value} (h : w.ownsRow B e s v n xs) {p : Addr} (hp : ∀ g, v.ownBlock = some g → g ≠ p.block) (u : Value) : (w.setCell p u).ownsRow B e s v n xs := by
  refine ⟨h.1, ?_⟩
  rcases h.2 with hn | ⟨g, cap, cur, rfl, hb, hgg, rest⟩
  · exact .inl hn
  · exact .inr ⟨g, cap, cur, rfl, hb, by rw [Below.heap_setCell _ _ _ _ (hp g rfl)]; exact hgg, rest⟩
theorem ownsRow_form {w : World} {B : Nat} {e : TypeId} {s n : Nat} {v : Value} {xs : List Value} (h : w.ownsRow B e s v n xs) (hl : 0 < n) : ∃ g cap, v = .slice (some ⟨g, 0, none⟩) n cap ∧ B ≤ g ∧ g < w.heap.size := by
  rcases h.2 with ⟨_, h0⟩ | ⟨g, cap, cur, rfl, hb, hg, _⟩
  · omega
  · exact ⟨g, cap, rfl, hb, (Array.getElem?_eq_some_iff.1 hg).1⟩
theorem ownsRow_free {w : World} {B g n cap s m : Nat} {e : TypeId} {xs : List Value} (h : w.ownsRow B e s (.slice (some ⟨g, 0, none⟩) n cap) m xs) (i : Nat) : w.frozen? ⟨g, i, none⟩ = false := by
  rcases h.2 with ⟨h', _⟩ | ⟨g', cap', cur, h', _, hg, _⟩
  · simp at h'
  · simp only [Value.slice.injEq, Option.some.injEq, Addr.mk.injEq, and_true] at h'
    obtain ⟨rfl, _, _⟩ := h'
    exact frozen_of_row w g i cur _ hg

/-! ### fractions, flat -/
def nthQ (l : List Q2) (i : Nat) : Q2 := l.getD i (0, 0)
def flatV : List Q2 → List Value
  | [] => []
  | q :: l => .int .i64 q.1 :: .int .i64 q.2 :: flatV l
theorem flatV_length (l : List Q2) : (flatV l).length = l.length * 2 := by
  induction l with
  | nil => rfl
  | cons q l ih => simp [flatV, ih]; omega
theorem flatV_append (a b : List Q2) : flatV (a ++ b) = flatV a ++ flatV b := by
  induction a with
  | nil => rfl
  | cons q a ih => simp [flatV, ih]
theorem nthQ_cons_succ (q : Q2) (l : List Q2) (i : Nat) : nthQ (q :: l) (i + 1) = nthQ l i := by simp [nthQ]
theorem flatV_get (l : List Q2) (i : Nat) (h : i < l.length) : (flatV l)[i * 2]? = some (.int .i64 (nthQ l i).1) ∧ (flatV l)[i * 2 + 1]? = some (.int .i64 (nthQ l i).2) := by
  induction l generalizing i with
  | nil => simp at h
  | cons q l ih =>
    cases i with
    | zero => exact ⟨rfl, rfl⟩
    | succ i =>
      rw [nthQ_cons_succ]
      rw [show (i + 1) * 2 = i * 2 + 2 by omega]
      have := ih i (by simp at h; omega)
      simpa [flatV] using this
theorem nthQ_get (l : List Q2) (i : Nat) (h : i < l.length) : nthQ l i = l[i] := by simp [nthQ, h]
theorem nthQ_ext {a b : List Q2} (h : a.length = b.length) (h2 : ∀ i, i < a.length → nthQ a i = nthQ b i) : a = b := by
  apply List.ext_getElem h
  intro i h1 h3
  have := h2 i h1
  rwa [nthQ_get _ _ h1, nthQ_get _ _ h3] at this
theorem nthQ_set (l : List Q2) (i j : Nat) (x : Q2) (h : i < l.length) : nthQ (l.set i x) j = if j = i then x else nthQ l j := by
  unfold nthQ
  simp only [List.getD_eq_getElem?_getD, List.getElem?_set]
  by_cases e : i = j
  · subst e; simp [h]
  · rw [if_neg e, if_neg (fun e' => e e'.symm)]
theorem nthQ_append_left (a b : List Q2) (i : Nat) (h : i < a.length) : nthQ (a ++ b) i = nthQ a i := by
  unfold nthQ; simp [List.getElem?_append_left h]
theorem nthQ_append_last (a : List Q2) (q : Q2) : nthQ (a ++ [q]) a.length = q := by
  unfold nthQ; simp
theorem flatV_set1 (l : List Q2) (i : Nat) (x : Int) (h : i < l.length) : (flatV l).set (i * 2) (.int .i64 x) = flatV (l.set i (x, (nthQ l i).2)) := by
  induction l generalizing i with
  | nil => simp at h
  | cons q l ih =>
    cases i with
    | zero => rfl
    | succ i =>
      rw [nthQ_cons_succ, show (i + 1) * 2 = i * 2 + 2 by omega]
      have := ih i (by simp at h; omega)
      simpa [flatV] using this
theorem flatV_set2 (l : List Q2) (i : Nat) (x : Int) (h : i < l.length) : (flatV l).set (i * 2 + 1) (.int .i64 x) = flatV (l.set i ((nthQ l i).1, x)) := by
  induction l generalizing i with
  | nil => simp at h
  | cons q l ih =>
    cases i with
    | zero => rfl
    | succ i =>
      rw [nthQ_cons_succ, show (i + 1) * 2 + 1 = i * 2 + 1 + 2 by omega]
      have := ih i (by simp at h; omega)
      simpa [flatV] using this

/-- the slice at A reads as the fractions l -/
def RdQ (w : World) (A : Option Addr) (l : List Q2) : Prop := ∀ i, i < l.length → ∃ b off, A = some ⟨b, off, none⟩ ∧ b < w.heap.size ∧ w.cell? ⟨b, off + i * 2, none⟩ = some (.int .i64 (nthQ l i).1) ∧ w.cell? ⟨b, off + i * 2 + 1, none⟩ = some (.int .i64 (nthQ l i).2)
/-- the slice value owns its row of fractions, from block B on -/
def OwnQ (w : World) (B : Nat) (v : Value) (l : List Q2) : Prop := w.ownsRow B 56 2 v l.length (flatV l)
theorem RdQ.nil (w : World) (A : Option Addr) : RdQ w A [] := fun i h => by simp at h
theorem RdQ.grows {w w' : World} {A : Option Addr} {l : List Q2} (h : RdQ w A l) (k : Grows w w') : RdQ w' A l := fun i hi => by
  obtain ⟨b, off, e, hb, h1, h2⟩ := h i hi
  exact ⟨b, off, e, Nat.lt_of_lt_of_le hb k.size, (k.cell (p := ⟨b, off + i * 2, none⟩) hb).trans h1, (k.cell (p := ⟨b, off + i * 2 + 1, none⟩) hb).trans h2⟩
theorem OwnQ.grows {w w' : World} {B : Nat} {v : Value} {l : List Q2} (h : OwnQ w B v l) (k : Grows w w') : OwnQ w' B v l := ownsRow_grows h k
theorem OwnQ.alloc {w : World} {B : Nat} {v : Value} {l : List Q2} (h : OwnQ w B v l) (o : Obj) : OwnQ (w.alloc o) B v l := h.grows ((Below.refl _ _).alloc (Nat.le_refl _) o)
theorem OwnQ.less {w : World} {B B' : Nat} {v : Value} {l : List Q2} (h : OwnQ w B v l) (hB : B' ≤ B) : OwnQ w B' v l := ownsRow_less h hB
theorem OwnQ.val {w : World} {B : Nat} {v : Value} {l : List Q2} (h : OwnQ w B v l) : ∃ A cap, v = .slice A l.length cap ∧ RdQ w A l ∧ l.length ≤ cap := by
  rcases h.2 with ⟨rfl, h0⟩ | ⟨g, cap, cur, rfl, hb, hg, hn, hm, hcs, htake⟩
  · have : l = [] := List.eq_nil_of_length_eq_zero h0
    subst this
    exact ⟨none, 0, rfl, RdQ.nil _ _, Nat.le_refl _⟩
  · refine ⟨some ⟨g, 0, none⟩, cap, rfl, fun i hi => ⟨g, 0, rfl, (Array.getElem?_eq_some_iff.1 hg).1, ?_, ?_⟩, hn⟩
    · have := World.ownsRow.cellAt (w := w) (base := B) (e := 56) (size := 2) (g := g) (n := l.length) (cap := cap) (xs := flatV l) h (i * 2) (by omega)
      rw [Nat.zero_add, this, (flatV_get l i hi).1]
    · have := World.ownsRow.cellAt (w := w) (base := B) (e := 56) (size := 2) (g := g) (n := l.length) (cap := cap) (xs := flatV l) h (i * 2 + 1) (by omega)
      rw [Nat.zero_add, this, (flatV_get l i hi).2]
theorem OwnQ.rd {w : World} {B n c : Nat} {A : Option Addr} {l : List Q2} (h : OwnQ w B (.slice A n c) l) : RdQ w A l := by
  obtain ⟨A', c', e, hr, _⟩ := h.val
  injection e with e1 _ _
  rw [e1]; exact hr
theorem OwnQ.new_ (w : World) {B b : Nat} (hb : w.heap.size = b) (hB : B ≤ b) : OwnQ (w.alloc (.cells #[] 56)) B (.slice (some ⟨b, 0, none⟩) 0 0) [] := by
  subst hb
  exact World.ownsRow_lit (w := w) (base := B) (e := 56) (size := 2) #[] 0 hB (by simp [maxLen]) (by simp)
theorem OwnQ.nil (w : World) (B : Nat) : OwnQ w B (.slice none 0 0) [] := World.ownsRow_nil w B _ 2
theorem OwnQ.set1 {w : World} {B g cap : Nat} {l : List Q2} (h : OwnQ w B (.slice (some ⟨g, 0, none⟩) l.length cap) l) (i : Nat) (hi : i < l.length) (x : Int) :
    OwnQ (w.setCell ⟨g, i * 2, none⟩ (.int .i64 x)) B (.slice (some ⟨g, 0, none⟩) l.length cap) (l.set i (x, (nthQ l i).2)) := by
  have := (World.ownsRow.stored (w := w) (base := B) (e := 56) (size := 2) (g := g) (n := l.length) (cap := cap) (xs := flatV l) h (i * 2) (.int .i64 x)).1
  unfold OwnQ
  rw [List.length_set, ← flatV_set1 _ _ _ hi]
  exact this
theorem OwnQ.set2 {w : World} {B g cap : Nat} {l : List Q2} (h : OwnQ w B (.slice (some ⟨g, 0, none⟩) l.length cap) l) (i : Nat) (hi : i < l.length) (x : Int) :
    OwnQ (w.setCell ⟨g, i * 2 + 1, none⟩ (.int .i64 x)) B (.slice (some ⟨g, 0, none⟩) l.length cap) (l.set i ((nthQ l i).1, x)) := by
  have := (World.ownsRow.stored (w := w) (base := B) (e := 56) (size := 2) (g := g) (n := l.length) (cap := cap) (xs := flatV l) h (i * 2 + 1) (.int .i64 x)).1
  unfold OwnQ
  rw [List.length_set, ← flatV_set2 _ _ _ hi]
  exact this

theorem info_ratio : (Try.prog.info? 56).map (fun i => (i.zero, i.size, i.bytes)) = some (some (.agg #[.int .i64 0, .int .i64 0]), 2, 16) := by kernel_rfl
/-- out = append(out, q) -/
theorem wpList_appQ1 {ops : Array Oper} {rest : List Oper} {o : Oper} {a : Act} {Q : Exit → Act → World → Prop} (hgd : o.guard = none) (s x : Operand)
    (ho : o.op = .call { callee := .builtin .append, args := #[s, x], argTypes := #[50, 50] }) (w : World) (z : Q2)
    (B : Nat) (v : Value) (l : List Q2) (hs : a.eval s = v) (hown : OwnQ w B v l) (hx : a.eval x = .slice (some ⟨w.heap.size, 0, none⟩) 1 1)
    (hl : l.length + 1 ≤ 1099511627776) (hB : B ≤ w.heap.size)
    (h : ∀ v' w', OwnQ w' B v' (l ++ [z]) → w.grownBy w' v.ownBlock → (v'.ownBlock = v.ownBlock ∨ ∃ g, v'.ownBlock = some g ∧ w.heap.size ≤ g) → wpList Try.prog ops Q rest (a.put o.dst v') w') :
    wpList Try.prog ops Q (o :: rest) a (w.alloc (.cells #[.int .i64 z.1, .int .i64 z.2] 56)) := by
  obtain ⟨i0, hi0, hz0, hz1, hz2⟩ := info_parts info_ratio
  obtain ⟨v', w', hrun, h2, h3, _, h5⟩ := run_append_own_at (P := Try.prog) (w.alloc (.cells #[.int .i64 z.1, .int .i64 z.2] 56)) B 50 o.type 56 i0 (.agg #[.int .i64 0, .int .i64 0]) 2 16 Try.underlying50 hi0 hz0 hz1 hz2 rfl (by omega) v l.length (flatV l) (hown.alloc _)
    ⟨w.heap.size, 0, none⟩ 1 1 [.int .i64 z.1, .int .i64 z.2] (by simp) (by
      intro j u hu
      match j with
      | 0 => simp at hu; subst hu; simp [Addr.add, go_sem]
      | 1 => simp at hu; subst hu; simp [Addr.add, go_sem]
      | j + 2 => simp at hu) (by intro u hu; simp at hu; rcases hu with rfl | rfl <;> rfl) (by simp [maxLen]; omega) (by omega) (by simp; omega)
  refine wpList_plain hgd fun _ hK => ?_
  unfold Oper.wp execOp
  simp only [ho, resolve, invoke, builtin, Sem.run_bind, Sem.run_pure, Result.andThen_ok, List.map_toArray, List.map_cons, List.map_nil, hs, hx, hrun]
  refine hK _ _ (h v' w' ?_ ?_ ?_)
  · unfold OwnQ
    rw [List.length_append, flatV_append]
    exact h2
  · exact ⟨h3.os, h3.tape, h3.output, Nat.le_trans (by simp) h3.size, fun k hk hne => (h3.block k (by simp; omega) hne).trans (Below.heap_alloc w _ k hk)⟩
  · rcases h5 with h5 | h5
    · exact .inl h5
    · exact .inr ⟨_, h5, by simp⟩
theorem below_appR {B : Nat} {w w' : World} {e : TypeId} {s n : Nat} {v : Value} {xs : List Value} (hown : w.ownsRow B e s v n xs) (hB : B ≤ w.heap.size) (h : w.grownBy w' v.ownBlock) : Below B w w' :=
  (Below.refl _ _).grown h hB fun k hk => (World.ownsRow.lt hown k hk).1
theorem apart_appR {w : World} {B : Nat} {e : TypeId} {s n : Nat} {v v' o : Value} {xs : List Value} (ho : w.ownsRow B e s o n xs) (hne : ∀ g, v.ownBlock = some g → o.ownBlock ≠ some g) (h : v'.ownBlock = v.ownBlock ∨ ∃ g, v'.ownBlock = some g ∧ w.heap.size ≤ g) : ∀ g, v'.ownBlock = some g → o.ownBlock ≠ some g := by
  intro g hg hog
  rcases h with h | ⟨g', h1, h2⟩
  · exact hne g (by rw [← h]; exact hg) hog
  · rw [hg] at h1
    cases h1
    have := (World.ownsRow.lt ho g hog).2
    omega
end Go.Proofs.Ythajmffhgbenpaa

/- Contracts: division that rounds down. -/
namespace Go.Proofs.Ythajmffhgbenpaa
set_option linter.unusedSimpArgs false
set_option linter.unusedVariables false
open Go.RowKit

def flB (n d : Int) : Bool := isNum n && isNum d && (d != 0)
def flQ (n d : Int) : Int := if flB n d then n / d else 0
def flR (n d : Int) : Int := if flB n d then n % d else 0
theorem flQ_num {n d : Int} : isNum (flQ n d) = true := by
  unfold flQ
  split
  · rename_i h
    unfold flB at h
    simp only [Bool.and_eq_true, isNum_iff] at h
    rw [isNum_iff]
    have := Int.natAbs_ediv_le_natAbs n d
    omega
  · decide
theorem flQ_yes {n d : Int} (h : isNum n = true) (h2 : isNum d = true) (h3 : d ≠ 0) : flQ n d = n / d := by
  unfold flQ flB; simp [h, h2, h3]
/-- what is left of n behind a step by the size of d -/
theorem emod_step {n d : Int} (hd : d ≠ 0) : (if n.tmod d < 0 then n.tmod d + absI d else n.tmod d) = n % d ∧ (n - n % d).tdiv d = n / d := by
  have e := Int.mul_tdiv_add_tmod n d
  have e2 := Int.mul_ediv_add_emod n d
  have h1 := Int.emod_nonneg n hd
  have h2 := Int.emod_lt n hd
  have h3 : (n.tmod d).natAbs < d.natAbs := tmod_natAbs_lt n hd
  refine ⟨?_, by rw [show n - n % d = d * (n / d) by omega]; exact Int.mul_tdiv_cancel_left _ hd⟩
  have key : ∀ r, 0 ≤ r → r < (d.natAbs : Int) → (∃ k, n = d * k + r) → r = n % d := by
    rintro r hr0 hr1 ⟨k, hk⟩
    rw [hk, Int.add_comm, Int.add_mul_emod_self_left]
    rcases Int.lt_or_le d 0 with h | h
    · rw [← Int.emod_neg, Int.emod_eq_of_lt hr0 (by omega)]
    · rw [Int.emod_eq_of_lt hr0 (by omega)]
  split
  · rename_i hneg
    refine key _ (by unfold absI; split <;> omega) (by unfold absI; split <;> omega) ?_
    unfold absI
    split
    · exact ⟨n.tdiv d + 1, by rw [Int.mul_add]; omega⟩
    · exact ⟨n.tdiv d - 1, by rw [Int.mul_sub]; omega⟩
  · exact key _ (by omega) (by omega) ⟨n.tdiv d, by omega⟩

section
set_option maxHeartbeats 1000000
theorem iDivF_c (n d : Int) (w : World) (hn : isNum n = true) (hd : isNum d = true) (h0 : d ≠ 0) :
    Calls Try.prog 70 #[.int .i64 n, .int .i64 d] w fun e w' => e = .returned (.tuple #[.int .i64 (n / d), .int .i64 (n % d), .bool true]) ∧ Grows w w' := by
  have HA := fun W => iIsNumber_c n W
  have HB := fun W => iIsNumber_c d W
  rw [hn] at HA
  rw [hd] at HB
  have HA' := Lib.hid HA
  have HB' := Lib.hid HB
  have hb := (isNum_iff n).1 hn
  have hb2 := (isNum_iff d).1 hd
  have HC := Lib.hid fun W => absInt_c d W (by omega)
  have he := emod_step (n := n) h0
  have hz : (d == 0) = false := by simpa using h0
  have h3 : (n.tmod d).natAbs < d.natAbs := tmod_natAbs_lt n h0
  have h4 := Int.emod_nonneg n h0
  have h5 := Int.emod_lt n h0
  have e1 := he.1
  have HE := Lib.hid he.2
  have he2 := he.2
  have ha : absI d = (d.natAbs : Int) := by unfold absI; split <;> omega
  have hx2 : -400000000 ≤ n.tmod d ∧ n.tmod d ≤ 400000000 := by omega
  have hq := Int.natAbs_ediv_le_natAbs n d
  have hq2 : -400000000 ≤ n / d ∧ n / d ≤ 400000000 := by omega
  have hD : 0 ≤ absI d ∧ absI d ≤ 400000000 := by omega
  have h6 : 0 ≤ n % d ∧ n % d ≤ 400000000 := by omega
  clear HA HB hn hd he h3 h4 h5 ha hq
  generalize absI d = D at *
  by_cases hx : n.tmod d < 0
  · rw [if_pos hx] at e1
    have E1 := Lib.hid e1
    rw [← HE.out] at hq2
    rw [← e1] at h6 hq2
    clear e1 HE
    have HE := Lib.hid he2
    clear he2
    go_enter Try.func70, Try.ntmps70
    go_wp2_with fail
    refine (HA'.out _).mono ?_; rintro e w' ⟨rfl, rfl⟩
    go_wp2_with fail
    refine (HB'.out _).mono ?_; rintro e w' ⟨rfl, rfl⟩
    go_wp2_with fail
    refine (HC.out _).mono ?_; rintro e w' ⟨rfl, rfl⟩
    go_wp2_with fail
    go_ret3
    refine ⟨?_, by exact bel0⟩
    rw [← HE.out, ← E1.out]
    rfl
  · rw [if_neg hx] at e1
    have E1 := Lib.hid e1
    rw [← HE.out] at hq2
    rw [← e1] at h6 hq2
    clear e1 HE
    have HE := Lib.hid he2
    clear he2
    go_enter Try.func70, Try.ntmps70
    go_wp2_with fail
    refine (HA'.out _).mono ?_; rintro e w' ⟨rfl, rfl⟩
    go_wp2_with fail
    refine (HB'.out _).mono ?_; rintro e w' ⟨rfl, rfl⟩
    go_wp2_with fail
    go_ret3
    refine ⟨?_, by exact bel0⟩
    rw [← HE.out, ← E1.out]
    rfl
theorem l1Floor_c (n d : Int) (w : World) (h1 : -4611686018427387904 ≤ n) (h2 : n ≤ 4611686018427387904) (h3 : 1 ≤ d) (h4 : d ≤ 4611686018427387904) :
    Calls Try.prog 106 #[.int .i64 n, .int .i64 d] w fun e w' => e = .returned (.int .i64 (n / d)) ∧ w = w' := by
  have e := ediv_tdiv (n := n) (d := d) (by omega)
  have hz : (d == 0) = false := by rw [beq_eq_false_iff_ne]; omega
  have hq : (n.tdiv d).natAbs ≤ n.natAbs := tdiv_le n (by omega)
  have hm : (n.tmod d).natAbs < d.natAbs := tmod_natAbs_lt n (by omega)
  by_cases hx : n.tmod d < 0
  · rw [if_pos hx] at e
    have E := Lib.hid e
    clear e
    generalize hy : n.tmod d = y at *
    go_enter Try.func106, Try.ntmps106
    go_wp2_with fail
    go_ret
    exact ⟨ret_int (by rw [E.out]), rfl⟩
  · rw [if_neg hx] at e
    have E := Lib.hid e
    clear e
    generalize hy : n.tmod d = y at *
    go_enter Try.func106, Try.ntmps106
    go_wp2_with fail
    go_ret
    exact ⟨ret_int (by rw [E.out]), rfl⟩
theorem sDivF_c (n d : Int) (w : World) :
    Calls Try.prog 142 #[.int .i64 n, .int .i64 d] w fun e w' => e = .returned (.tuple #[.int .i64 (flQ n d), .int .i64 (flR n d), .bool (flB n d)]) ∧ Grows w w' := by
  have HA := fun W => sIsNumber_c n W
  have HB := fun W => sIsNumber_c d W
  cases hn : isNum n
  · have e1 : flB n d = false := by unfold flB; simp [hn]
    have e2 : flQ n d = 0 := by unfold flQ; simp [e1]
    have e3 : flR n d = 0 := by unfold flR; simp [e1]
    rw [e1, e2, e3]
    rw [hn] at HA
    have HA' := Lib.hid HA
    clear HA HB hn e1 e2 e3
    go_enter Try.func142, Try.ntmps142
    go_wp2_with fail
    refine (HA'.out _).mono ?_; rintro e w' ⟨rfl, rfl⟩
    go_wp2_with fail
    go_ret3
    exact ⟨rfl, by exact bel0⟩
  · rw [hn] at HA
    have HA' := Lib.hid HA
    have hb := (isNum_iff n).1 hn
    cases hd : isNum d
    · have e1 : flB n d = false := by unfold flB; simp [hd]
      have e2 : flQ n d = 0 := by unfold flQ; simp [e1]
      have e3 : flR n d = 0 := by unfold flR; simp [e1]
      rw [e1, e2, e3]
      rw [hd] at HB
      have HB' := Lib.hid HB
      clear HA HB hn hd e1 e2 e3
      go_enter Try.func142, Try.ntmps142
      go_wp2_with fail
      refine (HA'.out _).mono ?_; rintro e w' ⟨rfl, rfl⟩
      go_wp2_with fail
      refine (HB'.out _).mono ?_; rintro e w' ⟨rfl, rfl⟩
      go_wp2_with fail
      go_ret3
      exact ⟨rfl, by exact bel0⟩
    · rw [hd] at HB
      have HB' := Lib.hid HB
      have hb2 := (isNum_iff d).1 hd
      by_cases h0 : d = 0
      · subst h0
        have e1 : flB n 0 = false := by unfold flB; simp
        have e2 : flQ n 0 = 0 := by unfold flQ; simp [e1]
        have e3 : flR n 0 = 0 := by unfold flR; simp [e1]
        rw [e1, e2, e3]
        clear HA HB hn hd e1 e2 e3
        go_enter Try.func142, Try.ntmps142
        go_wp2_with fail
        refine (HA'.out _).mono ?_; rintro e w' ⟨rfl, rfl⟩
        go_wp2_with fail
        refine (HB'.out _).mono ?_; rintro e w' ⟨rfl, rfl⟩
        go_wp2_with fail
        go_ret3
        exact ⟨rfl, by exact bel0⟩
      · have e1 : flB n d = true := by unfold flB; simp [hn, hd, h0]
        have e2 : flQ n d = n / d := by unfold flQ; simp [e1]
        have e3 : flR n d = n % d := by unfold flR; simp [e1]
        rw [e1, e2, e3]
        have HC := Lib.hid fun W => l1Abs_c d W (by omega) (by omega)
        have hz : (d == 0) = false := by simpa using h0
        have hab : absI d = (d.natAbs : Int) := by unfold absI; split <;> omega
        have HF := Lib.hid fun W => l1Floor_c n (absI d) W (by omega) (by omega) (by rw [hab]; omega) (by rw [hab]; omega)
        have E2 := Lib.hid (Int.mul_ediv_add_emod n d)
        have hq := Int.natAbs_ediv_le_natAbs n d
        have h4 := Int.emod_nonneg n h0
        have h5 := Int.emod_lt n h0
        have E0 := Lib.hid (Int.mul_ediv_add_emod n d)
        have hD : 1 ≤ absI d ∧ absI d ≤ 400000000 := by omega
        clear HA HB hn hd e1 e2 e3 hab
        by_cases hneg : d < 0
        · have ha : absI d = -d := by unfold absI; rw [if_pos hneg]
          have hm : absI d * (n / absI d) = n - n % d := by
            rw [ha, Int.ediv_neg, Int.neg_mul_neg]; have := E0.out; omega
          have hQ : n / absI d = -(n / d) := by rw [ha, Int.ediv_neg]
          have hm2 : -400000000 ≤ n / absI d ∧ n / absI d ≤ 400000000 := by omega
          have hm3 : -800000000 ≤ absI d * (n / absI d) ∧ absI d * (n / absI d) ≤ 800000000 := by omega
          have X1 := Lib.hid (show n / d = -(n / absI d) by omega)
          have X2 := Lib.hid (show n % d = n - absI d * (n / absI d) by omega)
          rw [X1.out, X2.out]
          clear hm h4 h5 hQ ha hq E0 E2 hb2 X1 X2
          generalize absI d = D at *
          generalize n / D = Q at *
          go_enter Try.func142, Try.ntmps142
          go_wp2_with fail
          refine (HA'.out _).mono ?_; rintro e w' ⟨rfl, rfl⟩
          go_wp2_with fail
          refine (HB'.out _).mono ?_; rintro e w' ⟨rfl, rfl⟩
          go_wp2_with fail
          refine (HC.out _).mono ?_; rintro e w' ⟨rfl, rfl⟩
          go_wp2_with fail
          refine (HF.out _).mono ?_; rintro e w' ⟨rfl, rfl⟩
          go_wp2_with fail
          refine (HC.out _).mono ?_; rintro e w' ⟨rfl, rfl⟩
          go_wp2_with fail
          go_ret3
          exact ⟨rfl, by exact bel0⟩
        · have ha : absI d = d := by unfold absI; rw [if_neg hneg]
          rw [ha] at HF HC hD
          have hm3 : -800000000 ≤ d * (n / d) ∧ d * (n / d) ≤ 800000000 := by have := E0.out; omega
          have hm2 : -400000000 ≤ n / d ∧ n / d ≤ 400000000 := by omega
          have X2 := Lib.hid (show n % d = n - d * (n / d) by have := E0.out; omega)
          rw [X2.out]
          clear h4 h5 ha hq E0 E2 X2
          generalize n / d = Q at *
          go_enter Try.func142, Try.ntmps142
          go_wp2_with fail
          refine (HA'.out _).mono ?_; rintro e w' ⟨rfl, rfl⟩
          go_wp2_with fail
          refine (HB'.out _).mono ?_; rintro e w' ⟨rfl, rfl⟩
          go_wp2_with fail
          refine (HC.out _).mono ?_; rintro e w' ⟨rfl, rfl⟩
          go_wp2_with fail
          refine (HF.out _).mono ?_; rintro e w' ⟨rfl, rfl⟩
          go_wp2_with fail
          go_ret3
          exact ⟨rfl, by exact bel0⟩
theorem floorDiv_c (n d : Int) (w : World) (h1 : -4611686018427387904 ≤ n) (h2 : n ≤ 4611686018427387904) (h3 : 1 ≤ d) (h4 : d ≤ 4611686018427387904) :
    Calls Try.prog 87 #[.int .i64 n, .int .i64 d] w fun e w' => e = .returned (.int .i64 (n / d)) ∧ w = w' := by
  have e := ediv_tdiv (n := n) (d := d) (by omega)
  have hz : (d == 0) = false := by rw [beq_eq_false_iff_ne]; omega
  have hq : (n.tdiv d).natAbs ≤ n.natAbs := tdiv_le n (by omega)
  have hi := tmod_neg_iff (n := n) (d := d) (by omega)
  have hd : decide (d < 0) = false := by rw [decide_eq_false_iff_not]; omega
  by_cases hx : n.tmod d = 0
  · rw [if_neg (by omega)] at e
    have E := Lib.hid e
    clear e hi
    go_enter Try.func87, Try.ntmps87
    go_wp2_with fail
    go_ret
    exact ⟨ret_int (by rw [E.out]), rfl⟩
  · by_cases hneg : n < 0
    · rw [if_pos (hi.2 ⟨hx, hneg⟩)] at e
      have E := Lib.hid e
      clear e hi
      have hn : decide (n < 0) = true := by rw [decide_eq_true_eq]; exact hneg
      go_enter Try.func87, Try.ntmps87
      go_wp2_with fail
      go_ret
      exact ⟨ret_int (by rw [E.out]), rfl⟩
    · rw [if_neg (fun h => hneg (hi.1 h).2)] at e
      have E := Lib.hid e
      clear e hi
      have hn : decide (n < 0) = false := by rw [decide_eq_false_iff_not]; exact hneg
      go_enter Try.func87, Try.ntmps87
      go_wp2_with fail
      all_goals
        go_ret
        exact ⟨ret_int (by rw [E.out]), rfl⟩
end
end Go.Proofs.Ythajmffhgbenpaa

/- Slices of slices: rows of values of one cell. -/
namespace Go.Proofs.Ythajmffhgbenpaa
set_option linter.unusedSimpArgs false
set_option linter.unusedVariables false
open Go.RowKit

/-- the slice at A reads as the values vs, a cell each -/
def RdV (w : World) (A : Option Addr) (vs : List Value) : Prop := ∀ i u, vs[i]? = some u → ∃ b off, A = some ⟨b, off, none⟩ ∧ b < w.heap.size ∧ w.cell? ⟨b, off + i, none⟩ = some u
/-- the slice value owns its row of values, from block B on -/
def OwnV (t : TypeId) (w : World) (B : Nat) (v : Value) (vs : List Value) : Prop := w.ownsRow B t 1 v vs.length vs
section
variable {t : TypeId} {w w' : World} {B B' : Nat} {v : Value} {vs : List Value} {A : Option Addr}
theorem RdV.nil (w : World) (A : Option Addr) : RdV w A [] := fun i u h => by simp at h
theorem RdV.grows (h : RdV w A vs) (k : Grows w w') : RdV w' A vs := fun i u hi => by
  obtain ⟨b, off, e, hb, hc⟩ := h i u hi
  exact ⟨b, off, e, Nat.lt_of_lt_of_le hb k.size, (k.cell (p := ⟨b, off + i, none⟩) hb).trans hc⟩
theorem OwnV.grows (h : OwnV t w B v vs) (k : Grows w w') : OwnV t w' B v vs := ownsRow_grows h k
theorem OwnV.alloc (h : OwnV t w B v vs) (o : Obj) : OwnV t (w.alloc o) B v vs := h.grows ((Below.refl _ _).alloc (Nat.le_refl _) o)
theorem OwnV.less (h : OwnV t w B v vs) (hB : B' ≤ B) : OwnV t w B' v vs := ownsRow_less h hB
theorem OwnV.val (h : OwnV t w B v vs) : ∃ A cap, v = .slice A vs.length cap ∧ RdV w A vs ∧ vs.length ≤ cap := by
  rcases h.2 with ⟨rfl, h0⟩ | ⟨g, cap, cur, rfl, hb, hg, hn, hm, hcs, htake⟩
  · have : vs = [] := List.eq_nil_of_length_eq_zero h0
    subst this
    exact ⟨none, 0, rfl, RdV.nil _ _, Nat.le_refl _⟩
  · refine ⟨some ⟨g, 0, none⟩, cap, rfl, fun i u hi => ⟨g, 0, rfl, (Array.getElem?_eq_some_iff.1 hg).1, ?_⟩, hn⟩
    have hlt : i < vs.length := (List.getElem?_eq_some_iff.1 hi).1
    have := World.ownsRow.cellAt (w := w) (base := B) (e := t) (size := 1) (g := g) (n := vs.length) (cap := cap) (xs := vs) h i (by omega)
    rw [Nat.zero_add, this, hi]
theorem OwnV.rd {n c : Nat} (h : OwnV t w B (.slice A n c) vs) : RdV w A vs := by
  obtain ⟨A', c', e, hr, _⟩ := h.val
  injection e with e1 _ _
  rw [e1]; exact hr
theorem OwnV.lt {g : Nat} (h : OwnV t w B v vs) (hg : v.ownBlock = some g) : B ≤ g ∧ g < w.heap.size := World.ownsRow.lt h g hg
theorem OwnV.new_ (t : TypeId) (w : World) {B b : Nat} (hb : w.heap.size = b) (hB : B ≤ b) : OwnV t (w.alloc (.cells #[] t)) B (.slice (some ⟨b, 0, none⟩) 0 0) [] := by
  subst hb
  exact World.ownsRow_lit (w := w) (base := B) (e := t) (size := 1) #[] 0 hB (by simp [maxLen]) (by simp)
theorem OwnV.nil (t : TypeId) (w : World) (B : Nat) : OwnV t w B (.slice none 0 0) [] := World.ownsRow_nil w B _ 1
theorem OwnV.far (h : OwnV t w B v vs) {p : Addr} (hp : ∀ g, v.ownBlock = some g → g ≠ p.block) (u : Value) : OwnV t (w.setCell p u) B v vs := ownsRow_far h hp u
theorem OwnV.low (h : OwnV t w B v vs) {p : Addr} (hp : p.block < B) (u : Value) : OwnV t (w.setCell p u) B v vs := h.far (fun g hg => by have := (h.lt hg).1; omega) u
theorem OwnV.drew (h : OwnV t w B v vs) : OwnV t w.drew B v vs := h
end

/-! ### rows of what is read through a value: R w u x: the value u stands for x; ad u: the block that u reads, if any -/
structure GoodR {α : Type} (ad : Value → Option Nat) (R : World → Value → α → Prop) : Prop where
  keep : ∀ w w' k u x, w.grownBy w' k → (∀ g, ad u = some g → k ≠ some g) → R w u x → R w' u x
  low : ∀ w u x g, R w u x → ad u = some g → g < w.heap.size
theorem grows_grown {w w' : World} (g : Grows w w') : w.grownBy w' none := ⟨g.os, g.tape, g.output, g.size, fun i hi _ => g.block i hi⟩
section
variable {α : Type} {ad : Value → Option Nat} {R : World → Value → α → Prop} {t : TypeId} {w w' : World} {B B' : Nat} {v : Value} {A : Option Addr} {L : List α} {S S' : List Value}
theorem GoodR.grows (hG : GoodR ad R) {u : Value} {x : α} (h : R w u x) (g : Grows w w') : R w' u x := hG.keep _ _ _ _ _ (grows_grown g) (fun _ _ h => by cases h) h
def RdR (R : World → Value → α → Prop) (w : World) (A : Option Addr) (L : List α) : Prop := ∃ vs : List Value, vs.length = L.length ∧ RdV w A vs ∧ ∀ (i : Nat) (u : Value) (x : α), vs[i]? = some u → L[i]? = some x → R w u x
/-- .. owned; what it holds reads no block of its own, and none of those that the values S own -/
def OwnR (t : TypeId) (ad : Value → Option Nat) (R : World → Value → α → Prop) (w : World) (B : Nat) (v : Value) (L : List α) (S : List Value) : Prop :=
  ∃ vs : List Value, vs.length = L.length ∧ OwnV t w B v vs ∧ (∀ (i : Nat) (u : Value) (x : α), vs[i]? = some u → L[i]? = some x → R w u x) ∧ ∀ (i : Nat) (u : Value), vs[i]? = some u → ∀ g, ad u = some g → v.ownBlock ≠ some g ∧ ∀ s ∈ S, s.ownBlock ≠ some g
theorem RdR.at_ (h : RdR R w A L) (i : Nat) (hi : i < L.length) : ∃ b off u, A = some ⟨b, off, none⟩ ∧ b < w.heap.size ∧ w.cell? ⟨b, off + i, none⟩ = some u ∧ R w u L[i] := by
  obtain ⟨vs, hl, hr, hR⟩ := h
  have hv : vs[i]? = some vs[i] := List.getElem?_eq_getElem (by omega)
  obtain ⟨b, off, e, hb, hc⟩ := hr i _ hv
  exact ⟨b, off, _, e, hb, hc, hR i _ _ hv (List.getElem?_eq_getElem hi)⟩
theorem RdR.grows (hG : GoodR ad R) (h : RdR R w A L) (k : Grows w w') : RdR R w' A L := by
  obtain ⟨vs, hl, hr, hR⟩ := h
  exact ⟨vs, hl, hr.grows k, fun i u x h1 h2 => hG.grows (hR i u x h1 h2) k⟩
theorem OwnR.grows (hG : GoodR ad R) (h : OwnR t ad R w B v L S) (k : Grows w w') : OwnR t ad R w' B v L S := by
  obtain ⟨vs, hl, hr, hR, hs⟩ := h
  exact ⟨vs, hl, hr.grows k, fun i u x h1 h2 => hG.grows (hR i u x h1 h2) k, hs⟩
theorem OwnR.val (h : OwnR t ad R w B v L S) : ∃ A cap, v = .slice A L.length cap ∧ RdR R w A L ∧ L.length ≤ cap := by
  obtain ⟨vs, hl, hr, hR, hs⟩ := h
  obtain ⟨A, cap, e, h1, h2⟩ := hr.val
  rw [hl] at e h2
  exact ⟨A, cap, e, ⟨vs, hl, h1, hR⟩, h2⟩
theorem OwnR.rd {n c : Nat} (h : OwnR t ad R w B (.slice A n c) L S) : RdR R w A L := by
  obtain ⟨A', c', e, hr, _⟩ := h.val
  injection e with e1 _ _
  rw [e1]; exact hr
theorem OwnR.less (h : OwnR t ad R w B v L S) (hB : B' ≤ B) : OwnR t ad R w B' v L S := by
  obtain ⟨vs, hl, hr, hR, hs⟩ := h
  exact ⟨vs, hl, hr.less hB, hR, hs⟩
theorem OwnR.lt {g : Nat} (h : OwnR t ad R w B v L S) (hg : v.ownBlock = some g) : B ≤ g ∧ g < w.heap.size := by
  obtain ⟨vs, hl, hr, hR⟩ := h
  exact hr.lt hg
theorem OwnR.new_ (t : TypeId) (ad : Value → Option Nat) (R : World → Value → α → Prop) (w : World) (S : List Value) {B b : Nat} (hb : w.heap.size = b) (hB : B ≤ b) : OwnR t ad R (w.alloc (.cells #[] t)) B (.slice (some ⟨b, 0, none⟩) 0 0) ([] : List α) S :=
  ⟨[], rfl, OwnV.new_ t w hb hB, fun i u x h => by simp at h, fun i u h => by simp at h⟩
theorem OwnR.nil (t : TypeId) (ad : Value → Option Nat) (R : World → Value → α → Prop) (w : World) (B : Nat) (S : List Value) : OwnR t ad R w B (.slice none 0 0) ([] : List α) S :=
  ⟨[], rfl, OwnV.nil t w B, fun i u x h => by simp at h, fun i u h => by simp at h⟩
/-- other values to keep apart from: known ones, or of new blocks -/
theorem OwnR.avoid (hG : GoodR ad R) (h : OwnR t ad R w B v L S) (hS : ∀ s' ∈ S', ∀ g, s'.ownBlock = some g → (∃ s ∈ S, s.ownBlock = some g) ∨ v.ownBlock = some g ∨ w.heap.size ≤ g) : OwnR t ad R w B v L S' := by
  obtain ⟨vs, hl, hr, hR, hs⟩ := h
  refine ⟨vs, hl, hr, hR, fun i u hi g hg => ⟨(hs i u hi g hg).1, fun s' hs' e => ?_⟩⟩
  rcases hS s' hs' g e with ⟨s, h1, h2⟩ | h1 | h1
  · exact (hs i u hi g hg).2 s h1 h2
  · exact (hs i u hi g hg).1 h1
  · have hlt : i < L.length := by rw [← hl]; exact (List.getElem?_eq_some_iff.1 hi).1
    have := hG.low _ _ _ _ (hR i u _ hi (List.getElem?_eq_getElem hlt)) hg
    omega
/-- a change to a row that is kept apart from -/
theorem OwnR.other (hG : GoodR ad R) (h : OwnR t ad R w B v L S) {s : Value} (hs : s ∈ S) (hne : ∀ g, s.ownBlock = some g → v.ownBlock ≠ some g) (hg : w.grownBy w' s.ownBlock) : OwnR t ad R w' B v L S := by
  obtain ⟨vs, hl, hr, hR, hsp⟩ := h
  exact ⟨vs, hl, ownsRow_other hr hg hne, fun i u x h1 h2 => hG.keep _ _ _ _ _ hg (fun g hg2 e => (hsp i u h1 g hg2).2 s hs e) (hR i u x h1 h2), hsp⟩
end

/-- the block that a slice which is not empty reads -/
def adR : Value → Option Nat
  | .slice (some a) n _ => if n = 0 then none else some a.block
  | _ => none
theorem adR_pos {a : Addr} {n c : Nat} (h : 0 < n) : adR (.slice (some a) n c) = some a.block := by
  show (if n = 0 then none else some a.block) = _
  rw [if_neg (by omega)]
theorem adR_some {a : Addr} {n c g : Nat} (h : adR (.slice (some a) n c) = some g) : 0 < n ∧ g = a.block := by
  change (if n = 0 then none else some a.block) = _ at h
  split at h
  · cases h
  · cases h; exact ⟨by omega, rfl⟩
theorem cell_keep {w w' : World} {b o : Nat} (hk : w'.heap[b]? = w.heap[b]?) : w'.cell? ⟨b, o, none⟩ = w.cell? ⟨b, o, none⟩ := World.cell?_of_block hk
theorem Rd.other {w w' : World} {k : Option Nat} {A : Option Addr} {x : List Int} {c : Nat} (h : Rd w A x) (hg : w.grownBy w' k) (hne : ∀ g, adR (.slice A x.length c) = some g → k ≠ some g) : Rd w' A x := fun i hi => by
  obtain ⟨b, off, e, hb, hc⟩ := h i hi
  subst e
  have hk : k ≠ some b := hne b (adR_pos (by omega))
  exact ⟨b, off, rfl, Nat.lt_of_lt_of_le hb hg.size, (cell_keep (hg.block b hb (fun e => hk e.symm))).trans hc⟩
theorem RdQ.other {w w' : World} {k : Option Nat} {A : Option Addr} {x : List Q2} {c : Nat} (h : RdQ w A x) (hg : w.grownBy w' k) (hne : ∀ g, adR (.slice A x.length c) = some g → k ≠ some g) : RdQ w' A x := fun i hi => by
  obtain ⟨b, off, e, hb, hc1, hc2⟩ := h i hi
  subst e
  have hk : k ≠ some b := hne b (adR_pos (by omega))
  have hbk := hg.block b hb (fun e => hk e.symm)
  exact ⟨b, off, rfl, Nat.lt_of_lt_of_le hb hg.size, (cell_keep hbk).trans hc1, (cell_keep hbk).trans hc2⟩
/-- a slice of integers that is read -/
def RSI (w : World) (u : Value) (x : List Int) : Prop := ∃ A c, u = .slice A x.length c ∧ Rd w A x ∧ x.length ≤ c
theorem RSI.good : GoodR adR RSI := by
  refine ⟨fun w w' k u x hg hne ⟨A, c, e, h, hc⟩ => ⟨A, c, e, h.other (c := c) hg (fun g hg2 => hne g (by rw [e]; exact hg2)), hc⟩, fun w u x g ⟨A, c, e, h, hc⟩ hg => ?_⟩
  subst e
  cases A with
  | none => simp [adR] at hg
  | some a =>
    obtain ⟨h0, rfl⟩ := adR_some hg
    obtain ⟨b, off, e, hb, _⟩ := h 0 h0
    cases e
    exact hb
/-- a slice of fractions that is read -/
def RSQ (w : World) (u : Value) (x : List Q2) : Prop := ∃ A c, u = .slice A x.length c ∧ RdQ w A x ∧ x.length ≤ c
theorem RSQ.good : GoodR adR RSQ := by
  refine ⟨fun w w' k u x hg hne ⟨A, c, e, h, hc⟩ => ⟨A, c, e, h.other (c := c) hg (fun g hg2 => hne g (by rw [e]; exact hg2)), hc⟩, fun w u x g ⟨A, c, e, h, hc⟩ hg => ?_⟩
  subst e
  cases A with
  | none => simp [adR] at hg
  | some a =>
    obtain ⟨h0, rfl⟩ := adR_some hg
    obtain ⟨b, off, e, hb, _⟩ := h 0 h0
    cases e
    exact hb
/-- a row of integers that is owned, from block B on -/
def RO (B : Nat) (w : World) (u : Value) (x : List Int) : Prop := Own w B u x
theorem RO.good (B : Nat) : GoodR Value.ownBlock (RO B) :=
  ⟨fun w w' k u x hg hne h => World.ownsRow.kept h hg (by
    rcases e : u.ownBlock with _ | g
    · exact .inl rfl
    · exact .inr (fun e2 => hne g e e2.symm)), fun w u x g h hg => (World.ownsRow.lt h g hg).2⟩

theorem run_appV1 (t ts : TypeId) (hu : Try.prog.underlying ts = some (.slice t)) (hi : (Try.prog.info? t).map (fun i => (i.zero, i.size, i.bytes)) = some (some (.slice none 0 0), 1, 24)) (w : World) (ty : TypeId) (B : Nat) (v : Value) (vs : List Value) (hown : OwnV t w B v vs) (u : Value) (hu1 : u.oneCell' = true)
    (hl : vs.length + 1 ≤ 1099511627776) (hB : B ≤ w.heap.size) :
    ∃ v' w', (Builtin.append_ #[ts, ts] ty #[v, .slice (some ⟨w.heap.size, 0, none⟩) 1 1]).run Try.prog (w.alloc (.cells #[u] t)) = .ok v' w' ∧ OwnV t w' B v' (vs ++ [u]) ∧ w.grownBy w' v.ownBlock ∧ (v'.ownBlock = v.ownBlock ∨ ∃ g, v'.ownBlock = some g ∧ w.heap.size ≤ g) := by
  obtain ⟨i0, hi0, hz0, hz1, hz2⟩ := info_parts hi
  obtain ⟨v', w', hrun, h2, h3, _, h5⟩ := run_append_own_at (P := Try.prog) (w.alloc (.cells #[u] t)) B ts ty t i0 (.slice none 0 0) 1 24 hu hi0 hz0 hz1 hz2 rfl (by omega) v vs.length vs (hown.alloc _)
    ⟨w.heap.size, 0, none⟩ 1 1 [u] (by simp) (by
      intro j x hx
      match j with
      | 0 => simp at hx; subst hx; simp [Addr.add, go_sem]
      | j + 1 => simp at hx) (by intro x hx; simp at hx; rw [hx]; exact hu1) (by simp [maxLen]; omega) (by omega) (by simp; omega)
  refine ⟨v', w', hrun, ?_, ?_, ?_⟩
  · unfold OwnV
    rw [List.length_append]
    exact h2
  · exact ⟨h3.os, h3.tape, h3.output, Nat.le_trans (by simp) h3.size, fun k hk hne => (h3.block k (by simp; omega) hne).trans (Below.heap_alloc w _ k hk)⟩
  · rcases h5 with h5 | h5
    · exact .inl h5
    · exact .inr ⟨_, h5, by simp⟩
section
variable {α : Type} {ad : Value → Option Nat} {R : World → Value → α → Prop}
theorem ownR_app {t : TypeId} {w w' : World} {B : Nat} {v v' u : Value} {z : α} {vs : List Value} {L : List α} {S : List Value} (hG : GoodR ad R) (hvl : vs.length = L.length) (hvR : ∀ (i : Nat) (u : Value) (x : α), vs[i]? = some u → L[i]? = some x → R w u x) (hsp : ∀ (i : Nat) (u : Value), vs[i]? = some u → ∀ g, ad u = some g → v.ownBlock ≠ some g ∧ ∀ s ∈ S, s.ownBlock ≠ some g)
    (hz : R w u z) (hu : ∀ g, ad u = some g → v.ownBlock ≠ some g ∧ ∀ s ∈ S, s.ownBlock ≠ some g) (h2 : OwnV t w' B v' (vs ++ [u])) (h3 : w.grownBy w' v.ownBlock) (h4 : v'.ownBlock = v.ownBlock ∨ ∃ g, v'.ownBlock = some g ∧ w.heap.size ≤ g) : OwnR t ad R w' B v' (L ++ [z]) S := by
  have key : ∀ (i : Nat) (u' : Value) (x' : α), (vs ++ [u])[i]? = some u' → (L ++ [z])[i]? = some x' → R w u' x' ∧ ∀ g, ad u' = some g → v.ownBlock ≠ some g ∧ ∀ s ∈ S, s.ownBlock ≠ some g := by
    intro i u' x' h5 h6
    by_cases e : i < vs.length
    · rw [List.getElem?_append_left e] at h5
      rw [List.getElem?_append_left (by omega)] at h6
      exact ⟨hvR i u' x' h5 h6, hsp i u' h5⟩
    · rw [List.getElem?_append_right (by omega)] at h5 h6
      rw [← hvl] at h6
      cases hj : i - vs.length with
      | zero =>
        rw [hj] at h5 h6
        simp at h5 h6
        subst h5 h6
        exact ⟨hz, hu⟩
      | succ j => rw [hj] at h5; simp at h5
  refine ⟨vs ++ [u], by simp [hvl], h2, fun i u' x' h5 h6 => hG.keep _ _ _ _ _ h3 (fun g hg => ((key i u' x' h5 h6).2 g hg).1) (key i u' x' h5 h6).1, fun i u' h5 g hg => ?_⟩
  have hlt : i < (L ++ [z]).length := by have := (List.getElem?_eq_some_iff.1 h5).1; simp [hvl] at this ⊢; omega
  have hk := key i u' _ h5 (List.getElem?_eq_getElem hlt)
  refine ⟨fun e => ?_, (hk.2 g hg).2⟩
  rcases h4 with h4 | ⟨g', h4, h5'⟩
  · exact (hk.2 g hg).1 (by rw [← h4]; exact e)
  · rw [h4] at e
    cases e
    have := hG.low _ _ _ _ hk.1 hg
    omega
/-- out = append(out, x), x a slice that stands for z -/
theorem wpList_appR1 {ops : Array Oper} {rest : List Oper} {o : Oper} {a : Act} {Q : Exit → Act → World → Prop} (t ts : TypeId) (hu : Try.prog.underlying ts = some (.slice t)) (hi : (Try.prog.info? t).map (fun i => (i.zero, i.size, i.bytes)) = some (some (.slice none 0 0), 1, 24)) (hgd : o.guard = none) (s x : Operand)
    (ho : o.op = .call { callee := .builtin .append, args := #[s, x], argTypes := #[ts, ts] }) (w : World) (u : Value) (z : α) (hG : GoodR ad R) (hu1 : u.oneCell' = true) (hz : R w u z)
    (B : Nat) (v : Value) (L : List α) (S : List Value) (hs : a.eval s = v) (hown : OwnR t ad R w B v L S) (hsep : ∀ g, ad u = some g → v.ownBlock ≠ some g ∧ ∀ s ∈ S, s.ownBlock ≠ some g) (hx : a.eval x = .slice (some ⟨w.heap.size, 0, none⟩) 1 1)
    (hl : L.length + 1 ≤ 1099511627776) (hB : B ≤ w.heap.size)
    (h : ∀ v' w', OwnR t ad R w' B v' (L ++ [z]) S → w.grownBy w' v.ownBlock → (v'.ownBlock = v.ownBlock ∨ ∃ g, v'.ownBlock = some g ∧ w.heap.size ≤ g) → wpList Try.prog ops Q rest (a.put o.dst v') w') :
    wpList Try.prog ops Q (o :: rest) a (w.alloc (.cells #[u] t)) := by
  obtain ⟨vs, hvl, hvo, hvR, hsp⟩ := hown
  obtain ⟨v', w', hrun, h2, h3, h4⟩ := run_appV1 t ts hu hi w o.type B v vs hvo u hu1 (by omega) hB
  refine wpList_plain hgd fun _ hK => ?_
  unfold Oper.wp execOp
  simp only [ho, resolve, invoke, builtin, Sem.run_bind, Sem.run_pure, Result.andThen_ok, List.map_toArray, List.map_cons, List.map_nil, hs, hx, hrun]
  exact hK _ _ (h v' w' (ownR_app hG hvl hvR hsp hz hsep h2 h3 h4) h3 h4)
/-- .. at a step of a region that draws -/
theorem step_appR1 {ops : Array Oper} {o : Oper} {a : Act} {K : Act → World → Prop} {Q : Exit → Act → World → Prop} {E : Prop} (t ts : TypeId) (hu : Try.prog.underlying ts = some (.slice t)) (hi : (Try.prog.info? t).map (fun i => (i.zero, i.size, i.bytes)) = some (some (.slice none 0 0), 1, 24)) (hgd : o.guard = none) (s x : Operand)
    (ho : o.op = .call { callee := .builtin .append, args := #[s, x], argTypes := #[ts, ts] }) (w : World) (u : Value) (z : α) (hG : GoodR ad R) (hu1 : u.oneCell' = true) (hz : R w u z)
    (B : Nat) (v : Value) (L : List α) (S : List Value) (hs : a.eval s = v) (hown : OwnR t ad R w B v L S) (hsep : ∀ g, ad u = some g → v.ownBlock ≠ some g ∧ ∀ s ∈ S, s.ownBlock ≠ some g) (hx : a.eval x = .slice (some ⟨w.heap.size, 0, none⟩) 1 1)
    (hl : L.length + 1 ≤ 1099511627776) (hB : B ≤ w.heap.size)
    (h : ∀ v' w', OwnR t ad R w' B v' (L ++ [z]) S → w.grownBy w' v.ownBlock → (v'.ownBlock = v.ownBlock ∨ ∃ g, v'.ownBlock = some g ∧ w.heap.size ≤ g) → K (a.put o.dst v') w') :
    if Region.wanted o (yielded ops a.tmps) = true then Oper.wp Try.prog o a (w.alloc (.cells #[u] t)) K Q else E := by
  have hw : Region.wanted o (yielded ops a.tmps) = true := by simp [Region.wanted, hgd]
  rw [if_pos hw]
  obtain ⟨vs, hvl, hvo, hvR, hsp⟩ := hown
  obtain ⟨v', w', hrun, h2, h3, h4⟩ := run_appV1 t ts hu hi w o.type B v vs hvo u hu1 (by omega) hB
  unfold Oper.wp execOp
  simp only [ho, resolve, invoke, builtin, Sem.run_bind, Sem.run_pure, Result.andThen_ok, List.map_toArray, List.map_cons, List.map_nil, hs, hx, hrun]
  exact h v' w' (ownR_app hG hvl hvR hsp hz hsep h2 h3 h4) h3 h4
end
theorem below_R {α : Type} {t : TypeId} {ad : Value → Option Nat} {R : World → Value → α → Prop} {w w' : World} {B : Nat} {v : Value} {L : List α} {S : List Value} (h : OwnR t ad R w B v L S) (hB : B ≤ w.heap.size) (hg : w.grownBy w' v.ownBlock) : Below B w w' := by
  obtain ⟨vs, hl, hr, hR⟩ := h
  exact below_appR hr hB hg
end Go.Proofs.Ythajmffhgbenpaa

/- Contract: a number of the diagonal. -/
namespace Go.Proofs.Ythajmffhgbenpaa
set_option linter.unusedSimpArgs false
set_option linter.unusedVariables false
open Go.RowKit

section
set_option maxHeartbeats 4000000
set_option maxRecDepth 10000
theorem diag_c (R C : Nat) (A : Option Addr) (l : List Int) (n cap i : Nat) (w : World) (hn : l.length = n) (hlen : l.length = R * C) (hR : R ≤ 24) (hC : C ≤ 24) (hi : i < R) (hi2 : i < C) (ha : Rd w A l) :
    Calls Try.prog 32 #[.agg #[.int .i64 R, .int .i64 C, .slice A n cap], .int .i64 i] w fun e w' => e = .returned (.int .i64 (nth l (i * C + i))) ∧ Grows w w' := by
  have hRC : R * C ≤ 576 := Nat.mul_le_mul hR hC
  have hb : i * C ≤ 576 := by have := Nat.mul_le_mul_right C (Nat.le_of_lt hi); omega
  have CC := fun W h => at_c R C A l n cap i i W hn h (castMul i C) (by have := castMulLe hb; omega) (castPos i C i) (castLt (by rw [hlen]; exact idx_lt hi hi2)) (by omega)
  rw [castIdx] at CC
  have CC' := Lib.hid CC
  obtain ⟨w1, hw1⟩ : ∃ w1, w1 = w.alloc (.cells #[.int .i64 R, .int .i64 C, .slice A n cap] 26) := ⟨_, rfl⟩
  have mg : MBox w1 w.heap.size R C (.slice A n cap) := by rw [hw1]; exact MBox.mk_ _ _ _ _ _
  have HG : Grows w w1 := by rw [hw1]; exact bel0
  have HW1 := Lib.hid hw1
  have ha1 := ha.grows HG
  have i1 : (i : Int) < (R : Int) := by omega
  have i2 : (i : Int) < (C : Int) := by omega
  have i3 : ¬ (R : Int) ≤ (i : Int) := by omega
  have i4 : ¬ (C : Int) ≤ (i : Int) := by omega
  obtain ⟨b0, b1, b2⟩ := mg.cells
  clear CC hw1 hn hlen
  go_enter Try.func32, Try.ntmps32
  go_upto_region 1 with fail
  rw [← HW1.out]
  go_wp2_with fail
  refine (CC'.out _ ha1).mono ?_; rintro e w2 ⟨rfl, g2⟩
  go_wp2_with fail
  go_ret
  exact ⟨rfl, by exact bel2 g2 HG⟩
end
end Go.Proofs.Ythajmffhgbenpaa
