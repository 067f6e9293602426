/- Contracts: adjugates, determinants of matrices, roots. -/
import Derived.Test.YtpfijhcjempfjaaMX
import Derived.Test.YtpfijhcjempfjaaDef
import Derived.Test.YtpfijhcjempfjaaDetT
namespace Go.Proofs.Ytpfijhcjempfjaa
open Go.RowKit

/-! ### plain -/
/-- a cofactor, without its sign -/
def adjc (n : Nat) (l : List Int) (i j : Nat) : Option Int := detO (n - 1) (crs n l i j (n * n))
def sB (k : Nat) (d : Int) : Int := if k % 2 = 1 then mulB d (-1) else d
def adjF (n : Nat) (l : List Int) : Nat → Nat → Int := fun a b => sB (b + a) (oBad (adjc n l b a))
def adjB (n : Nat) (l : List Int) : List Int := tab n n (adjF n l)
theorem adjB_length (n : Nat) (l : List Int) : (adjB n l).length = n * n := tab_length _ _ _
theorem mulB_neg' {x : Int} (h : isNum x = true) : mulB x (-1) = -x := by
  rw [mulB_num h (by decide), show x * -1 = -x by omega]
  exact fit_yes (neg_num h)
theorem adjF_some {n : Nat} {l : List Int} {i j : Nat} {d : Int} (h : adjc n l i j = some d) : adjF n l j i = (if (i + j) % 2 = 1 then -d else d) := by
  unfold adjF sB
  rw [h]
  show (if (i + j) % 2 = 1 then mulB d (-1) else d) = _
  split
  · exact mulB_neg' (detO_num h)
  · rfl
theorem adjF_none {n : Nat} {l : List Int} {i j : Nat} (h : adjc n l i j = none) : adjF n l j i = bad := by
  unfold adjF sB
  rw [h]
  show (if (i + j) % 2 = 1 then mulB bad (-1) else bad) = _
  split
  · exact mulB_bad_left _
  · rfl
theorem adjB_none {n : Nat} {l : List Int} {i j : Nat} (hi : i < n) (hj : j < n) (h : adjc n l i j = none) : allNum (adjB n l) = false := by
  refine allNum_no (i := j * n + i) (by rw [adjB_length]; exact idx_lt hj hi) ?_
  unfold adjB
  rw [tab_nth _ hj hi, adjF_none h]
  exact bad_not
theorem adjB_all {n : Nat} {l : List Int} (h : ∀ i j, i < n → j < n → (adjc n l i j).isSome = true) : allNum (adjB n l) = true := (allNum_iff _).2 fun k hk => by
  rw [adjB_length] at hk
  obtain ⟨h1, h2, h3⟩ := idx_split hk
  rw [h3]
  unfold adjB
  rw [tab_nth _ h1 h2]
  obtain ⟨d, hd⟩ := Option.isSome_iff_exists.1 (h (k % n) (k / n) h2 h1)
  rw [adjF_some hd]
  have := detO_num hd
  split
  · exact neg_num this
  · exact this
def adjO (m : MX) : Option MX := if isSq m.r m.c m.l && allNum (adjB m.r.toNat m.l) then some ⟨m.r, m.r, adjB m.r.toNat m.l⟩ else none
theorem adjO_no {m : MX} (h : isSq m.r m.c m.l = false) : adjO m = none := by unfold adjO; rw [h]; rfl
theorem adjO_yes {R : Nat} {l : List Int} (h : isSq R R l = true) : adjO ⟨R, R, l⟩ = if allNum (adjB R l) then some ⟨R, R, adjB R l⟩ else none := by
  unfold adjO; simp only [h, Bool.true_and, Int.toNat_natCast]
theorem adjO_ok {m a : MX} (h : adjO m = some a) : a.ok = true := by
  unfold adjO at h
  split at h
  · rename_i hh
    rw [Bool.and_eq_true] at hh
    cases h
    obtain ⟨_, R, e1, e2, hR, _⟩ := isSq_nat hh.1
    unfold MX.ok
    simp only [e1, Int.toNat_natCast] at hh ⊢
    rw [isMat_made (by omega) (by omega) (adjB_length _ _)]
    exact hh.2
  · cases h
/-- the determinant of a matrix, where it is known -/
def dtO (m : MX) : Option Int := if isSq m.r m.c m.l then detO m.r.toNat m.l else none
theorem dtO_no {m : MX} (h : isSq m.r m.c m.l = false) : dtO m = none := by unfold dtO; rw [h]; rfl
theorem dtO_yes {R : Nat} {l : List Int} (h : isSq R R l = true) : dtO ⟨R, R, l⟩ = detO R l := by unfold dtO; simp only [h, Int.toNat_natCast]; rfl
theorem dtO_num {m : MX} {d : Int} (h : dtO m = some d) : isNum d = true := by
  unfold dtO at h
  split at h
  · exact detO_num h
  · cases h
theorem subm_self {R : Nat} {l : List Int} (h : l.length = R * R) : subm R R l = l := (tab_ext h fun _ _ _ _ => rfl).symm
theorem isDef_sq {r c : Int} {l : List Int} (h : isDef r c l = true) : isSq r c l = true := by
  unfold isDef at h
  simp only [Bool.and_eq_true] at h
  exact isGram_sq h.2
theorem isDef_minors {R : Nat} {l : List Int} (h : isDef R R l = true) : ∃ s, lmP R l R = some s ∧ ∀ k, k < R → 0 < nth s k := by
  have hq := isDef_sq h
  unfold isDef at h
  rw [lmO_yes hq] at h
  simp only [Bool.and_eq_true] at h
  obtain ⟨s, hs⟩ := Option.isSome_iff_exists.1 h.1.1
  refine ⟨s, hs, fun k hk => ?_⟩
  have h2 := h.1.2
  rw [hs] at h2
  exact (allPos_iff s).1 h2 k (by rw [lmP_length hs]; exact hk)
/-- a definite form has a positive determinant -/
theorem isDef_det {r c : Int} {l : List Int} (h : isDef r c l = true) : ∃ d, dtO ⟨r, c, l⟩ = some d ∧ 0 < d := by
  obtain ⟨_, R, rfl, rfl, hR, hlen, _⟩ := isSq_nat (isDef_sq h)
  rw [dtO_yes (isDef_sq h)]
  obtain ⟨s, hs, hp⟩ := isDef_minors h
  rcases Nat.eq_zero_or_pos R with e | e
  · subst e; exact ⟨1, rfl, by decide⟩
  · have := lmP_get hs (k := R - 1) (by omega)
    rw [show R - 1 + 1 = R by omega, subm_self hlen] at this
    exact ⟨_, this, hp _ (by omega)⟩

/-- the root of a number, rounded down -/
def rootN : Nat → Nat
  | 0 => 0
  | n + 1 => if (rootN n + 1) * (rootN n + 1) ≤ n + 1 then rootN n + 1 else rootN n
theorem rootN_spec (n : Nat) : rootN n * rootN n ≤ n ∧ n < (rootN n + 1) * (rootN n + 1) := by
  induction n with
  | zero => simp [rootN]
  | succ n ih =>
    rw [rootN]
    split
    · rename_i h
      refine ⟨h, ?_⟩
      have e : (rootN n + 1 + 1) * (rootN n + 1 + 1) = (rootN n + 1) * (rootN n + 1) + 2 * (rootN n + 1) + 1 := by grind
      omega
    · omega
theorem rootN_uniq {n k : Nat} (h1 : k * k ≤ n) (h2 : n < (k + 1) * (k + 1)) : k = rootN n := by
  obtain ⟨h3, h4⟩ := rootN_spec n
  rcases Nat.lt_trichotomy k (rootN n) with h | h | h
  · have := Nat.mul_le_mul (show k + 1 ≤ rootN n by omega) (show k + 1 ≤ rootN n by omega); omega
  · exact h
  · have := Nat.mul_le_mul (show rootN n + 1 ≤ k by omega) (show rootN n + 1 ≤ k by omega); omega
def rootI (n : Int) : Int := (rootN n.toNat : Int)
theorem sq_bd {k : Nat} (h : k * k ≤ 400000000) : k ≤ 20000 := by
  rcases Nat.lt_or_ge 20000 k with h1 | h1
  · have := Nat.mul_le_mul (show 20001 ≤ k by omega) (show 20001 ≤ k by omega); omega
  · exact h1

section
set_option maxHeartbeats 1000000
theorem rootOf_c (n : Int) (w : World) (h1 : n ≤ 400000000) (h2 : -9223372036854775808 ≤ n) :
    Calls Try.prog 80 #[.int .i64 n] w fun e w' => e = .returned (.int .i64 (rootI n)) ∧ w = w' := by
  go_enter Try.func80, Try.ntmps80
  go_wp2_with fail
  go_loop [3] (fun r => ∃ K : Nat, r = .int .i64 K ∧ K * K ≤ n.toNat) (fun r => 20001 - (intOf r).toNat)
  case atStart => exact ⟨0, rfl, by omega⟩
  case round =>
    obtain ⟨K, rfl, hK⟩ := hrel
    have hb := sq_bd (k := K) (by omega)
    have e1 : ((K : Int) + 1) * ((K : Int) + 1) = (((K + 1) * (K + 1) : Nat) : Int) := by rw [Int.natCast_mul, Int.natCast_add]; rfl
    have e2 := Nat.mul_le_mul (show K + 1 ≤ 20001 by omega) (show K + 1 ≤ 20001 by omega)
    have e3 : 0 ≤ ((K : Int) + 1) * ((K : Int) + 1) := by omega
    have e4 : ((K : Int) + 1) * ((K : Int) + 1) ≤ 400040001 := by omega
    have HK := Lib.hid hK
    have E1 := Lib.hid e1
    clear hK e1
    by_cases hlt : ((K : Int) + 1) * ((K : Int) + 1) ≤ n
    · have HLT := Lib.hid hlt
      go_wp2_with fail
      go_round
      case rel => exact ⟨K + 1, by go_num, by have := E1.out; have := HLT.out; omega⟩
      case measure => simp [intOf]; omega
    · have HLT := Lib.hid hlt
      go_wp2_with fail
      go_ret
      refine ⟨ret_int ?_, rfl⟩
      unfold rootI
      have := rootN_uniq HK.out (show n.toNat < (K + 1) * (K + 1) by have := E1.out; have := HLT.out; have := Nat.mul_pos (show 0 < K + 1 by omega) (show 0 < K + 1 by omega); omega)
      rw [← this]
theorem l20Root_c (n : Int) (w : World) (h1 : n ≤ 400000000) (h2 : -9223372036854775808 ≤ n) :
    Calls Try.prog 75 #[.int .i64 n] w fun e w' => e = .returned (.int .i64 (rootI n)) ∧ w = w' := by
  go_enter Try.func75, Try.ntmps75
  go_wp2_with fail
  go_loop [3] (fun r => ∃ K : Nat, r = .int .i64 K ∧ K * K ≤ n.toNat) (fun r => 20001 - (intOf r).toNat)
  case atStart => exact ⟨0, rfl, by omega⟩
  case round =>
    obtain ⟨K, rfl, hK⟩ := hrel
    have hb := sq_bd (k := K) (by omega)
    have e1 : ((K : Int) + 1) * ((K : Int) + 1) = (((K + 1) * (K + 1) : Nat) : Int) := by rw [Int.natCast_mul, Int.natCast_add]; rfl
    have e2 := Nat.mul_le_mul (show K + 1 ≤ 20001 by omega) (show K + 1 ≤ 20001 by omega)
    have e3 : 0 ≤ ((K : Int) + 1) * ((K : Int) + 1) := by omega
    have e4 : ((K : Int) + 1) * ((K : Int) + 1) ≤ 400040001 := by omega
    have HK := Lib.hid hK
    have E1 := Lib.hid e1
    clear hK e1
    by_cases hlt : ((K : Int) + 1) * ((K : Int) + 1) ≤ n
    · have HLT := Lib.hid hlt
      go_wp2_with fail
      go_round
      case rel => exact ⟨K + 1, by go_num, by have := E1.out; have := HLT.out; omega⟩
      case measure => simp [intOf]; omega
    · have HLT := Lib.hid hlt
      go_wp2_with fail
      go_ret
      refine ⟨ret_int ?_, rfl⟩
      unfold rootI
      have := rootN_uniq HK.out (show n.toNat < (K + 1) * (K + 1) by have := E1.out; have := HLT.out; have := Nat.mul_pos (show 0 < K + 1 by omega) (show 0 < K + 1 by omega); omega)
      rw [← this]

theorem iDt_c (r c : Int) (A : Option Addr) (l : List Int) (n cap : Nat) (w : World) (hn : l.length = n) (ha : Rd w A l) (hl : n ≤ 1099511627776) :
    Calls Try.prog 77 #[.agg #[.int .i64 r, .int .i64 c, .slice A n cap]] w fun e w' => e = .returned (.tuple #[.int .i64 ((dtO ⟨r, c, l⟩).getD 0), .bool (dtO ⟨r, c, l⟩).isSome]) ∧ Grows w w' := by
  have HS := fun w h => iIsSquare_c r c A l n cap w hn h hl
  cases hq : isSq r c l
  · rw [dtO_no hq]
    rw [hq] at HS
    have HS' := Lib.hid HS
    clear HS hq hn
    go_enter Try.func77, Try.ntmps77
    go_wp2_with fail
    refine (HS'.out _ (by exact (Rd.grows ha (by ((repeat' (first | with_reducible exact Below.refl _ _ | with_reducible assumption | (with_reducible refine Below.setCell ?_ ?_ _) | (with_reducible refine Below.alloc ?_ ?_ _) | (with_reducible refine Below.drew ?_) | (with_reducible refine below_drewN ?_ _))); all_goals (first | omega | (simp; done) | (simp; omega) | (simp [*]; done) | (simp at *; omega))))))).mono ?_; rintro e w1 ⟨rfl, g1⟩
    go_wp2_with fail
    go_ret2
    exact ⟨rfl, by (have bz0 := Below.size (g1); (try simp at bz0); (repeat' (first | with_reducible exact Below.refl _ _ | with_reducible assumption | (with_reducible refine Below.setCell ?_ ?_ _) | (with_reducible refine Below.alloc ?_ ?_ _) | (with_reducible refine Below.drew ?_) | (with_reducible refine below_drewN ?_ _) | (with_reducible refine Below.trans ?_ (Below.mono (g1) ?_)))); all_goals (first | omega | (simp; done) | (simp; omega) | (simp [*]; done) | (simp at *; omega)))⟩
  · obtain ⟨_, R, rfl, rfl, hR, hlen, hnum⟩ := isSq_nat hq
    rw [dtO_yes hq]
    rw [hq] at HS
    have HS' := Lib.hid HS
    have CD := Lib.hid fun W h => iDet_c R (by omega) l A n cap R W rfl hn (by omega) hnum h
    clear HS hq hn hlen hnum
    generalize detO R l = D at *
    go_enter Try.func77, Try.ntmps77
    go_wp2_with fail
    refine (HS'.out _ (by exact (Rd.grows ha (by ((repeat' (first | with_reducible exact Below.refl _ _ | with_reducible assumption | (with_reducible refine Below.setCell ?_ ?_ _) | (with_reducible refine Below.alloc ?_ ?_ _) | (with_reducible refine Below.drew ?_) | (with_reducible refine below_drewN ?_ _))); all_goals (first | omega | (simp; done) | (simp; omega) | (simp [*]; done) | (simp at *; omega))))))).mono ?_; rintro e w1 ⟨rfl, g1⟩
    have mb := (MBox.mk_ w R R (.slice A n cap) 26).grows (w' := w1) (by (have bz0 := Below.size (g1); (try simp at bz0); (repeat' (first | with_reducible exact Below.refl _ _ | with_reducible assumption | (with_reducible refine Below.setCell ?_ ?_ _) | (with_reducible refine Below.alloc ?_ ?_ _) | (with_reducible refine Below.drew ?_) | (with_reducible refine below_drewN ?_ _) | (with_reducible refine Below.trans ?_ (Below.mono (g1) ?_)))); all_goals (first | omega | (simp; done) | (simp; omega) | (simp [*]; done) | (simp at *; omega))))
    obtain ⟨b0, b1, b2⟩ := mb.cells
    go_wp2_with fail
    refine (CD.out _ (by exact (Rd.grows ha (by (have bz0 := Below.size (g1); (try simp at bz0); (repeat' (first | with_reducible exact Below.refl _ _ | with_reducible assumption | (with_reducible refine Below.setCell ?_ ?_ _) | (with_reducible refine Below.alloc ?_ ?_ _) | (with_reducible refine Below.drew ?_) | (with_reducible refine below_drewN ?_ _) | (with_reducible refine Below.trans ?_ (Below.mono (g1) ?_)))); all_goals (first | omega | (simp; done) | (simp; omega) | (simp [*]; done) | (simp at *; omega))))))).mono ?_; rintro e w2 ⟨⟨x, rfl, hx⟩, g2⟩
    cases D with
    | none =>
      clear hx
      go_wp2_with fail
      go_ret2
      exact ⟨rfl, by (have bz0 := Below.size (g2); (try simp at bz0); have bz1 := Below.size (g1); (try simp at bz1); (repeat' (first | with_reducible exact Below.refl _ _ | with_reducible assumption | (with_reducible refine Below.setCell ?_ ?_ _) | (with_reducible refine Below.alloc ?_ ?_ _) | (with_reducible refine Below.drew ?_) | (with_reducible refine below_drewN ?_ _) | (with_reducible refine Below.trans ?_ (Below.mono (g2) ?_)) | (with_reducible refine Below.trans ?_ (Below.mono (g1) ?_)))); all_goals (first | omega | (simp; done) | (simp; omega) | (simp [*]; done) | (simp at *; omega)))⟩
    | some d =>
      obtain rfl : x = d := hx d rfl
      clear hx
      go_wp2_with fail
      go_ret2
      exact ⟨rfl, by (have bz0 := Below.size (g2); (try simp at bz0); have bz1 := Below.size (g1); (try simp at bz1); (repeat' (first | with_reducible exact Below.refl _ _ | with_reducible assumption | (with_reducible refine Below.setCell ?_ ?_ _) | (with_reducible refine Below.alloc ?_ ?_ _) | (with_reducible refine Below.drew ?_) | (with_reducible refine below_drewN ?_ _) | (with_reducible refine Below.trans ?_ (Below.mono (g2) ?_)) | (with_reducible refine Below.trans ?_ (Below.mono (g1) ?_)))); all_goals (first | omega | (simp; done) | (simp; omega) | (simp [*]; done) | (simp at *; omega)))⟩
theorem sDt_c (r c : Int) (A : Option Addr) (l : List Int) (n cap : Nat) (w : World) (hn : l.length = n) (ha : Rd w A l) (hl : n ≤ 1099511627776) :
    Calls Try.prog 72 #[.agg #[.int .i64 r, .int .i64 c, .slice A n cap]] w fun e w' => e = .returned (.tuple #[.int .i64 ((dtO ⟨r, c, l⟩).getD 0), .bool (dtO ⟨r, c, l⟩).isSome]) ∧ Grows w w' := by
  have HS := fun w h => sIsSquare_c r c A l n cap w hn h hl
  cases hq : isSq r c l
  · rw [dtO_no hq]
    rw [hq] at HS
    have HS' := Lib.hid HS
    clear HS hq hn
    go_enter Try.func72, Try.ntmps72
    go_wp2_with fail
    refine (HS'.out _ (by exact (Rd.grows ha (by ((repeat' (first | with_reducible exact Below.refl _ _ | with_reducible assumption | (with_reducible refine Below.setCell ?_ ?_ _) | (with_reducible refine Below.alloc ?_ ?_ _) | (with_reducible refine Below.drew ?_) | (with_reducible refine below_drewN ?_ _))); all_goals (first | omega | (simp; done) | (simp; omega) | (simp [*]; done) | (simp at *; omega))))))).mono ?_; rintro e w1 ⟨rfl, g1⟩
    go_wp2_with fail
    go_ret2
    exact ⟨rfl, by (have bz0 := Below.size (g1); (try simp at bz0); (repeat' (first | with_reducible exact Below.refl _ _ | with_reducible assumption | (with_reducible refine Below.setCell ?_ ?_ _) | (with_reducible refine Below.alloc ?_ ?_ _) | (with_reducible refine Below.drew ?_) | (with_reducible refine below_drewN ?_ _) | (with_reducible refine Below.trans ?_ (Below.mono (g1) ?_)))); all_goals (first | omega | (simp; done) | (simp; omega) | (simp [*]; done) | (simp at *; omega)))⟩
  · obtain ⟨_, R, rfl, rfl, hR, hlen, hnum⟩ := isSq_nat hq
    rw [dtO_yes hq]
    rw [hq] at HS
    have HS' := Lib.hid HS
    have CD := fun W h => sDet_c R (by omega) l A n cap R W rfl hn (by omega) hnum h
    have ND := Lib.hid fun d h => detO_num (n := R) (l := l) (d := d) h
    clear HS hq hn hlen hnum
    generalize detO R l = D at *
    cases D with
    | none =>
      rw [show oBad none = -4611686018427387904 from rfl] at CD
      have CD' := Lib.hid CD
      clear CD
      go_enter Try.func72, Try.ntmps72
      go_wp2_with fail
      refine (HS'.out _ (by exact (Rd.grows ha (by ((repeat' (first | with_reducible exact Below.refl _ _ | with_reducible assumption | (with_reducible refine Below.setCell ?_ ?_ _) | (with_reducible refine Below.alloc ?_ ?_ _) | (with_reducible refine Below.drew ?_) | (with_reducible refine below_drewN ?_ _))); all_goals (first | omega | (simp; done) | (simp; omega) | (simp [*]; done) | (simp at *; omega))))))).mono ?_; rintro e w1 ⟨rfl, g1⟩
      have mb := (MBox.mk_ w R R (.slice A n cap) 26).grows (w' := w1) (by (have bz0 := Below.size (g1); (try simp at bz0); (repeat' (first | with_reducible exact Below.refl _ _ | with_reducible assumption | (with_reducible refine Below.setCell ?_ ?_ _) | (with_reducible refine Below.alloc ?_ ?_ _) | (with_reducible refine Below.drew ?_) | (with_reducible refine below_drewN ?_ _) | (with_reducible refine Below.trans ?_ (Below.mono (g1) ?_)))); all_goals (first | omega | (simp; done) | (simp; omega) | (simp [*]; done) | (simp at *; omega))))
      obtain ⟨b0, b1, b2⟩ := mb.cells
      go_wp2_with fail
      refine (CD'.out _ (by exact (Rd.grows ha (by (have bz0 := Below.size (g1); (try simp at bz0); (repeat' (first | with_reducible exact Below.refl _ _ | with_reducible assumption | (with_reducible refine Below.setCell ?_ ?_ _) | (with_reducible refine Below.alloc ?_ ?_ _) | (with_reducible refine Below.drew ?_) | (with_reducible refine below_drewN ?_ _) | (with_reducible refine Below.trans ?_ (Below.mono (g1) ?_)))); all_goals (first | omega | (simp; done) | (simp; omega) | (simp [*]; done) | (simp at *; omega))))))).mono ?_; rintro e w2 ⟨rfl, g2⟩
      go_wp2_with fail
      go_ret2
      exact ⟨rfl, by (have bz0 := Below.size (g2); (try simp at bz0); have bz1 := Below.size (g1); (try simp at bz1); (repeat' (first | with_reducible exact Below.refl _ _ | with_reducible assumption | (with_reducible refine Below.setCell ?_ ?_ _) | (with_reducible refine Below.alloc ?_ ?_ _) | (with_reducible refine Below.drew ?_) | (with_reducible refine below_drewN ?_ _) | (with_reducible refine Below.trans ?_ (Below.mono (g2) ?_)) | (with_reducible refine Below.trans ?_ (Below.mono (g1) ?_)))); all_goals (first | omega | (simp; done) | (simp; omega) | (simp [*]; done) | (simp at *; omega)))⟩
    | some d =>
      rw [show oBad (some d) = d from rfl] at CD
      have CD' := Lib.hid CD
      have hd4 := (isNum_iff _).1 (ND.out d rfl)
      have hdb : (d == -4611686018427387904) = false := by rw [beq_eq_false_iff_ne]; omega
      clear CD
      go_enter Try.func72, Try.ntmps72
      go_wp2_with fail
      refine (HS'.out _ (by exact (Rd.grows ha (by ((repeat' (first | with_reducible exact Below.refl _ _ | with_reducible assumption | (with_reducible refine Below.setCell ?_ ?_ _) | (with_reducible refine Below.alloc ?_ ?_ _) | (with_reducible refine Below.drew ?_) | (with_reducible refine below_drewN ?_ _))); all_goals (first | omega | (simp; done) | (simp; omega) | (simp [*]; done) | (simp at *; omega))))))).mono ?_; rintro e w1 ⟨rfl, g1⟩
      have mb := (MBox.mk_ w R R (.slice A n cap) 26).grows (w' := w1) (by (have bz0 := Below.size (g1); (try simp at bz0); (repeat' (first | with_reducible exact Below.refl _ _ | with_reducible assumption | (with_reducible refine Below.setCell ?_ ?_ _) | (with_reducible refine Below.alloc ?_ ?_ _) | (with_reducible refine Below.drew ?_) | (with_reducible refine below_drewN ?_ _) | (with_reducible refine Below.trans ?_ (Below.mono (g1) ?_)))); all_goals (first | omega | (simp; done) | (simp; omega) | (simp [*]; done) | (simp at *; omega))))
      obtain ⟨b0, b1, b2⟩ := mb.cells
      go_wp2_with fail
      refine (CD'.out _ (by exact (Rd.grows ha (by (have bz0 := Below.size (g1); (try simp at bz0); (repeat' (first | with_reducible exact Below.refl _ _ | with_reducible assumption | (with_reducible refine Below.setCell ?_ ?_ _) | (with_reducible refine Below.alloc ?_ ?_ _) | (with_reducible refine Below.drew ?_) | (with_reducible refine below_drewN ?_ _) | (with_reducible refine Below.trans ?_ (Below.mono (g1) ?_)))); all_goals (first | omega | (simp; done) | (simp; omega) | (simp [*]; done) | (simp at *; omega))))))).mono ?_; rintro e w2 ⟨rfl, g2⟩
      go_wp2_with fail
      go_ret2
      exact ⟨rfl, by (have bz0 := Below.size (g2); (try simp at bz0); have bz1 := Below.size (g1); (try simp at bz1); (repeat' (first | with_reducible exact Below.refl _ _ | with_reducible assumption | (with_reducible refine Below.setCell ?_ ?_ _) | (with_reducible refine Below.alloc ?_ ?_ _) | (with_reducible refine Below.drew ?_) | (with_reducible refine below_drewN ?_ _) | (with_reducible refine Below.trans ?_ (Below.mono (g2) ?_)) | (with_reducible refine Below.trans ?_ (Below.mono (g1) ?_)))); all_goals (first | omega | (simp; done) | (simp; omega) | (simp [*]; done) | (simp at *; omega)))⟩

theorem iAdj_c (r c : Int) (A : Option Addr) (l : List Int) (n cap : Nat) (w : World) (hn : l.length = n) (ha : Rd w A l) (hl : n ≤ 1099511627776) :
    Calls Try.prog 76 #[.agg #[.int .i64 r, .int .i64 c, .slice A n cap]] w (MatRet (adjO ⟨r, c, l⟩) w) := by
  have HS := fun w h => iIsSquare_c r c A l n cap w hn h hl
  obtain ⟨w1, hw1, mg, mr, hs1, g01⟩ := one_mat w r c (.slice A n cap)
  have HW1 := Lib.hid hw1
  have HS1 := Lib.hid hs1
  clear hw1 hs1
  cases hq : isSq r c l
  · rw [adjO_no hq]
    rw [hq] at HS
    have HS' := Lib.hid HS
    clear HS hq hn
    go_enter Try.func76, Try.ntmps76
    go_wp2_with fail
    refine (HS'.out _ (by exact (Rd.grows ha (by ((repeat' (first | with_reducible exact Below.refl _ _ | with_reducible assumption | (with_reducible refine Below.setCell ?_ ?_ _) | (with_reducible refine Below.alloc ?_ ?_ _) | (with_reducible refine Below.drew ?_) | (with_reducible refine below_drewN ?_ _))); all_goals (first | omega | (simp; done) | (simp; omega) | (simp [*]; done) | (simp at *; omega))))))).mono ?_; rintro e w2 ⟨rfl, g2⟩
    rw [← HW1.out] at g2
    (have zr := MBox.grows mr (w' := w2) (by (have bz0 := Below.size (g2); (try simp at bz0); (repeat' (first | with_reducible exact Below.refl _ _ | with_reducible assumption | (with_reducible refine Below.setCell ?_ ?_ _) | (with_reducible refine Below.alloc ?_ ?_ _) | (with_reducible refine Below.drew ?_) | (with_reducible refine below_drewN ?_ _) | (with_reducible refine Below.trans ?_ (Below.mono (g2) ?_)))); all_goals (first | omega | (simp; done) | (simp; omega) | (simp [*]; done) | (simp at *; omega)))); obtain ⟨zr0, zr1, zr2⟩ := zr.cells; have zrf := zr.fz; have zrl := zr.lt; go_wp2_with fail; refine bodyPost_ret (v := .tuple #[.agg #[.int .i64 0, .int .i64 0, .slice none 0 0], .bool false]) ?_ rfl ?_; (simp [results, Try.results76, go_sem, zr0, zr1, zr2, zrf, zrl]); exact ⟨_, rfl, Own.nil _ _, by (have bz0 := Below.size (g2); (try simp at bz0); have bz1 := Below.size (g01); (try simp at bz1); (repeat' (first | with_reducible exact Below.refl _ _ | with_reducible assumption | (with_reducible refine Below.setCell ?_ ?_ _) | (with_reducible refine Below.alloc ?_ ?_ _) | (with_reducible refine Below.drew ?_) | (with_reducible refine below_drewN ?_ _) | (with_reducible refine Below.trans ?_ (Below.mono (g2) ?_)) | (with_reducible refine Below.trans ?_ (Below.mono (g01) ?_)))); all_goals (first | omega | (simp; done) | (simp; omega) | (simp [*]; done) | (simp at *; omega)))⟩)
  · obtain ⟨_, R, rfl, rfl, hR, hlen, hnum⟩ := isSq_nat hq
    obtain ⟨RES, hRES⟩ : ∃ x, x = adjO ⟨R, R, l⟩ := ⟨_, rfl⟩
    rw [← hRES]
    rw [adjO_yes hq] at hRES
    rw [hq] at HS
    have HS' := Lib.hid HS
    have HN := Lib.hid hn
    have HLN := Lib.hid hlen
    have HNU := Lib.hid hnum
    have HR := Lib.hid hRES
    have hRR : R * R ≤ 36 := Nat.mul_le_mul hR hR
    have CN := Lib.hid fun W => newMatrix_c R R W (by omega)
    have ha1 : Rd w1 A l := ha.grows g01
    clear HS hq hn hlen hnum hRES
    go_enter Try.func76, Try.ntmps76
    go_wp2_with fail
    refine (HS'.out _ (by exact (Rd.grows ha (by ((repeat' (first | with_reducible exact Below.refl _ _ | with_reducible assumption | (with_reducible refine Below.setCell ?_ ?_ _) | (with_reducible refine Below.alloc ?_ ?_ _) | (with_reducible refine Below.drew ?_) | (with_reducible refine below_drewN ?_ _))); all_goals (first | omega | (simp; done) | (simp; omega) | (simp [*]; done) | (simp at *; omega))))))).mono ?_; rintro e w2 ⟨rfl, g2⟩
    rw [← HW1.out] at g2
    obtain ⟨b0, b1, b2⟩ := (mg.grows g2).cells
    go_wp2_with fail
    refine (CN.out _).mono ?_; rintro e w3 ⟨g, rfl, ho3, g3⟩
    have hs2 := Below.size g2
    have hs3 := Below.size g3
    have hgl := ho3.lt
    clear b0 b1 b2
    go_wp2_with fail
    go_loopw [5] (fun i wr => ∃ (I : Nat) (m : List Int), i = .int .i64 I ∧ I ≤ R ∧ m.length = R * R ∧ UptoC R R (adjF R l) I 0 m ∧ (∀ i j, i < I → j < R → (adjc R l i j).isSome = true) ∧ Own wr w1.heap.size (.slice (some ⟨g, 0, none⟩) (R * R) (R * R)) m ∧ Grows w1 wr ∧ MBox wr w3.heap.size R R (.slice (some ⟨g, 0, none⟩) (R * R) (R * R))) (fun i _ => R - (intOf i).toNat)
    case atStart => exact ⟨0, _, rfl, Nat.zero_le _, by simp, UptoC.zero _ _ _ _, fun i j hi => by omega, (ho3.less (by omega)).alloc _, by (have bz0 := Below.size (g3); (try simp at bz0); have bz1 := Below.size (g2); (try simp at bz1); (repeat' (first | with_reducible exact Below.refl _ _ | with_reducible assumption | (with_reducible refine Below.setCell ?_ ?_ _) | (with_reducible refine Below.alloc ?_ ?_ _) | (with_reducible refine Below.drew ?_) | (with_reducible refine below_drewN ?_ _) | (with_reducible refine Below.trans ?_ (Below.mono (g3) ?_)) | (with_reducible refine Below.trans ?_ (Below.mono (g2) ?_)))); all_goals (first | omega | (simp; done) | (simp; omega) | (simp [*]; done) | (simp at *; omega))), MBox.new_ _ _ _ _ _ rfl⟩
    case round =>
      clear ho3
      obtain ⟨I, m, rfl, hI, hm, hU, hsome, ho, hg, mm⟩ := hrel
      have HM := Lib.hid hm
      have HU := Lib.hid hU
      have HSO := Lib.hid hsome
      clear hm hU hsome
      obtain ⟨b0, b1, b2⟩ := (mg.grows hg).cells
      by_cases hlt : I < R
      · go_wp2_with fail
        clear b0 b1 b2
        obtain ⟨wo, rfl⟩ : ∃ wo : World, wo = wr := ⟨_, rfl⟩
        go_loopw [6] (fun j wr => ∃ (J : Nat) (m : List Int), j = .int .i64 J ∧ J ≤ R ∧ m.length = R * R ∧ UptoC R R (adjF R l) I J m ∧ (∀ j, j < J → (adjc R l I j).isSome = true) ∧ Own wr w1.heap.size (.slice (some ⟨g, 0, none⟩) (R * R) (R * R)) m ∧ Grows w1 wr ∧ MBox wr w3.heap.size R R (.slice (some ⟨g, 0, none⟩) (R * R) (R * R))) (fun j _ => R - (intOf j).toNat)
        case atStart => exact ⟨0, m, rfl, Nat.zero_le _, HM.out, HU.out, fun j hj => by omega, ho, hg, mm⟩
        case round =>
          clear HU HM ho hg mm m
          obtain ⟨J, m, rfl, hJ, hm, hU, hsome, ho, hg, mm⟩ := hrel
          have HM := Lib.hid hm
          have HU := Lib.hid hU
          have HSI := Lib.hid hsome
          clear hm hU hsome
          obtain ⟨b0, b1, b2⟩ := (mg.grows hg).cells
          by_cases hlt2 : J < R
          · have hd := ha1.grows hg
            have CC := Lib.hid fun W (hrd : Rd W A l) => iCross_c R R A l n cap I J I J W HN.out rfl rfl (by have := HLN.out; have := HN.out; omega) (by omega) (by omega) hrd
            have cl : (crs R l I J (R * R)).length = (R - 1) * (R - 1) := crs_length_eq hlt hlt2
            have cn := crs_num (C := R) (l := l) (ri := I) (ci := J) (k := R * R) (by rw [HLN.out]; exact Nat.le_refl _) HNU.out
            have II := Lib.hid fun W A' c' (hrd : Rd W A' (crs R l I J (R * R))) => iDet_c (R - 1) (by omega) (crs R l I J (R * R)) A' _ c' ((R : Int) - 1) W (by omega) rfl cl cn hrd
            have F0 := Lib.hid fun (h : adjc R l I J = none) => adjB_none hlt hlt2 h
            have F1 := Lib.hid fun d (h : adjc R l I J = some d) => adjF_some h
            have F2 := Lib.hid fun d (h : adjc R l I J = some d) => detO_num h
            have F3 := Lib.hid (UptoC.set (f := adjF R l) (R := R) (C := R) HU.out HM.out hlt2 hlt)
            generalize hD : adjc R l I J = D at *
            rw [show detO (R - 1) (crs R l I J (R * R)) = D from hD] at II
            have HD := Lib.hid hD
            clear cl cn hD
            generalize crs R l I J (R * R) = t at *
            go_wp2_with fail
            refine (CC.out _ (by exact (Rd.grows hd (by ((repeat' (first | with_reducible exact Below.refl _ _ | with_reducible assumption | (with_reducible refine Below.setCell ?_ ?_ _) | (with_reducible refine Below.alloc ?_ ?_ _) | (with_reducible refine Below.drew ?_) | (with_reducible refine below_drewN ?_ _))); all_goals (first | omega | (simp; done) | (simp; omega) | (simp [*]; done) | (simp at *; omega))))))).mono ?_; rintro e w5 ⟨v5, rfl, ho5, g5⟩
            obtain ⟨A5, c5, rfl, hr5, _⟩ := ho5.val
            go_wp2_with fail
            refine (II.out _ _ _ (by exact (Rd.grows hr5 (by ((repeat' (first | with_reducible exact Below.refl _ _ | with_reducible assumption | (with_reducible refine Below.setCell ?_ ?_ _) | (with_reducible refine Below.alloc ?_ ?_ _) | (with_reducible refine Below.drew ?_) | (with_reducible refine below_drewN ?_ _))); all_goals (first | omega | (simp; done) | (simp; omega) | (simp [*]; done) | (simp at *; omega))))))).mono ?_; rintro e w6 ⟨⟨x, rfl, hx⟩, g6⟩
            clear b0 b1 b2 ho5
            cases D with
            | none =>
              obtain rfl : RES = none := by have := HR.out; rw [F0.out rfl] at this; exact this
              clear hx
              have g16 : Grows w1 w6 := by (have bz0 := Below.size (g6); (try simp at bz0); have bz1 := Below.size (g5); (try simp at bz1); have bz2 := Below.size (hg); (try simp at bz2); (repeat' (first | with_reducible exact Below.refl _ _ | with_reducible assumption | (with_reducible refine Below.setCell ?_ ?_ _) | (with_reducible refine Below.alloc ?_ ?_ _) | (with_reducible refine Below.drew ?_) | (with_reducible refine below_drewN ?_ _) | (with_reducible refine Below.trans ?_ (Below.mono (g6) ?_)) | (with_reducible refine Below.trans ?_ (Below.mono (g5) ?_)) | (with_reducible refine Below.trans ?_ (Below.mono (hg) ?_)))); all_goals (first | omega | (simp; done) | (simp; omega) | (simp [*]; done) | (simp at *; omega)))
              (have zr := MBox.grows mr (w' := w6) (by (have bz0 := Below.size (g16); (try simp at bz0); (repeat' (first | with_reducible exact Below.refl _ _ | with_reducible assumption | (with_reducible refine Below.setCell ?_ ?_ _) | (with_reducible refine Below.alloc ?_ ?_ _) | (with_reducible refine Below.drew ?_) | (with_reducible refine below_drewN ?_ _) | (with_reducible refine Below.trans ?_ (Below.mono (g16) ?_)))); all_goals (first | omega | (simp; done) | (simp; omega) | (simp [*]; done) | (simp at *; omega)))); obtain ⟨zr0, zr1, zr2⟩ := zr.cells; have zrf := zr.fz; have zrl := zr.lt; go_wp2_with fail; refine bodyPost_ret (v := .tuple #[.agg #[.int .i64 0, .int .i64 0, .slice none 0 0], .bool false]) ?_ rfl ?_; (simp [results, Try.results76, go_sem, zr0, zr1, zr2, zrf, zrl]); exact ⟨_, rfl, Own.nil _ _, by (have bz0 := Below.size (g16); (try simp at bz0); have bz1 := Below.size (g01); (try simp at bz1); (repeat' (first | with_reducible exact Below.refl _ _ | with_reducible assumption | (with_reducible refine Below.setCell ?_ ?_ _) | (with_reducible refine Below.alloc ?_ ?_ _) | (with_reducible refine Below.drew ?_) | (with_reducible refine below_drewN ?_ _) | (with_reducible refine Below.trans ?_ (Below.mono (g16) ?_)) | (with_reducible refine Below.trans ?_ (Below.mono (g01) ?_)))); all_goals (first | omega | (simp; done) | (simp; omega) | (simp [*]; done) | (simp at *; omega)))⟩)
            | some d =>
              obtain rfl : x = d := hx d rfl
              have hxd := (isNum_iff _).1 (F2.out x rfl)
              have ho6 := (ho.grows g5).grows g6
              have mm6 := (mm.grows g5).grows g6
              have g16 : Grows w1 w6 := by (have bz0 := Below.size (g6); (try simp at bz0); have bz1 := Below.size (g5); (try simp at bz1); have bz2 := Below.size (hg); (try simp at bz2); (repeat' (first | with_reducible exact Below.refl _ _ | with_reducible assumption | (with_reducible refine Below.setCell ?_ ?_ _) | (with_reducible refine Below.alloc ?_ ?_ _) | (with_reducible refine Below.drew ?_) | (with_reducible refine below_drewN ?_ _) | (with_reducible refine Below.trans ?_ (Below.mono (g6) ?_)) | (with_reducible refine Below.trans ?_ (Below.mono (g5) ?_)) | (with_reducible refine Below.trans ?_ (Below.mono (hg) ?_)))); all_goals (first | omega | (simp; done) | (simp; omega) | (simp [*]; done) | (simp at *; omega)))
              have hs6 := Below.size g16
              obtain ⟨y0, y1, y2⟩ := mm6.cells
              have yl := mm6.lt
              have hJR : J * R ≤ 36 := by have := Nat.mul_le_mul (Nat.le_of_lt hlt2) (Nat.le_refl R); omega
              have hix := idx_lt (R := R) (C := R) hlt2 hlt
              have E := F1.out x rfl
              have HSX := Lib.hid (show ∀ j, j < J + 1 → (adjc R l I j).isSome = true from fun j hj => by
                by_cases e : j = J
                · rw [e, HD.out]; rfl
                · exact HSI.out j (by omega))
              clear hx
              by_cases hp : (I + J) % 2 = 1
              · have hp1 : (((I : Int) + (J : Int)) % 2 == 1) = true := by rw [beq_iff_eq]; omega
                rw [if_pos hp] at E
                have HE := Lib.hid E
                clear E hp
                go_wp2_with fail
                refine (set_c _ R g (R * R) (R * R) w1.heap.size m J I _ _ HM.out ho6 (by omega) (by omega) (by omega)).mono ?_; rintro e w7 ⟨rfl, ho7, hg7⟩
                go_wp2_with fail
                go_round
                case rel => exact ⟨J + 1, _, by go_num, by omega, by rw [List.length_set]; exact HM.out, by have := F3.out; rw [HE.out] at this; exact this, HSX.out, ho7, below_only g16 hg7 (by omega) (by omega), mm6.only hg7 (by omega)⟩
                case measure => simp [intOf]; omega
              · have hp1 : (((I : Int) + (J : Int)) % 2 == 1) = false := by rw [beq_eq_false_iff_ne]; omega
                rw [if_neg hp] at E
                have HE := Lib.hid E
                clear E hp
                go_wp2_with fail
                refine (set_c _ R g (R * R) (R * R) w1.heap.size m J I _ _ HM.out ho6 (by omega) (by omega) (by omega)).mono ?_; rintro e w7 ⟨rfl, ho7, hg7⟩
                go_wp2_with fail
                go_round
                case rel => exact ⟨J + 1, _, by go_num, by omega, by rw [List.length_set]; exact HM.out, by have := F3.out; rw [HE.out] at this; exact this, HSX.out, ho7, below_only g16 hg7 (by omega) (by omega), mm6.only hg7 (by omega)⟩
                case measure => simp [intOf]; omega
          · obtain rfl : J = R := by omega
            go_wp2_with fail
            go_round
            case rel => exact ⟨I + 1, m, by go_num, by omega, HM.out, UptoC.col HU.out, fun i j hi hj => by (by_cases e : i = I); (· subst e; exact HSI.out j hj); (· exact HSO.out i j (by omega) hj), ho, hg, mm⟩
            case measure => simp [intOf]; omega
      · obtain rfl : I = R := by omega
        have hfin : m = adjB I l := UptoC.all HU.out HM.out
        obtain rfl : RES = some ⟨I, I, m⟩ := by have := HR.out; rw [adjB_all (fun i j hi hj => HSO.out i j hi hj)] at this; rw [this, hfin]; rfl
        obtain ⟨y0, y1, y2⟩ := mm.cells
        have hs1 := HS1.out
        have ho' : Own wr w1.heap.size (.slice (some ⟨g, 0, none⟩) (I * I) (I * I)) (oM (some ⟨(I : Int), (I : Int), m⟩)).l := ho
        (have zr := MBox.grows mr (w' := wr) (by (have bz0 := Below.size (hg); (try simp at bz0); (repeat' (first | with_reducible exact Below.refl _ _ | with_reducible assumption | (with_reducible refine Below.setCell ?_ ?_ _) | (with_reducible refine Below.alloc ?_ ?_ _) | (with_reducible refine Below.drew ?_) | (with_reducible refine below_drewN ?_ _) | (with_reducible refine Below.trans ?_ (Below.mono (hg) ?_)))); all_goals (first | omega | (simp; done) | (simp; omega) | (simp [*]; done) | (simp at *; omega)))); obtain ⟨zr0, zr1, zr2⟩ := zr.cells; have zrf := zr.fz; have zrl := zr.lt; go_wp2_with fail; refine bodyPost_ret (v := .tuple #[.agg #[.int .i64 I, .int .i64 I, .slice (some ⟨g, 0, none⟩) (I * I) (I * I)], .bool true]) ?_ rfl ?_; (simp [results, Try.results76, go_sem, zr0, zr1, zr2, zrf, zrl]); exact ⟨_, rfl, by (refine Own.less (B := ?OB) ?_ ?_; (repeat' (first | with_reducible exact ho' | with_reducible refine Own.alloc ?_ _ | with_reducible refine Own.drew ?_ | with_reducible refine Own.low ?_ ?_ _)); all_goals (first | omega | (simp; done) | (simp; omega) | (simp [*]; done) | (simp at *; omega))), by (have bz0 := Below.size (hg); (try simp at bz0); have bz1 := Below.size (g01); (try simp at bz1); (repeat' (first | with_reducible exact Below.refl _ _ | with_reducible assumption | (with_reducible refine Below.setCell ?_ ?_ _) | (with_reducible refine Below.alloc ?_ ?_ _) | (with_reducible refine Below.drew ?_) | (with_reducible refine below_drewN ?_ _) | (with_reducible refine Below.trans ?_ (Below.mono (hg) ?_)) | (with_reducible refine Below.trans ?_ (Below.mono (g01) ?_)))); all_goals (first | omega | (simp; done) | (simp; omega) | (simp [*]; done) | (simp at *; omega)))⟩)

theorem sAdj_c (r c : Int) (A : Option Addr) (l : List Int) (n cap : Nat) (w : World) (hn : l.length = n) (ha : Rd w A l) (hl : n ≤ 1099511627776) :
    Calls Try.prog 70 #[.agg #[.int .i64 r, .int .i64 c, .slice A n cap]] w (MatRet (adjO ⟨r, c, l⟩) w) := by
  have HS := fun w h => sIsSquare_c r c A l n cap w hn h hl
  obtain ⟨w1, hw1, mg, mr, hs1, g01⟩ := one_mat w r c (.slice A n cap)
  have HW1 := Lib.hid hw1
  have HS1 := Lib.hid hs1
  clear hw1 hs1
  cases hq : isSq r c l
  · rw [adjO_no hq]
    rw [hq] at HS
    have HS' := Lib.hid HS
    clear HS hq hn
    go_enter Try.func70, Try.ntmps70
    go_wp2_with fail
    refine (HS'.out _ (by exact (Rd.grows ha (by ((repeat' (first | with_reducible exact Below.refl _ _ | with_reducible assumption | (with_reducible refine Below.setCell ?_ ?_ _) | (with_reducible refine Below.alloc ?_ ?_ _) | (with_reducible refine Below.drew ?_) | (with_reducible refine below_drewN ?_ _))); all_goals (first | omega | (simp; done) | (simp; omega) | (simp [*]; done) | (simp at *; omega))))))).mono ?_; rintro e w2 ⟨rfl, g2⟩
    rw [← HW1.out] at g2
    (have zr := MBox.grows mr (w' := w2) (by (have bz0 := Below.size (g2); (try simp at bz0); (repeat' (first | with_reducible exact Below.refl _ _ | with_reducible assumption | (with_reducible refine Below.setCell ?_ ?_ _) | (with_reducible refine Below.alloc ?_ ?_ _) | (with_reducible refine Below.drew ?_) | (with_reducible refine below_drewN ?_ _) | (with_reducible refine Below.trans ?_ (Below.mono (g2) ?_)))); all_goals (first | omega | (simp; done) | (simp; omega) | (simp [*]; done) | (simp at *; omega)))); obtain ⟨zr0, zr1, zr2⟩ := zr.cells; have zrf := zr.fz; have zrl := zr.lt; go_wp2_with fail; refine bodyPost_ret (v := .tuple #[.agg #[.int .i64 0, .int .i64 0, .slice none 0 0], .bool false]) ?_ rfl ?_; (simp [results, Try.results70, go_sem, zr0, zr1, zr2, zrf, zrl]); exact ⟨_, rfl, Own.nil _ _, by (have bz0 := Below.size (g2); (try simp at bz0); have bz1 := Below.size (g01); (try simp at bz1); (repeat' (first | with_reducible exact Below.refl _ _ | with_reducible assumption | (with_reducible refine Below.setCell ?_ ?_ _) | (with_reducible refine Below.alloc ?_ ?_ _) | (with_reducible refine Below.drew ?_) | (with_reducible refine below_drewN ?_ _) | (with_reducible refine Below.trans ?_ (Below.mono (g2) ?_)) | (with_reducible refine Below.trans ?_ (Below.mono (g01) ?_)))); all_goals (first | omega | (simp; done) | (simp; omega) | (simp [*]; done) | (simp at *; omega)))⟩)
  · obtain ⟨_, R, rfl, rfl, hR, hlen, hnum⟩ := isSq_nat hq
    obtain ⟨RES, hRES⟩ : ∃ x, x = adjO ⟨R, R, l⟩ := ⟨_, rfl⟩
    rw [← hRES]
    rw [adjO_yes hq] at hRES
    rw [hq] at HS
    have HS' := Lib.hid HS
    have HN := Lib.hid hn
    have HLN := Lib.hid hlen
    have HNU := Lib.hid hnum
    have HR := Lib.hid hRES
    have hRR : R * R ≤ 36 := Nat.mul_le_mul hR hR
    have CN := Lib.hid fun W => l3New_c R R W (by omega)
    have ha1 : Rd w1 A l := ha.grows g01
    clear HS hq hn hlen hnum hRES
    go_enter Try.func70, Try.ntmps70
    go_wp2_with fail
    refine (HS'.out _ (by exact (Rd.grows ha (by ((repeat' (first | with_reducible exact Below.refl _ _ | with_reducible assumption | (with_reducible refine Below.setCell ?_ ?_ _) | (with_reducible refine Below.alloc ?_ ?_ _) | (with_reducible refine Below.drew ?_) | (with_reducible refine below_drewN ?_ _))); all_goals (first | omega | (simp; done) | (simp; omega) | (simp [*]; done) | (simp at *; omega))))))).mono ?_; rintro e w2 ⟨rfl, g2⟩
    rw [← HW1.out] at g2
    obtain ⟨b0, b1, b2⟩ := (mg.grows g2).cells
    go_wp2_with fail
    refine (CN.out _).mono ?_; rintro e w3 ⟨g, rfl, ho3, g3⟩
    have hs2 := Below.size g2
    have hs3 := Below.size g3
    have hgl := ho3.lt
    clear b0 b1 b2
    go_wp2_with fail
    go_loopw [5] (fun i wr => ∃ (I : Nat) (m : List Int), i = .int .i64 I ∧ I ≤ R ∧ m.length = R * R ∧ UptoC R R (adjF R l) I 0 m ∧ Own wr w1.heap.size (.slice (some ⟨g, 0, none⟩) (R * R) (R * R)) m ∧ Grows w1 wr ∧ MBox wr w3.heap.size R R (.slice (some ⟨g, 0, none⟩) (R * R) (R * R))) (fun i _ => R - (intOf i).toNat)
    case atStart => exact ⟨0, _, rfl, Nat.zero_le _, by simp, UptoC.zero _ _ _ _, (ho3.less (by omega)).alloc _, by (have bz0 := Below.size (g3); (try simp at bz0); have bz1 := Below.size (g2); (try simp at bz1); (repeat' (first | with_reducible exact Below.refl _ _ | with_reducible assumption | (with_reducible refine Below.setCell ?_ ?_ _) | (with_reducible refine Below.alloc ?_ ?_ _) | (with_reducible refine Below.drew ?_) | (with_reducible refine below_drewN ?_ _) | (with_reducible refine Below.trans ?_ (Below.mono (g3) ?_)) | (with_reducible refine Below.trans ?_ (Below.mono (g2) ?_)))); all_goals (first | omega | (simp; done) | (simp; omega) | (simp [*]; done) | (simp at *; omega))), MBox.new_ _ _ _ _ _ rfl⟩
    case round =>
      clear ho3
      obtain ⟨I, m, rfl, hI, hm, hU, ho, hg, mm⟩ := hrel
      have HM := Lib.hid hm
      have HU := Lib.hid hU
      clear hm hU
      obtain ⟨b0, b1, b2⟩ := (mg.grows hg).cells
      by_cases hlt : I < R
      · go_wp2_with fail
        clear b0 b1 b2
        obtain ⟨wo, rfl⟩ : ∃ wo : World, wo = wr := ⟨_, rfl⟩
        go_loopw [6] (fun j wr => ∃ (J : Nat) (m : List Int), j = .int .i64 J ∧ J ≤ R ∧ m.length = R * R ∧ UptoC R R (adjF R l) I J m ∧ Own wr w1.heap.size (.slice (some ⟨g, 0, none⟩) (R * R) (R * R)) m ∧ Grows w1 wr ∧ MBox wr w3.heap.size R R (.slice (some ⟨g, 0, none⟩) (R * R) (R * R))) (fun j _ => R - (intOf j).toNat)
        case atStart => exact ⟨0, m, rfl, Nat.zero_le _, HM.out, HU.out, ho, hg, mm⟩
        case round =>
          clear HU HM ho hg mm m
          obtain ⟨J, m, rfl, hJ, hm, hU, ho, hg, mm⟩ := hrel
          have HM := Lib.hid hm
          have HU := Lib.hid hU
          clear hm hU
          obtain ⟨b0, b1, b2⟩ := (mg.grows hg).cells
          by_cases hlt2 : J < R
          · have hd := ha1.grows hg
            have CC := Lib.hid fun W (hrd : Rd W A l) => sCross_c R R A l n cap I J I J W HN.out rfl rfl (by have := HLN.out; have := HN.out; omega) (by omega) (by omega) hrd
            have cl : (crs R l I J (R * R)).length = (R - 1) * (R - 1) := crs_length_eq hlt hlt2
            have cn := crs_num (C := R) (l := l) (ri := I) (ci := J) (k := R * R) (by rw [HLN.out]; exact Nat.le_refl _) HNU.out
            have II := Lib.hid fun W A' c' (hrd : Rd W A' (crs R l I J (R * R))) => sDet_c (R - 1) (by omega) (crs R l I J (R * R)) A' _ c' ((R : Int) - 1) W (by omega) rfl cl cn hrd
            have F3 := Lib.hid (UptoC.set (f := adjF R l) (R := R) (C := R) HU.out HM.out hlt2 hlt)
            have hob : oBad (adjc R l I J) = bad ∨ isNum (oBad (adjc R l I J)) = true := oBad_num
            have HF := Lib.hid (show adjF R l J I = if (I + J) % 2 = 1 then mulB (oBad (adjc R l I J)) (-1) else oBad (adjc R l I J) from rfl)
            rw [show detO (R - 1) (crs R l I J (R * R)) = adjc R l I J from rfl] at II
            have HOB := Lib.hid hob
            clear cl cn hob
            generalize crs R l I J (R * R) = t at *
            generalize oBad (adjc R l I J) = d at *
            have mix := Nat.mul_le_mul (Nat.le_of_lt hlt2) (Nat.le_refl R)
            have i5 := castMul J R
            have i6 : (J : Int) * (R : Int) ≤ ((36 : Nat) : Int) := castMulLe (by omega)
            have i7 := castPos J R I
            have i8 : (J : Int) * (R : Int) + (I : Int) < ((R * R : Nat) : Int) := castLt (idx_lt hlt2 hlt)
            have i8' : (J : Int) * (R : Int) + (I : Int) < (R : Int) * (R : Int) := by rw [← Int.natCast_mul R R]; exact i8
            have hi2 : J * R + I < R * R := idx_lt hlt2 hlt
            go_wp2_with fail
            refine (CC.out _ (by exact (Rd.grows hd (by ((repeat' (first | with_reducible exact Below.refl _ _ | with_reducible assumption | (with_reducible refine Below.setCell ?_ ?_ _) | (with_reducible refine Below.alloc ?_ ?_ _) | (with_reducible refine Below.drew ?_) | (with_reducible refine below_drewN ?_ _))); all_goals (first | omega | (simp; done) | (simp; omega) | (simp [*]; done) | (simp at *; omega))))))).mono ?_; rintro e w5 ⟨v5, rfl, ho5, g5⟩
            obtain ⟨A5, c5, rfl, hr5, _⟩ := ho5.val
            go_wp2_with fail
            refine (II.out _ _ _ (by exact (Rd.grows hr5 (by ((repeat' (first | with_reducible exact Below.refl _ _ | with_reducible assumption | (with_reducible refine Below.setCell ?_ ?_ _) | (with_reducible refine Below.alloc ?_ ?_ _) | (with_reducible refine Below.drew ?_) | (with_reducible refine below_drewN ?_ _))); all_goals (first | omega | (simp; done) | (simp; omega) | (simp [*]; done) | (simp at *; omega))))))).mono ?_; rintro e w6 ⟨rfl, g6⟩
            clear b0 b1 b2 ho5
            have ho6 := (ho.grows g5).grows g6
            have mm6 := (mm.grows g5).grows g6
            have g16 : Grows w1 w6 := by (have bz0 := Below.size (g6); (try simp at bz0); have bz1 := Below.size (g5); (try simp at bz1); have bz2 := Below.size (hg); (try simp at bz2); (repeat' (first | with_reducible exact Below.refl _ _ | with_reducible assumption | (with_reducible refine Below.setCell ?_ ?_ _) | (with_reducible refine Below.alloc ?_ ?_ _) | (with_reducible refine Below.drew ?_) | (with_reducible refine below_drewN ?_ _) | (with_reducible refine Below.trans ?_ (Below.mono (g6) ?_)) | (with_reducible refine Below.trans ?_ (Below.mono (g5) ?_)) | (with_reducible refine Below.trans ?_ (Below.mono (hg) ?_)))); all_goals (first | omega | (simp; done) | (simp; omega) | (simp [*]; done) | (simp at *; omega)))
            have hs6 := Below.size g16
            obtain ⟨y0, y1, y2⟩ := mm6.cells
            obtain ⟨b0, b1, b2⟩ := (mg.grows g16).cells
            have yl := mm6.lt
            have k1 := ho6.cell (J * R + I) (by rw [HM.out]; exact hi2)
            have k2 := ho6.free (J * R + I)
            have gbx : ∀ x : Int, w6.grownBy (w6.setCell ⟨g, J * R + I, none⟩ (.int .i64 x)) (some g) := fun x => only_setCell (p := ⟨g, J * R + I, none⟩) (World.grownBy.refl w6 _) rfl _
            have osx : ∀ x : Int, Own (w6.setCell ⟨g, J * R + I, none⟩ (.int .i64 x)) w1.heap.size (.slice (some ⟨g, 0, none⟩) (R * R) (R * R)) (m.set (J * R + I) x) := fun x => by
              have := ho6
              rw [← HM.out] at this ⊢
              exact this.set _ _
            have GB := Lib.hid gbx
            have OS := Lib.hid osx
            clear gbx osx
            by_cases hp : (I + J) % 2 = 1
            · have hp1 : (((I : Int) + (J : Int)) % 2 == 1) = true := by rw [beq_iff_eq]; omega
              have HE := Lib.hid (show adjF R l J I = mulB d (-1) by rw [HF.out, if_pos hp])
              clear hp
              go_wp2_with (go_at_call 73; refine (l1Mul_c _ _ _ HOB.out (.inr (by decide))).mono ?_; rintro e w' ⟨rfl, rfl⟩)
              go_round
              case rel => exact ⟨J + 1, _, by go_num, by omega, by rw [List.length_set]; exact HM.out, by have := F3.out; rw [HE.out] at this; exact this, OS.out _, below_only g16 (GB.out _) (by omega) (by omega), mm6.only (GB.out _) (by omega)⟩
              case measure => simp [intOf]; omega
            · have hp1 : (((I : Int) + (J : Int)) % 2 == 1) = false := by rw [beq_eq_false_iff_ne]; omega
              have HE := Lib.hid (show adjF R l J I = d by rw [HF.out, if_neg hp])
              clear hp
              go_wp2_with fail
              go_round
              case rel => exact ⟨J + 1, _, by go_num, by omega, by rw [List.length_set]; exact HM.out, by have := F3.out; rw [HE.out] at this; exact this, OS.out _, below_only g16 (GB.out _) (by omega) (by omega), mm6.only (GB.out _) (by omega)⟩
              case measure => simp [intOf]; omega
          · obtain rfl : J = R := by omega
            go_wp2_with fail
            go_round
            case rel => exact ⟨I + 1, m, by go_num, by omega, HM.out, UptoC.col HU.out, ho, hg, mm⟩
            case measure => simp [intOf]; omega
      · obtain rfl : I = R := by omega
        have hfin : m = adjB I l := UptoC.all HU.out HM.out
        obtain ⟨y0, y1, y2⟩ := mm.cells
        have hok : isMat I I m = allNum m := isMat_made (by omega) (by omega) HM.out
        have hE : RES = if allNum m then some ⟨I, I, m⟩ else none := by rw [HR.out, hfin]
        generalize allNum m = ok at *
        have HD := Lib.hid fun W h => l3Done_c ok I I (some ⟨g, 0, none⟩) m (I * I) (I * I) W HM.out h (by omega) hok
        have HE := Lib.hid hE
        have hro := ho.rd_
        have HOL := Lib.hid HM.out
        clear hfin hok hE
        go_wp2_with fail
        refine (HD.out _ (by exact (Rd.grows hro (by ((repeat' (first | with_reducible exact Below.refl _ _ | with_reducible assumption | (with_reducible refine Below.setCell ?_ ?_ _) | (with_reducible refine Below.alloc ?_ ?_ _) | (with_reducible refine Below.drew ?_) | (with_reducible refine below_drewN ?_ _))); all_goals (first | omega | (simp; done) | (simp; omega) | (simp [*]; done) | (simp at *; omega))))))).mono ?_; rintro e w7 ⟨A7, c7, rfl, o7, g7⟩
        have ho7 := o7 w7 w1.heap.size (by have := ho.grows (w' := w7) (by (have bz0 := Below.size (g7); (try simp at bz0); (repeat' (first | with_reducible exact Below.refl _ _ | with_reducible assumption | (with_reducible refine Below.setCell ?_ ?_ _) | (with_reducible refine Below.alloc ?_ ?_ _) | (with_reducible refine Below.drew ?_) | (with_reducible refine below_drewN ?_ _) | (with_reducible refine Below.trans ?_ (Below.mono (g7) ?_)))); all_goals (first | omega | (simp; done) | (simp; omega) | (simp [*]; done) | (simp at *; omega)))); rw [← HM.out] at this; rw [← HM.out]; exact this)
        have g17 : Grows w1 w7 := by (have bz0 := Below.size (g7); (try simp at bz0); have bz1 := Below.size (hg); (try simp at bz1); (repeat' (first | with_reducible exact Below.refl _ _ | with_reducible assumption | (with_reducible refine Below.setCell ?_ ?_ _) | (with_reducible refine Below.alloc ?_ ?_ _) | (with_reducible refine Below.drew ?_) | (with_reducible refine below_drewN ?_ _) | (with_reducible refine Below.trans ?_ (Below.mono (g7) ?_)) | (with_reducible refine Below.trans ?_ (Below.mono (hg) ?_)))); all_goals (first | omega | (simp; done) | (simp; omega) | (simp [*]; done) | (simp at *; omega)))
        have hz7 := Below.size g17
        have HS1b := HS1
        have hs1 : w.heap.size + 2 ≤ w1.heap.size := by have := HS1.out; omega
        cases ok
        · obtain rfl : RES = none := HE.out
          have ho' : Own w7 w1.heap.size (.slice A7 (ifL false m).length c7) (oM none).l := ho7
          (have zr := MBox.grows mr (w' := w7) (by (have bz0 := Below.size (g17); (try simp at bz0); (repeat' (first | with_reducible exact Below.refl _ _ | with_reducible assumption | (with_reducible refine Below.setCell ?_ ?_ _) | (with_reducible refine Below.alloc ?_ ?_ _) | (with_reducible refine Below.drew ?_) | (with_reducible refine below_drewN ?_ _) | (with_reducible refine Below.trans ?_ (Below.mono (g17) ?_)))); all_goals (first | omega | (simp; done) | (simp; omega) | (simp [*]; done) | (simp at *; omega)))); obtain ⟨zr0, zr1, zr2⟩ := zr.cells; have zrf := zr.fz; have zrl := zr.lt; go_wp2_with fail; refine bodyPost_ret (v := .tuple #[.agg #[.int .i64 (ifI false I), .int .i64 (ifI false I), .slice A7 (ifL false m).length c7], .bool false]) ?_ rfl ?_; (simp [results, Try.results70, go_sem, zr0, zr1, zr2, zrf, zrl]); exact ⟨_, rfl, by (refine Own.less (B := ?OB) ?_ ?_; (repeat' (first | with_reducible exact ho' | with_reducible refine Own.alloc ?_ _ | with_reducible refine Own.drew ?_ | with_reducible refine Own.low ?_ ?_ _)); all_goals (first | omega | (simp; done) | (simp; omega) | (simp [*]; done) | (simp at *; omega))), by (have bz0 := Below.size (g17); (try simp at bz0); have bz1 := Below.size (g01); (try simp at bz1); (repeat' (first | with_reducible exact Below.refl _ _ | with_reducible assumption | (with_reducible refine Below.setCell ?_ ?_ _) | (with_reducible refine Below.alloc ?_ ?_ _) | (with_reducible refine Below.drew ?_) | (with_reducible refine below_drewN ?_ _) | (with_reducible refine Below.trans ?_ (Below.mono (g17) ?_)) | (with_reducible refine Below.trans ?_ (Below.mono (g01) ?_)))); all_goals (first | omega | (simp; done) | (simp; omega) | (simp [*]; done) | (simp at *; omega)))⟩)
        · obtain rfl : RES = some ⟨I, I, m⟩ := HE.out
          have ho' : Own w7 w1.heap.size (.slice A7 (ifL true m).length c7) (oM (some ⟨(I : Int), (I : Int), m⟩)).l := ho7
          (have zr := MBox.grows mr (w' := w7) (by (have bz0 := Below.size (g17); (try simp at bz0); (repeat' (first | with_reducible exact Below.refl _ _ | with_reducible assumption | (with_reducible refine Below.setCell ?_ ?_ _) | (with_reducible refine Below.alloc ?_ ?_ _) | (with_reducible refine Below.drew ?_) | (with_reducible refine below_drewN ?_ _) | (with_reducible refine Below.trans ?_ (Below.mono (g17) ?_)))); all_goals (first | omega | (simp; done) | (simp; omega) | (simp [*]; done) | (simp at *; omega)))); obtain ⟨zr0, zr1, zr2⟩ := zr.cells; have zrf := zr.fz; have zrl := zr.lt; go_wp2_with fail; refine bodyPost_ret (v := .tuple #[.agg #[.int .i64 (ifI true I), .int .i64 (ifI true I), .slice A7 (ifL true m).length c7], .bool true]) ?_ rfl ?_; (simp [results, Try.results70, go_sem, zr0, zr1, zr2, zrf, zrl]); exact ⟨_, rfl, by (refine Own.less (B := ?OB) ?_ ?_; (repeat' (first | with_reducible exact ho' | with_reducible refine Own.alloc ?_ _ | with_reducible refine Own.drew ?_ | with_reducible refine Own.low ?_ ?_ _)); all_goals (first | omega | (simp; done) | (simp; omega) | (simp [*]; done) | (simp at *; omega))), by (have bz0 := Below.size (g17); (try simp at bz0); have bz1 := Below.size (g01); (try simp at bz1); (repeat' (first | with_reducible exact Below.refl _ _ | with_reducible assumption | (with_reducible refine Below.setCell ?_ ?_ _) | (with_reducible refine Below.alloc ?_ ?_ _) | (with_reducible refine Below.drew ?_) | (with_reducible refine below_drewN ?_ _) | (with_reducible refine Below.trans ?_ (Below.mono (g17) ?_)) | (with_reducible refine Below.trans ?_ (Below.mono (g01) ?_)))); all_goals (first | omega | (simp; done) | (simp; omega) | (simp [*]; done) | (simp at *; omega)))⟩)
end
end Go.Proofs.Ytpfijhcjempfjaa
