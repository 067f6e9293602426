/- Contracts: DirectSum. Printed by mkds.py. -/
import Derived.Test.YtfloeilpghjpoaaGram
import Derived.Test.YtfloeilpghjpoaaTurn
namespace Go.Proofs.Ytfloeilpghjpoaa
open Go.RowKit

/-- a matrix of N rows and columns that is filled up to row I, column J; else 0 -/
def U (N : Nat) (f : Nat → Nat → Int) (I J : Nat) : List Int := tab N N fun i j => if i < I ∨ (i = I ∧ j < J) then f i j else 0
theorem U_length (N : Nat) (f : Nat → Nat → Int) (I J : Nat) : (U N f I J).length = N * N := tab_length _ _ _
theorem U_set {N I J : Nat} {f : Nat → Nat → Int} (hI : I < N) (hJ : J < N) : (U N f I J).set (I * N + J) (f I J) = U N f I (J + 1) := by
  refine tab_ext (by rw [List.length_set, U_length]) fun i j hi hj => ?_
  rw [nth_set _ _ _ _ (by rw [U_length]; exact idx_lt hI hJ)]
  by_cases h : i * N + j = I * N + J
  · obtain ⟨rfl, rfl⟩ := idx_inj hj hJ h
    rw [if_pos rfl, if_pos (by omega)]
  · rw [if_neg h]
    unfold U
    rw [tab_nth _ hi hj]
    have : ¬ (i = I ∧ j = J) := fun ⟨e1, e2⟩ => h (by rw [e1, e2])
    by_cases h2 : i < I ∨ (i = I ∧ j < J)
    · rw [if_pos h2, if_pos (by omega)]
    · rw [if_neg h2, if_neg (by omega)]
theorem U_skip {N I J : Nat} {f : Nat → Nat → Int} (h : f I J = 0) : U N f I (J + 1) = U N f I J := by
  refine tab_congr fun i j _ _ => ?_
  by_cases e : i = I ∧ j = J
  · obtain ⟨rfl, rfl⟩ := e
    rw [if_pos (by omega), if_neg (by omega), h]
  · by_cases h2 : i < I ∨ (i = I ∧ j < J)
    · rw [if_pos h2, if_pos (by omega)]
    · rw [if_neg h2, if_neg (by omega)]
theorem U_rowz {N I K : Nat} {f : Nat → Nat → Int} (h : ∀ j, K ≤ j → j < N → f I j = 0) : U N f I K = U N f (I + 1) 0 := by
  refine tab_congr fun i j _ hj => ?_
  by_cases e : i = I ∧ K ≤ j
  · obtain ⟨rfl, e2⟩ := e
    rw [if_neg (by omega), if_pos (by omega), h j e2 hj]
  · by_cases h2 : i < I ∨ (i = I ∧ j < K)
    · rw [if_pos h2, if_pos (by omega)]
    · rw [if_neg h2, if_neg (by omega)]
theorem U_row {N I : Nat} {f : Nat → Nat → Int} : U N f I N = U N f (I + 1) 0 := U_rowz fun j h1 h2 => by omega
theorem U_to {N I K : Nat} {f : Nat → Nat → Int} (h : ∀ j, j < K → f I j = 0) : U N f I K = U N f I 0 := by
  refine tab_congr fun i j _ _ => ?_
  by_cases e : i = I ∧ j < K
  · obtain ⟨rfl, e2⟩ := e
    rw [if_pos (by omega), if_neg (by omega), h j e2]
  · by_cases h2 : i < I ∨ (i = I ∧ j < K)
    · rw [if_pos h2, if_pos (by omega)]
    · rw [if_neg h2, if_neg (by omega)]
theorem U_congr {N I : Nat} {f g : Nat → Nat → Int} (h : ∀ i j, i < I → f i j = g i j) : U N f I 0 = U N g I 0 := by
  refine tab_congr fun i j _ _ => ?_
  by_cases e : i < I
  · rw [if_pos (by omega), if_pos (by omega), h i j e]
  · rw [if_neg (by omega), if_neg (by omega)]
theorem U_zero (N : Nat) (f : Nat → Nat → Int) : List.replicate (N * N) 0 = U N f 0 0 := by
  refine tab_ext (by simp) fun i j _ _ => ?_
  rw [nth_replicate, if_neg (by omega)]
theorem U_all (N : Nat) (f : Nat → Nat → Int) : U N f N 0 = tab N N f := tab_congr fun i j hi _ => by rw [if_pos (by omega)]

def dsF (n m : Nat) (a b : List Int) (i j : Nat) : Int := if i < n ∧ j < n then nth a (i * n + j) else if n ≤ i ∧ n ≤ j then nth b ((i - n) * m + (j - n)) else 0
def dsA (n : Nat) (a : List Int) (i j : Nat) : Int := if i < n ∧ j < n then nth a (i * n + j) else 0
def dsL (n m : Nat) (a b : List Int) : List Int := tab (n + m) (n + m) (dsF n m a b)
theorem dsF_a {n m : Nat} {a b : List Int} {i j : Nat} (h1 : i < n) (h2 : j < n) : dsF n m a b i j = nth a (i * n + j) := by unfold dsF; rw [if_pos ⟨h1, h2⟩]
theorem dsF_b {n m : Nat} {a b : List Int} {i j : Nat} (h1 : n ≤ i) (h2 : n ≤ j) : dsF n m a b i j = nth b ((i - n) * m + (j - n)) := by unfold dsF; rw [if_neg (by omega), if_pos ⟨h1, h2⟩]
theorem dsF_0 {n m : Nat} {a b : List Int} {i j : Nat} (h1 : ¬ (i < n ∧ j < n)) (h2 : ¬ (n ≤ i ∧ n ≤ j)) : dsF n m a b i j = 0 := by unfold dsF; rw [if_neg h1, if_neg h2]
theorem dsA_a {n : Nat} {a : List Int} {i j : Nat} (h1 : i < n) (h2 : j < n) : dsA n a i j = nth a (i * n + j) := by unfold dsA; rw [if_pos ⟨h1, h2⟩]
theorem dsA_0 {n : Nat} {a : List Int} {i j : Nat} (h1 : ¬ (i < n ∧ j < n)) : dsA n a i j = 0 := by unfold dsA; rw [if_neg h1]
def dsOk (r c : Int) (a : List Int) (r' c' : Int) (b : List Int) : Bool := isGram r c a && isGram r' c' b && decide (r + r' ≤ 6)
def dsR (r c : Int) (a : List Int) (r' c' : Int) (b : List Int) : Int := if dsOk r c a r' c' b then r + r' else 0
def dsV (r c : Int) (a : List Int) (r' c' : Int) (b : List Int) : List Int := if dsOk r c a r' c' b then dsL r.toNat r'.toNat a b else []
theorem ds_no {r c : Int} {a : List Int} {r' c' : Int} {b : List Int} (h : dsOk r c a r' c' b = false) : dsR r c a r' c' b = 0 ∧ dsV r c a r' c' b = [] := by simp [dsR, dsV, h]
theorem dsOk_no {r c : Int} {a : List Int} {r' c' : Int} {b : List Int} (h : isGram r c a = false ∨ isGram r' c' b = false ∨ decide (r + r' ≤ 6) = false) : dsOk r c a r' c' b = false := by
  unfold dsOk
  rcases h with h | h | h <;> rw [h] <;> simp
theorem dsV_length (r c : Int) (a : List Int) (r' c' : Int) (b : List Int) : (dsV r c a r' c' b).length ≤ 36 := by
  unfold dsV
  split
  · rename_i h
    unfold dsOk at h
    rw [Bool.and_eq_true, Bool.and_eq_true] at h
    obtain ⟨_, R, rfl, rfl, _⟩ := isSq_nat (isGram_sq h.1.1)
    obtain ⟨_, R', rfl, rfl, _⟩ := isSq_nat (isGram_sq h.1.2)
    have h3 := h.2
    simp only [decide_eq_true_eq] at h3
    unfold dsL
    rw [tab_length]
    simp only [Int.toNat_natCast]
    have h4 : R + R' ≤ 6 := by omega
    exact Nat.mul_le_mul h4 h4
  · simp

theorem gram_bd {r c : Int} {a : List Int} (h : isGram r c a = true) : 0 ≤ r ∧ r ≤ 6 := by
  obtain ⟨_, R, rfl, _, hR, _⟩ := isSq_nat (isGram_sq h)
  omega

section
set_option maxHeartbeats 1000000
theorem iDs_no (r c r' c' : Int) (A B : Option Addr) (a b : List Int) (n m ca cb : Nat) (w : World) (hn : a.length = n) (hm : b.length = m) (ha : Rd w A a) (hb : Rd w B b) (hl : n ≤ 1099511627776) (hl2 : m ≤ 1099511627776) (h : isGram r c a = false ∨ isGram r' c' b = false ∨ decide (r + r' ≤ 6) = false) :
    Calls Try.prog 44 #[.agg #[.int .i64 r, .int .i64 c, .slice A n ca], .agg #[.int .i64 r', .int .i64 c', .slice B m cb]] w fun e w' => e = .returned (.tuple #[.agg #[.int .i64 0, .int .i64 0, .slice none 0 0], .bool false]) ∧ Grows w w' := by
  have C1 := fun W h => iIsGram_c r c A a n ca W hn h hl
  have C2 := fun W h => iIsGram_c r' c' B b m cb W hm h hl2
  cases h1 : isGram r c a
  · rw [h1] at C1
    have H1 := Lib.hid C1
    clear C1 C2 h1 h hn hm
    go_enter Try.func44, Try.ntmps44
    go_wp2_with fail
    refine (H1.out _ (by exact (Rd.grows ha (by ((repeat' (first | with_reducible exact Below.refl _ _ | with_reducible assumption | (with_reducible refine Below.setCell ?_ ?_ _) | (with_reducible refine Below.alloc ?_ ?_ _) | (with_reducible refine Below.drew ?_) | (with_reducible refine below_drewN ?_ _))); all_goals (first | omega | (simp; done) | (simp; omega) | (simp [*]; done) | (simp at *; omega))))))).mono ?_; rintro e w1 ⟨rfl, g1⟩
    have rb : MBox w1 (w.heap.size + 2) 0 0 (.slice none 0 0) := by have := (MBox.mk_ ((w.alloc (.cells #[.int .i64 r, .int .i64 c, .slice A n ca] 40)).alloc (.cells #[.int .i64 r', .int .i64 c', .slice B m cb] 40)) 0 0 (.slice none 0 0) 40).grows (w' := w1) (by (have bz0 := Below.size (g1); (try simp at bz0); (repeat' (first | with_reducible exact Below.refl _ _ | with_reducible assumption | (with_reducible refine Below.setCell ?_ ?_ _) | (with_reducible refine Below.alloc ?_ ?_ _) | (with_reducible refine Below.drew ?_) | (with_reducible refine below_drewN ?_ _) | (with_reducible refine Below.trans ?_ (Below.mono (g1) ?_)))); all_goals (first | omega | (simp; done) | (simp; omega) | (simp [*]; done) | (simp at *; omega)))); simpa using this
    have mb0 : MBox w1 w.heap.size r c (.slice A n ca) := (MBox.mk_ w r c (.slice A n ca) 40).grows (by (have bz0 := Below.size (g1); (try simp at bz0); (repeat' (first | with_reducible exact Below.refl _ _ | with_reducible assumption | (with_reducible refine Below.setCell ?_ ?_ _) | (with_reducible refine Below.alloc ?_ ?_ _) | (with_reducible refine Below.drew ?_) | (with_reducible refine below_drewN ?_ _) | (with_reducible refine Below.trans ?_ (Below.mono (g1) ?_)))); all_goals (first | omega | (simp; done) | (simp; omega) | (simp [*]; done) | (simp at *; omega))))
    have mb1 : MBox w1 (w.heap.size + 1) r' c' (.slice B m cb) := by have := (MBox.mk_ (w.alloc (.cells #[.int .i64 r, .int .i64 c, .slice A n ca] 40)) r' c' (.slice B m cb) 40).grows (w' := w1) (by (have bz0 := Below.size (g1); (try simp at bz0); (repeat' (first | with_reducible exact Below.refl _ _ | with_reducible assumption | (with_reducible refine Below.setCell ?_ ?_ _) | (with_reducible refine Below.alloc ?_ ?_ _) | (with_reducible refine Below.drew ?_) | (with_reducible refine below_drewN ?_ _) | (with_reducible refine Below.trans ?_ (Below.mono (g1) ?_)))); all_goals (first | omega | (simp; done) | (simp; omega) | (simp [*]; done) | (simp at *; omega)))); simpa using this
    obtain ⟨r0, r1, r2⟩ := rb.cells
    have rf := rb.fz
    go_wp2_with fail
    refine bodyPost_ret (v := .tuple #[.agg #[.int .i64 0, .int .i64 0, .slice none 0 0], .bool false]) ?_ rfl ?_
    · simp [results, Try.results44, go_sem, r0, r1, r2]
    · exact ⟨rfl, by (have bz0 := Below.size (g1); (try simp at bz0); (repeat' (first | with_reducible exact Below.refl _ _ | with_reducible assumption | (with_reducible refine Below.setCell ?_ ?_ _) | (with_reducible refine Below.alloc ?_ ?_ _) | (with_reducible refine Below.drew ?_) | (with_reducible refine below_drewN ?_ _) | (with_reducible refine Below.trans ?_ (Below.mono (g1) ?_)))); all_goals (first | omega | (simp; done) | (simp; omega) | (simp [*]; done) | (simp at *; omega)))⟩
  · cases h2 : isGram r' c' b
    · rw [h1] at C1
      rw [h2] at C2
      have H1 := Lib.hid C1
      have H2 := Lib.hid C2
      clear C1 C2 h1 h2 h hn hm
      go_enter Try.func44, Try.ntmps44
      go_wp2_with fail
      refine (H1.out _ (by exact (Rd.grows ha (by ((repeat' (first | with_reducible exact Below.refl _ _ | with_reducible assumption | (with_reducible refine Below.setCell ?_ ?_ _) | (with_reducible refine Below.alloc ?_ ?_ _) | (with_reducible refine Below.drew ?_) | (with_reducible refine below_drewN ?_ _))); all_goals (first | omega | (simp; done) | (simp; omega) | (simp [*]; done) | (simp at *; omega))))))).mono ?_; rintro e w1 ⟨rfl, g1⟩
      have rb : MBox w1 (w.heap.size + 2) 0 0 (.slice none 0 0) := by have := (MBox.mk_ ((w.alloc (.cells #[.int .i64 r, .int .i64 c, .slice A n ca] 40)).alloc (.cells #[.int .i64 r', .int .i64 c', .slice B m cb] 40)) 0 0 (.slice none 0 0) 40).grows (w' := w1) (by (have bz0 := Below.size (g1); (try simp at bz0); (repeat' (first | with_reducible exact Below.refl _ _ | with_reducible assumption | (with_reducible refine Below.setCell ?_ ?_ _) | (with_reducible refine Below.alloc ?_ ?_ _) | (with_reducible refine Below.drew ?_) | (with_reducible refine below_drewN ?_ _) | (with_reducible refine Below.trans ?_ (Below.mono (g1) ?_)))); all_goals (first | omega | (simp; done) | (simp; omega) | (simp [*]; done) | (simp at *; omega)))); simpa using this
      have mb0 : MBox w1 w.heap.size r c (.slice A n ca) := (MBox.mk_ w r c (.slice A n ca) 40).grows (by (have bz0 := Below.size (g1); (try simp at bz0); (repeat' (first | with_reducible exact Below.refl _ _ | with_reducible assumption | (with_reducible refine Below.setCell ?_ ?_ _) | (with_reducible refine Below.alloc ?_ ?_ _) | (with_reducible refine Below.drew ?_) | (with_reducible refine below_drewN ?_ _) | (with_reducible refine Below.trans ?_ (Below.mono (g1) ?_)))); all_goals (first | omega | (simp; done) | (simp; omega) | (simp [*]; done) | (simp at *; omega))))
      have mb1 : MBox w1 (w.heap.size + 1) r' c' (.slice B m cb) := by have := (MBox.mk_ (w.alloc (.cells #[.int .i64 r, .int .i64 c, .slice A n ca] 40)) r' c' (.slice B m cb) 40).grows (w' := w1) (by (have bz0 := Below.size (g1); (try simp at bz0); (repeat' (first | with_reducible exact Below.refl _ _ | with_reducible assumption | (with_reducible refine Below.setCell ?_ ?_ _) | (with_reducible refine Below.alloc ?_ ?_ _) | (with_reducible refine Below.drew ?_) | (with_reducible refine below_drewN ?_ _) | (with_reducible refine Below.trans ?_ (Below.mono (g1) ?_)))); all_goals (first | omega | (simp; done) | (simp; omega) | (simp [*]; done) | (simp at *; omega)))); simpa using this
      obtain ⟨b00, b01, b02⟩ := mb0.cells
      obtain ⟨b10, b11, b12⟩ := mb1.cells
      go_wp2_with fail
      refine (H2.out _ (by exact (Rd.grows hb (by (have bz0 := Below.size (g1); (try simp at bz0); (repeat' (first | with_reducible exact Below.refl _ _ | with_reducible assumption | (with_reducible refine Below.setCell ?_ ?_ _) | (with_reducible refine Below.alloc ?_ ?_ _) | (with_reducible refine Below.drew ?_) | (with_reducible refine below_drewN ?_ _) | (with_reducible refine Below.trans ?_ (Below.mono (g1) ?_)))); all_goals (first | omega | (simp; done) | (simp; omega) | (simp [*]; done) | (simp at *; omega))))))).mono ?_; rintro e w2 ⟨rfl, g2⟩
      replace rb := rb.grows g2
      obtain ⟨r0, r1, r2⟩ := rb.cells
      have rf := rb.fz
      go_wp2_with fail
      refine bodyPost_ret (v := .tuple #[.agg #[.int .i64 0, .int .i64 0, .slice none 0 0], .bool false]) ?_ rfl ?_
      · simp [results, Try.results44, go_sem, r0, r1, r2]
      · exact ⟨rfl, by (have bz0 := Below.size (g2); (try simp at bz0); have bz1 := Below.size (g1); (try simp at bz1); (repeat' (first | with_reducible exact Below.refl _ _ | with_reducible assumption | (with_reducible refine Below.setCell ?_ ?_ _) | (with_reducible refine Below.alloc ?_ ?_ _) | (with_reducible refine Below.drew ?_) | (with_reducible refine below_drewN ?_ _) | (with_reducible refine Below.trans ?_ (Below.mono (g2) ?_)) | (with_reducible refine Below.trans ?_ (Below.mono (g1) ?_)))); all_goals (first | omega | (simp; done) | (simp; omega) | (simp [*]; done) | (simp at *; omega)))⟩
    · have q1 := gram_bd h1
      have q2 := gram_bd h2
      have h3 : 6 < r + r' := by
        rcases h with h | h | h
        · rw [h1] at h; cases h
        · rw [h2] at h; cases h
        · simpa using h
      have e3 : IntKind.i64.wrap (r + r') = r + r' := IntWalk.i64_in _ (by omega)
      clear q1 q2
      rw [h1] at C1
      rw [h2] at C2
      have H1 := Lib.hid C1
      have H2 := Lib.hid C2
      clear C1 C2 h1 h2 h hn hm
      go_enter Try.func44, Try.ntmps44
      go_wp2_with fail
      refine (H1.out _ (by exact (Rd.grows ha (by ((repeat' (first | with_reducible exact Below.refl _ _ | with_reducible assumption | (with_reducible refine Below.setCell ?_ ?_ _) | (with_reducible refine Below.alloc ?_ ?_ _) | (with_reducible refine Below.drew ?_) | (with_reducible refine below_drewN ?_ _))); all_goals (first | omega | (simp; done) | (simp; omega) | (simp [*]; done) | (simp at *; omega))))))).mono ?_; rintro e w1 ⟨rfl, g1⟩
      have rb : MBox w1 (w.heap.size + 2) 0 0 (.slice none 0 0) := by have := (MBox.mk_ ((w.alloc (.cells #[.int .i64 r, .int .i64 c, .slice A n ca] 40)).alloc (.cells #[.int .i64 r', .int .i64 c', .slice B m cb] 40)) 0 0 (.slice none 0 0) 40).grows (w' := w1) (by (have bz0 := Below.size (g1); (try simp at bz0); (repeat' (first | with_reducible exact Below.refl _ _ | with_reducible assumption | (with_reducible refine Below.setCell ?_ ?_ _) | (with_reducible refine Below.alloc ?_ ?_ _) | (with_reducible refine Below.drew ?_) | (with_reducible refine below_drewN ?_ _) | (with_reducible refine Below.trans ?_ (Below.mono (g1) ?_)))); all_goals (first | omega | (simp; done) | (simp; omega) | (simp [*]; done) | (simp at *; omega)))); simpa using this
      have mb0 : MBox w1 w.heap.size r c (.slice A n ca) := (MBox.mk_ w r c (.slice A n ca) 40).grows (by (have bz0 := Below.size (g1); (try simp at bz0); (repeat' (first | with_reducible exact Below.refl _ _ | with_reducible assumption | (with_reducible refine Below.setCell ?_ ?_ _) | (with_reducible refine Below.alloc ?_ ?_ _) | (with_reducible refine Below.drew ?_) | (with_reducible refine below_drewN ?_ _) | (with_reducible refine Below.trans ?_ (Below.mono (g1) ?_)))); all_goals (first | omega | (simp; done) | (simp; omega) | (simp [*]; done) | (simp at *; omega))))
      have mb1 : MBox w1 (w.heap.size + 1) r' c' (.slice B m cb) := by have := (MBox.mk_ (w.alloc (.cells #[.int .i64 r, .int .i64 c, .slice A n ca] 40)) r' c' (.slice B m cb) 40).grows (w' := w1) (by (have bz0 := Below.size (g1); (try simp at bz0); (repeat' (first | with_reducible exact Below.refl _ _ | with_reducible assumption | (with_reducible refine Below.setCell ?_ ?_ _) | (with_reducible refine Below.alloc ?_ ?_ _) | (with_reducible refine Below.drew ?_) | (with_reducible refine below_drewN ?_ _) | (with_reducible refine Below.trans ?_ (Below.mono (g1) ?_)))); all_goals (first | omega | (simp; done) | (simp; omega) | (simp [*]; done) | (simp at *; omega)))); simpa using this
      obtain ⟨b00, b01, b02⟩ := mb0.cells
      obtain ⟨b10, b11, b12⟩ := mb1.cells
      go_wp2_with fail
      refine (H2.out _ (by exact (Rd.grows hb (by (have bz0 := Below.size (g1); (try simp at bz0); (repeat' (first | with_reducible exact Below.refl _ _ | with_reducible assumption | (with_reducible refine Below.setCell ?_ ?_ _) | (with_reducible refine Below.alloc ?_ ?_ _) | (with_reducible refine Below.drew ?_) | (with_reducible refine below_drewN ?_ _) | (with_reducible refine Below.trans ?_ (Below.mono (g1) ?_)))); all_goals (first | omega | (simp; done) | (simp; omega) | (simp [*]; done) | (simp at *; omega))))))).mono ?_; rintro e w2 ⟨rfl, g2⟩
      replace rb := rb.grows g2
      replace mb0 := mb0.grows g2
      replace mb1 := mb1.grows g2
      clear b00 b01 b02 b10 b11 b12
      obtain ⟨b00, b01, b02⟩ := mb0.cells
      obtain ⟨b10, b11, b12⟩ := mb1.cells
      obtain ⟨r0, r1, r2⟩ := rb.cells
      have rf := rb.fz
      go_wp2_with fail
      refine bodyPost_ret (v := .tuple #[.agg #[.int .i64 0, .int .i64 0, .slice none 0 0], .bool false]) ?_ rfl ?_
      · simp [results, Try.results44, go_sem, r0, r1, r2]
      · exact ⟨rfl, by (have bz0 := Below.size (g2); (try simp at bz0); have bz1 := Below.size (g1); (try simp at bz1); (repeat' (first | with_reducible exact Below.refl _ _ | with_reducible assumption | (with_reducible refine Below.setCell ?_ ?_ _) | (with_reducible refine Below.alloc ?_ ?_ _) | (with_reducible refine Below.drew ?_) | (with_reducible refine below_drewN ?_ _) | (with_reducible refine Below.trans ?_ (Below.mono (g2) ?_)) | (with_reducible refine Below.trans ?_ (Below.mono (g1) ?_)))); all_goals (first | omega | (simp; done) | (simp; omega) | (simp [*]; done) | (simp at *; omega)))⟩
theorem sDs_no (r c r' c' : Int) (A B : Option Addr) (a b : List Int) (n m ca cb : Nat) (w : World) (hn : a.length = n) (hm : b.length = m) (ha : Rd w A a) (hb : Rd w B b) (hl : n ≤ 1099511627776) (hl2 : m ≤ 1099511627776) (h : isGram r c a = false ∨ isGram r' c' b = false ∨ decide (r + r' ≤ 6) = false) :
    Calls Try.prog 43 #[.agg #[.int .i64 r, .int .i64 c, .slice A n ca], .agg #[.int .i64 r', .int .i64 c', .slice B m cb]] w fun e w' => e = .returned (.tuple #[.agg #[.int .i64 0, .int .i64 0, .slice none 0 0], .bool false]) ∧ Grows w w' := by
  have C1 := fun W h => sIsGram_c r c A a n ca W hn h hl
  have C2 := fun W h => sIsGram_c r' c' B b m cb W hm h hl2
  cases h1 : isGram r c a
  · rw [h1] at C1
    have H1 := Lib.hid C1
    clear C1 C2 h1 h hn hm
    go_enter Try.func43, Try.ntmps43
    go_wp2_with fail
    refine (H1.out _ (by exact (Rd.grows ha (by ((repeat' (first | with_reducible exact Below.refl _ _ | with_reducible assumption | (with_reducible refine Below.setCell ?_ ?_ _) | (with_reducible refine Below.alloc ?_ ?_ _) | (with_reducible refine Below.drew ?_) | (with_reducible refine below_drewN ?_ _))); all_goals (first | omega | (simp; done) | (simp; omega) | (simp [*]; done) | (simp at *; omega))))))).mono ?_; rintro e w1 ⟨rfl, g1⟩
    have rb : MBox w1 (w.heap.size + 2) 0 0 (.slice none 0 0) := by have := (MBox.mk_ ((w.alloc (.cells #[.int .i64 r, .int .i64 c, .slice A n ca] 40)).alloc (.cells #[.int .i64 r', .int .i64 c', .slice B m cb] 40)) 0 0 (.slice none 0 0) 40).grows (w' := w1) (by (have bz0 := Below.size (g1); (try simp at bz0); (repeat' (first | with_reducible exact Below.refl _ _ | with_reducible assumption | (with_reducible refine Below.setCell ?_ ?_ _) | (with_reducible refine Below.alloc ?_ ?_ _) | (with_reducible refine Below.drew ?_) | (with_reducible refine below_drewN ?_ _) | (with_reducible refine Below.trans ?_ (Below.mono (g1) ?_)))); all_goals (first | omega | (simp; done) | (simp; omega) | (simp [*]; done) | (simp at *; omega)))); simpa using this
    have mb0 : MBox w1 w.heap.size r c (.slice A n ca) := (MBox.mk_ w r c (.slice A n ca) 40).grows (by (have bz0 := Below.size (g1); (try simp at bz0); (repeat' (first | with_reducible exact Below.refl _ _ | with_reducible assumption | (with_reducible refine Below.setCell ?_ ?_ _) | (with_reducible refine Below.alloc ?_ ?_ _) | (with_reducible refine Below.drew ?_) | (with_reducible refine below_drewN ?_ _) | (with_reducible refine Below.trans ?_ (Below.mono (g1) ?_)))); all_goals (first | omega | (simp; done) | (simp; omega) | (simp [*]; done) | (simp at *; omega))))
    have mb1 : MBox w1 (w.heap.size + 1) r' c' (.slice B m cb) := by have := (MBox.mk_ (w.alloc (.cells #[.int .i64 r, .int .i64 c, .slice A n ca] 40)) r' c' (.slice B m cb) 40).grows (w' := w1) (by (have bz0 := Below.size (g1); (try simp at bz0); (repeat' (first | with_reducible exact Below.refl _ _ | with_reducible assumption | (with_reducible refine Below.setCell ?_ ?_ _) | (with_reducible refine Below.alloc ?_ ?_ _) | (with_reducible refine Below.drew ?_) | (with_reducible refine below_drewN ?_ _) | (with_reducible refine Below.trans ?_ (Below.mono (g1) ?_)))); all_goals (first | omega | (simp; done) | (simp; omega) | (simp [*]; done) | (simp at *; omega)))); simpa using this
    obtain ⟨r0, r1, r2⟩ := rb.cells
    have rf := rb.fz
    go_wp2_with fail
    refine bodyPost_ret (v := .tuple #[.agg #[.int .i64 0, .int .i64 0, .slice none 0 0], .bool false]) ?_ rfl ?_
    · simp [results, Try.results43, go_sem, r0, r1, r2]
    · exact ⟨rfl, by (have bz0 := Below.size (g1); (try simp at bz0); (repeat' (first | with_reducible exact Below.refl _ _ | with_reducible assumption | (with_reducible refine Below.setCell ?_ ?_ _) | (with_reducible refine Below.alloc ?_ ?_ _) | (with_reducible refine Below.drew ?_) | (with_reducible refine below_drewN ?_ _) | (with_reducible refine Below.trans ?_ (Below.mono (g1) ?_)))); all_goals (first | omega | (simp; done) | (simp; omega) | (simp [*]; done) | (simp at *; omega)))⟩
  · cases h2 : isGram r' c' b
    · rw [h1] at C1
      rw [h2] at C2
      have H1 := Lib.hid C1
      have H2 := Lib.hid C2
      clear C1 C2 h1 h2 h hn hm
      go_enter Try.func43, Try.ntmps43
      go_wp2_with fail
      refine (H1.out _ (by exact (Rd.grows ha (by ((repeat' (first | with_reducible exact Below.refl _ _ | with_reducible assumption | (with_reducible refine Below.setCell ?_ ?_ _) | (with_reducible refine Below.alloc ?_ ?_ _) | (with_reducible refine Below.drew ?_) | (with_reducible refine below_drewN ?_ _))); all_goals (first | omega | (simp; done) | (simp; omega) | (simp [*]; done) | (simp at *; omega))))))).mono ?_; rintro e w1 ⟨rfl, g1⟩
      have rb : MBox w1 (w.heap.size + 2) 0 0 (.slice none 0 0) := by have := (MBox.mk_ ((w.alloc (.cells #[.int .i64 r, .int .i64 c, .slice A n ca] 40)).alloc (.cells #[.int .i64 r', .int .i64 c', .slice B m cb] 40)) 0 0 (.slice none 0 0) 40).grows (w' := w1) (by (have bz0 := Below.size (g1); (try simp at bz0); (repeat' (first | with_reducible exact Below.refl _ _ | with_reducible assumption | (with_reducible refine Below.setCell ?_ ?_ _) | (with_reducible refine Below.alloc ?_ ?_ _) | (with_reducible refine Below.drew ?_) | (with_reducible refine below_drewN ?_ _) | (with_reducible refine Below.trans ?_ (Below.mono (g1) ?_)))); all_goals (first | omega | (simp; done) | (simp; omega) | (simp [*]; done) | (simp at *; omega)))); simpa using this
      have mb0 : MBox w1 w.heap.size r c (.slice A n ca) := (MBox.mk_ w r c (.slice A n ca) 40).grows (by (have bz0 := Below.size (g1); (try simp at bz0); (repeat' (first | with_reducible exact Below.refl _ _ | with_reducible assumption | (with_reducible refine Below.setCell ?_ ?_ _) | (with_reducible refine Below.alloc ?_ ?_ _) | (with_reducible refine Below.drew ?_) | (with_reducible refine below_drewN ?_ _) | (with_reducible refine Below.trans ?_ (Below.mono (g1) ?_)))); all_goals (first | omega | (simp; done) | (simp; omega) | (simp [*]; done) | (simp at *; omega))))
      have mb1 : MBox w1 (w.heap.size + 1) r' c' (.slice B m cb) := by have := (MBox.mk_ (w.alloc (.cells #[.int .i64 r, .int .i64 c, .slice A n ca] 40)) r' c' (.slice B m cb) 40).grows (w' := w1) (by (have bz0 := Below.size (g1); (try simp at bz0); (repeat' (first | with_reducible exact Below.refl _ _ | with_reducible assumption | (with_reducible refine Below.setCell ?_ ?_ _) | (with_reducible refine Below.alloc ?_ ?_ _) | (with_reducible refine Below.drew ?_) | (with_reducible refine below_drewN ?_ _) | (with_reducible refine Below.trans ?_ (Below.mono (g1) ?_)))); all_goals (first | omega | (simp; done) | (simp; omega) | (simp [*]; done) | (simp at *; omega)))); simpa using this
      obtain ⟨b00, b01, b02⟩ := mb0.cells
      obtain ⟨b10, b11, b12⟩ := mb1.cells
      go_wp2_with fail
      refine (H2.out _ (by exact (Rd.grows hb (by (have bz0 := Below.size (g1); (try simp at bz0); (repeat' (first | with_reducible exact Below.refl _ _ | with_reducible assumption | (with_reducible refine Below.setCell ?_ ?_ _) | (with_reducible refine Below.alloc ?_ ?_ _) | (with_reducible refine Below.drew ?_) | (with_reducible refine below_drewN ?_ _) | (with_reducible refine Below.trans ?_ (Below.mono (g1) ?_)))); all_goals (first | omega | (simp; done) | (simp; omega) | (simp [*]; done) | (simp at *; omega))))))).mono ?_; rintro e w2 ⟨rfl, g2⟩
      replace rb := rb.grows g2
      obtain ⟨r0, r1, r2⟩ := rb.cells
      have rf := rb.fz
      go_wp2_with fail
      refine bodyPost_ret (v := .tuple #[.agg #[.int .i64 0, .int .i64 0, .slice none 0 0], .bool false]) ?_ rfl ?_
      · simp [results, Try.results43, go_sem, r0, r1, r2]
      · exact ⟨rfl, by (have bz0 := Below.size (g2); (try simp at bz0); have bz1 := Below.size (g1); (try simp at bz1); (repeat' (first | with_reducible exact Below.refl _ _ | with_reducible assumption | (with_reducible refine Below.setCell ?_ ?_ _) | (with_reducible refine Below.alloc ?_ ?_ _) | (with_reducible refine Below.drew ?_) | (with_reducible refine below_drewN ?_ _) | (with_reducible refine Below.trans ?_ (Below.mono (g2) ?_)) | (with_reducible refine Below.trans ?_ (Below.mono (g1) ?_)))); all_goals (first | omega | (simp; done) | (simp; omega) | (simp [*]; done) | (simp at *; omega)))⟩
    · have q1 := gram_bd h1
      have q2 := gram_bd h2
      have h3 : 6 < r + r' := by
        rcases h with h | h | h
        · rw [h1] at h; cases h
        · rw [h2] at h; cases h
        · simpa using h
      have e3 : IntKind.i64.wrap (r + r') = r + r' := IntWalk.i64_in _ (by omega)
      clear q1 q2
      rw [h1] at C1
      rw [h2] at C2
      have H1 := Lib.hid C1
      have H2 := Lib.hid C2
      clear C1 C2 h1 h2 h hn hm
      go_enter Try.func43, Try.ntmps43
      go_wp2_with fail
      refine (H1.out _ (by exact (Rd.grows ha (by ((repeat' (first | with_reducible exact Below.refl _ _ | with_reducible assumption | (with_reducible refine Below.setCell ?_ ?_ _) | (with_reducible refine Below.alloc ?_ ?_ _) | (with_reducible refine Below.drew ?_) | (with_reducible refine below_drewN ?_ _))); all_goals (first | omega | (simp; done) | (simp; omega) | (simp [*]; done) | (simp at *; omega))))))).mono ?_; rintro e w1 ⟨rfl, g1⟩
      have rb : MBox w1 (w.heap.size + 2) 0 0 (.slice none 0 0) := by have := (MBox.mk_ ((w.alloc (.cells #[.int .i64 r, .int .i64 c, .slice A n ca] 40)).alloc (.cells #[.int .i64 r', .int .i64 c', .slice B m cb] 40)) 0 0 (.slice none 0 0) 40).grows (w' := w1) (by (have bz0 := Below.size (g1); (try simp at bz0); (repeat' (first | with_reducible exact Below.refl _ _ | with_reducible assumption | (with_reducible refine Below.setCell ?_ ?_ _) | (with_reducible refine Below.alloc ?_ ?_ _) | (with_reducible refine Below.drew ?_) | (with_reducible refine below_drewN ?_ _) | (with_reducible refine Below.trans ?_ (Below.mono (g1) ?_)))); all_goals (first | omega | (simp; done) | (simp; omega) | (simp [*]; done) | (simp at *; omega)))); simpa using this
      have mb0 : MBox w1 w.heap.size r c (.slice A n ca) := (MBox.mk_ w r c (.slice A n ca) 40).grows (by (have bz0 := Below.size (g1); (try simp at bz0); (repeat' (first | with_reducible exact Below.refl _ _ | with_reducible assumption | (with_reducible refine Below.setCell ?_ ?_ _) | (with_reducible refine Below.alloc ?_ ?_ _) | (with_reducible refine Below.drew ?_) | (with_reducible refine below_drewN ?_ _) | (with_reducible refine Below.trans ?_ (Below.mono (g1) ?_)))); all_goals (first | omega | (simp; done) | (simp; omega) | (simp [*]; done) | (simp at *; omega))))
      have mb1 : MBox w1 (w.heap.size + 1) r' c' (.slice B m cb) := by have := (MBox.mk_ (w.alloc (.cells #[.int .i64 r, .int .i64 c, .slice A n ca] 40)) r' c' (.slice B m cb) 40).grows (w' := w1) (by (have bz0 := Below.size (g1); (try simp at bz0); (repeat' (first | with_reducible exact Below.refl _ _ | with_reducible assumption | (with_reducible refine Below.setCell ?_ ?_ _) | (with_reducible refine Below.alloc ?_ ?_ _) | (with_reducible refine Below.drew ?_) | (with_reducible refine below_drewN ?_ _) | (with_reducible refine Below.trans ?_ (Below.mono (g1) ?_)))); all_goals (first | omega | (simp; done) | (simp; omega) | (simp [*]; done) | (simp at *; omega)))); simpa using this
      obtain ⟨b00, b01, b02⟩ := mb0.cells
      obtain ⟨b10, b11, b12⟩ := mb1.cells
      go_wp2_with fail
      refine (H2.out _ (by exact (Rd.grows hb (by (have bz0 := Below.size (g1); (try simp at bz0); (repeat' (first | with_reducible exact Below.refl _ _ | with_reducible assumption | (with_reducible refine Below.setCell ?_ ?_ _) | (with_reducible refine Below.alloc ?_ ?_ _) | (with_reducible refine Below.drew ?_) | (with_reducible refine below_drewN ?_ _) | (with_reducible refine Below.trans ?_ (Below.mono (g1) ?_)))); all_goals (first | omega | (simp; done) | (simp; omega) | (simp [*]; done) | (simp at *; omega))))))).mono ?_; rintro e w2 ⟨rfl, g2⟩
      replace rb := rb.grows g2
      replace mb0 := mb0.grows g2
      replace mb1 := mb1.grows g2
      clear b00 b01 b02 b10 b11 b12
      obtain ⟨b00, b01, b02⟩ := mb0.cells
      obtain ⟨b10, b11, b12⟩ := mb1.cells
      obtain ⟨r0, r1, r2⟩ := rb.cells
      have rf := rb.fz
      go_wp2_with fail
      refine bodyPost_ret (v := .tuple #[.agg #[.int .i64 0, .int .i64 0, .slice none 0 0], .bool false]) ?_ rfl ?_
      · simp [results, Try.results43, go_sem, r0, r1, r2]
      · exact ⟨rfl, by (have bz0 := Below.size (g2); (try simp at bz0); have bz1 := Below.size (g1); (try simp at bz1); (repeat' (first | with_reducible exact Below.refl _ _ | with_reducible assumption | (with_reducible refine Below.setCell ?_ ?_ _) | (with_reducible refine Below.alloc ?_ ?_ _) | (with_reducible refine Below.drew ?_) | (with_reducible refine below_drewN ?_ _) | (with_reducible refine Below.trans ?_ (Below.mono (g2) ?_)) | (with_reducible refine Below.trans ?_ (Below.mono (g1) ?_)))); all_goals (first | omega | (simp; done) | (simp; omega) | (simp [*]; done) | (simp at *; omega)))⟩
end
end Go.Proofs.Ytfloeilpghjpoaa
