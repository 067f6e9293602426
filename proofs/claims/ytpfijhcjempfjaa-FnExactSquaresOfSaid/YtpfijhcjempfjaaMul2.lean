/- Contracts: products of matrices, whatever the arguments. -/
import Derived.Test.YtpfijhcjempfjaaMul
namespace Go.Proofs.Ytpfijhcjempfjaa
open Go.RowKit

section
set_option maxHeartbeats 2000000

theorem iMul_no (r c r' c' : Int) (A B : Option Addr) (a b : List Int) (n m ca cb : Nat) (w : World) (hn : a.length = n) (hm : b.length = m) (ha : Rd w A a) (hb : Rd w B b) (hl : n ≤ 1099511627776) (hl2 : m ≤ 1099511627776) (h : isMat r c a = false ∨ isMat r' c' b = false ∨ (c == r') = false) :
    Calls Try.prog 58 #[.agg #[.int .i64 r, .int .i64 c, .slice A n ca], .agg #[.int .i64 r', .int .i64 c', .slice B m cb]] w fun e w' => e = .returned (.tuple #[.agg #[.int .i64 0, .int .i64 0, .slice none 0 0], .bool false]) ∧ Grows w w' := by
  have C1 := fun W h => iIsMatrix_c r c A a n ca W hn h hl
  have C2 := fun W h => iIsMatrix_c r' c' B b m cb W hm h hl2
  cases h1 : isMat r c a
  · rw [h1] at C1
    have H1 := Lib.hid C1
    clear C1 C2 h1 h hn hm
    go_enter Try.func58, Try.ntmps58
    go_wp2_with fail
    refine (H1.out _ (by exact (Rd.grows ha (by ((repeat' (first | with_reducible exact Below.refl _ _ | with_reducible assumption | (with_reducible refine Below.setCell ?_ ?_ _) | (with_reducible refine Below.alloc ?_ ?_ _) | (with_reducible refine Below.drew ?_) | (with_reducible refine below_drewN ?_ _))); all_goals (first | omega | (simp; done) | (simp; omega) | (simp [*]; done) | (simp at *; omega))))))).mono ?_; rintro e w1 ⟨rfl, g1⟩
    have rb : MBox w1 (w.heap.size + 2) 0 0 (.slice none 0 0) := by have := (MBox.mk_ ((w.alloc (.cells #[.int .i64 r, .int .i64 c, .slice A n ca] 26)).alloc (.cells #[.int .i64 r', .int .i64 c', .slice B m cb] 26)) 0 0 (.slice none 0 0) 26).grows (w' := w1) (by (have bz0 := Below.size (g1); (try simp at bz0); (repeat' (first | with_reducible exact Below.refl _ _ | with_reducible assumption | (with_reducible refine Below.setCell ?_ ?_ _) | (with_reducible refine Below.alloc ?_ ?_ _) | (with_reducible refine Below.drew ?_) | (with_reducible refine below_drewN ?_ _) | (with_reducible refine Below.trans ?_ (Below.mono (g1) ?_)))); all_goals (first | omega | (simp; done) | (simp; omega) | (simp [*]; done) | (simp at *; omega)))); simpa using this
    have mb0 : MBox w1 w.heap.size r c (.slice A n ca) := (MBox.mk_ w r c (.slice A n ca) 26).grows (by (have bz0 := Below.size (g1); (try simp at bz0); (repeat' (first | with_reducible exact Below.refl _ _ | with_reducible assumption | (with_reducible refine Below.setCell ?_ ?_ _) | (with_reducible refine Below.alloc ?_ ?_ _) | (with_reducible refine Below.drew ?_) | (with_reducible refine below_drewN ?_ _) | (with_reducible refine Below.trans ?_ (Below.mono (g1) ?_)))); all_goals (first | omega | (simp; done) | (simp; omega) | (simp [*]; done) | (simp at *; omega))))
    have mb1 : MBox w1 (w.heap.size + 1) r' c' (.slice B m cb) := by have := (MBox.mk_ (w.alloc (.cells #[.int .i64 r, .int .i64 c, .slice A n ca] 26)) r' c' (.slice B m cb) 26).grows (w' := w1) (by (have bz0 := Below.size (g1); (try simp at bz0); (repeat' (first | with_reducible exact Below.refl _ _ | with_reducible assumption | (with_reducible refine Below.setCell ?_ ?_ _) | (with_reducible refine Below.alloc ?_ ?_ _) | (with_reducible refine Below.drew ?_) | (with_reducible refine below_drewN ?_ _) | (with_reducible refine Below.trans ?_ (Below.mono (g1) ?_)))); all_goals (first | omega | (simp; done) | (simp; omega) | (simp [*]; done) | (simp at *; omega)))); simpa using this
    obtain ⟨r0, r1, r2⟩ := rb.cells
    have rf := rb.fz
    go_wp2_with fail
    refine bodyPost_ret (v := .tuple #[.agg #[.int .i64 0, .int .i64 0, .slice none 0 0], .bool false]) ?_ rfl ?_
    · simp [results, Try.results58, go_sem, r0, r1, r2]
    · exact ⟨rfl, by (have bz0 := Below.size (g1); (try simp at bz0); (repeat' (first | with_reducible exact Below.refl _ _ | with_reducible assumption | (with_reducible refine Below.setCell ?_ ?_ _) | (with_reducible refine Below.alloc ?_ ?_ _) | (with_reducible refine Below.drew ?_) | (with_reducible refine below_drewN ?_ _) | (with_reducible refine Below.trans ?_ (Below.mono (g1) ?_)))); all_goals (first | omega | (simp; done) | (simp; omega) | (simp [*]; done) | (simp at *; omega)))⟩
  · cases h2 : isMat r' c' b
    · rw [h1] at C1
      rw [h2] at C2
      have H1 := Lib.hid C1
      have H2 := Lib.hid C2
      clear C1 C2 h1 h2 h hn hm
      go_enter Try.func58, Try.ntmps58
      go_wp2_with fail
      refine (H1.out _ (by exact (Rd.grows ha (by ((repeat' (first | with_reducible exact Below.refl _ _ | with_reducible assumption | (with_reducible refine Below.setCell ?_ ?_ _) | (with_reducible refine Below.alloc ?_ ?_ _) | (with_reducible refine Below.drew ?_) | (with_reducible refine below_drewN ?_ _))); all_goals (first | omega | (simp; done) | (simp; omega) | (simp [*]; done) | (simp at *; omega))))))).mono ?_; rintro e w1 ⟨rfl, g1⟩
      have rb : MBox w1 (w.heap.size + 2) 0 0 (.slice none 0 0) := by have := (MBox.mk_ ((w.alloc (.cells #[.int .i64 r, .int .i64 c, .slice A n ca] 26)).alloc (.cells #[.int .i64 r', .int .i64 c', .slice B m cb] 26)) 0 0 (.slice none 0 0) 26).grows (w' := w1) (by (have bz0 := Below.size (g1); (try simp at bz0); (repeat' (first | with_reducible exact Below.refl _ _ | with_reducible assumption | (with_reducible refine Below.setCell ?_ ?_ _) | (with_reducible refine Below.alloc ?_ ?_ _) | (with_reducible refine Below.drew ?_) | (with_reducible refine below_drewN ?_ _) | (with_reducible refine Below.trans ?_ (Below.mono (g1) ?_)))); all_goals (first | omega | (simp; done) | (simp; omega) | (simp [*]; done) | (simp at *; omega)))); simpa using this
      have mb0 : MBox w1 w.heap.size r c (.slice A n ca) := (MBox.mk_ w r c (.slice A n ca) 26).grows (by (have bz0 := Below.size (g1); (try simp at bz0); (repeat' (first | with_reducible exact Below.refl _ _ | with_reducible assumption | (with_reducible refine Below.setCell ?_ ?_ _) | (with_reducible refine Below.alloc ?_ ?_ _) | (with_reducible refine Below.drew ?_) | (with_reducible refine below_drewN ?_ _) | (with_reducible refine Below.trans ?_ (Below.mono (g1) ?_)))); all_goals (first | omega | (simp; done) | (simp; omega) | (simp [*]; done) | (simp at *; omega))))
      have mb1 : MBox w1 (w.heap.size + 1) r' c' (.slice B m cb) := by have := (MBox.mk_ (w.alloc (.cells #[.int .i64 r, .int .i64 c, .slice A n ca] 26)) r' c' (.slice B m cb) 26).grows (w' := w1) (by (have bz0 := Below.size (g1); (try simp at bz0); (repeat' (first | with_reducible exact Below.refl _ _ | with_reducible assumption | (with_reducible refine Below.setCell ?_ ?_ _) | (with_reducible refine Below.alloc ?_ ?_ _) | (with_reducible refine Below.drew ?_) | (with_reducible refine below_drewN ?_ _) | (with_reducible refine Below.trans ?_ (Below.mono (g1) ?_)))); all_goals (first | omega | (simp; done) | (simp; omega) | (simp [*]; done) | (simp at *; omega)))); simpa using this
      obtain ⟨b00, b01, b02⟩ := mb0.cells
      obtain ⟨b10, b11, b12⟩ := mb1.cells
      go_wp2_with fail
      refine (H2.out _ (by exact (Rd.grows hb (by (have bz0 := Below.size (g1); (try simp at bz0); (repeat' (first | with_reducible exact Below.refl _ _ | with_reducible assumption | (with_reducible refine Below.setCell ?_ ?_ _) | (with_reducible refine Below.alloc ?_ ?_ _) | (with_reducible refine Below.drew ?_) | (with_reducible refine below_drewN ?_ _) | (with_reducible refine Below.trans ?_ (Below.mono (g1) ?_)))); all_goals (first | omega | (simp; done) | (simp; omega) | (simp [*]; done) | (simp at *; omega))))))).mono ?_; rintro e w2 ⟨rfl, g2⟩
      replace rb := rb.grows g2
      obtain ⟨r0, r1, r2⟩ := rb.cells
      have rf := rb.fz
      go_wp2_with fail
      refine bodyPost_ret (v := .tuple #[.agg #[.int .i64 0, .int .i64 0, .slice none 0 0], .bool false]) ?_ rfl ?_
      · simp [results, Try.results58, go_sem, r0, r1, r2]
      · exact ⟨rfl, by (have bz0 := Below.size (g2); (try simp at bz0); have bz1 := Below.size (g1); (try simp at bz1); (repeat' (first | with_reducible exact Below.refl _ _ | with_reducible assumption | (with_reducible refine Below.setCell ?_ ?_ _) | (with_reducible refine Below.alloc ?_ ?_ _) | (with_reducible refine Below.drew ?_) | (with_reducible refine below_drewN ?_ _) | (with_reducible refine Below.trans ?_ (Below.mono (g2) ?_)) | (with_reducible refine Below.trans ?_ (Below.mono (g1) ?_)))); all_goals (first | omega | (simp; done) | (simp; omega) | (simp [*]; done) | (simp at *; omega)))⟩
    · have h3 : (c == r') = false := by
        rcases h with h | h | h
        · rw [h1] at h; cases h
        · rw [h2] at h; cases h
        · exact h
      have h3' : (c != r') = true := by simp only [bne, h3]; rfl
      rw [h1] at C1
      rw [h2] at C2
      have H1 := Lib.hid C1
      have H2 := Lib.hid C2
      clear C1 C2 h1 h2 h h3 hn hm
      go_enter Try.func58, Try.ntmps58
      go_wp2_with fail
      refine (H1.out _ (by exact (Rd.grows ha (by ((repeat' (first | with_reducible exact Below.refl _ _ | with_reducible assumption | (with_reducible refine Below.setCell ?_ ?_ _) | (with_reducible refine Below.alloc ?_ ?_ _) | (with_reducible refine Below.drew ?_) | (with_reducible refine below_drewN ?_ _))); all_goals (first | omega | (simp; done) | (simp; omega) | (simp [*]; done) | (simp at *; omega))))))).mono ?_; rintro e w1 ⟨rfl, g1⟩
      have rb : MBox w1 (w.heap.size + 2) 0 0 (.slice none 0 0) := by have := (MBox.mk_ ((w.alloc (.cells #[.int .i64 r, .int .i64 c, .slice A n ca] 26)).alloc (.cells #[.int .i64 r', .int .i64 c', .slice B m cb] 26)) 0 0 (.slice none 0 0) 26).grows (w' := w1) (by (have bz0 := Below.size (g1); (try simp at bz0); (repeat' (first | with_reducible exact Below.refl _ _ | with_reducible assumption | (with_reducible refine Below.setCell ?_ ?_ _) | (with_reducible refine Below.alloc ?_ ?_ _) | (with_reducible refine Below.drew ?_) | (with_reducible refine below_drewN ?_ _) | (with_reducible refine Below.trans ?_ (Below.mono (g1) ?_)))); all_goals (first | omega | (simp; done) | (simp; omega) | (simp [*]; done) | (simp at *; omega)))); simpa using this
      have mb0 : MBox w1 w.heap.size r c (.slice A n ca) := (MBox.mk_ w r c (.slice A n ca) 26).grows (by (have bz0 := Below.size (g1); (try simp at bz0); (repeat' (first | with_reducible exact Below.refl _ _ | with_reducible assumption | (with_reducible refine Below.setCell ?_ ?_ _) | (with_reducible refine Below.alloc ?_ ?_ _) | (with_reducible refine Below.drew ?_) | (with_reducible refine below_drewN ?_ _) | (with_reducible refine Below.trans ?_ (Below.mono (g1) ?_)))); all_goals (first | omega | (simp; done) | (simp; omega) | (simp [*]; done) | (simp at *; omega))))
      have mb1 : MBox w1 (w.heap.size + 1) r' c' (.slice B m cb) := by have := (MBox.mk_ (w.alloc (.cells #[.int .i64 r, .int .i64 c, .slice A n ca] 26)) r' c' (.slice B m cb) 26).grows (w' := w1) (by (have bz0 := Below.size (g1); (try simp at bz0); (repeat' (first | with_reducible exact Below.refl _ _ | with_reducible assumption | (with_reducible refine Below.setCell ?_ ?_ _) | (with_reducible refine Below.alloc ?_ ?_ _) | (with_reducible refine Below.drew ?_) | (with_reducible refine below_drewN ?_ _) | (with_reducible refine Below.trans ?_ (Below.mono (g1) ?_)))); all_goals (first | omega | (simp; done) | (simp; omega) | (simp [*]; done) | (simp at *; omega)))); simpa using this
      obtain ⟨b00, b01, b02⟩ := mb0.cells
      obtain ⟨b10, b11, b12⟩ := mb1.cells
      go_wp2_with fail
      refine (H2.out _ (by exact (Rd.grows hb (by (have bz0 := Below.size (g1); (try simp at bz0); (repeat' (first | with_reducible exact Below.refl _ _ | with_reducible assumption | (with_reducible refine Below.setCell ?_ ?_ _) | (with_reducible refine Below.alloc ?_ ?_ _) | (with_reducible refine Below.drew ?_) | (with_reducible refine below_drewN ?_ _) | (with_reducible refine Below.trans ?_ (Below.mono (g1) ?_)))); all_goals (first | omega | (simp; done) | (simp; omega) | (simp [*]; done) | (simp at *; omega))))))).mono ?_; rintro e w2 ⟨rfl, g2⟩
      replace rb := rb.grows g2
      replace mb0 := mb0.grows g2
      replace mb1 := mb1.grows g2
      clear b00 b01 b02 b10 b11 b12
      obtain ⟨b00, b01, b02⟩ := mb0.cells
      obtain ⟨b10, b11, b12⟩ := mb1.cells
      obtain ⟨r0, r1, r2⟩ := rb.cells
      have rf := rb.fz
      go_wp2_with fail
      refine bodyPost_ret (v := .tuple #[.agg #[.int .i64 0, .int .i64 0, .slice none 0 0], .bool false]) ?_ rfl ?_
      · simp [results, Try.results58, go_sem, r0, r1, r2]
      · exact ⟨rfl, by (have bz0 := Below.size (g2); (try simp at bz0); have bz1 := Below.size (g1); (try simp at bz1); (repeat' (first | with_reducible exact Below.refl _ _ | with_reducible assumption | (with_reducible refine Below.setCell ?_ ?_ _) | (with_reducible refine Below.alloc ?_ ?_ _) | (with_reducible refine Below.drew ?_) | (with_reducible refine below_drewN ?_ _) | (with_reducible refine Below.trans ?_ (Below.mono (g2) ?_)) | (with_reducible refine Below.trans ?_ (Below.mono (g1) ?_)))); all_goals (first | omega | (simp; done) | (simp; omega) | (simp [*]; done) | (simp at *; omega)))⟩

theorem iMul_c (r c r' c' : Int) (A B : Option Addr) (a b : List Int) (n m ca cb : Nat) (w : World) (hn : a.length = n) (hm : b.length = m) (ha : Rd w A a) (hb : Rd w B b) (hl : n ≤ 1099511627776) (hl2 : m ≤ 1099511627776) :
    Calls Try.prog 58 #[.agg #[.int .i64 r, .int .i64 c, .slice A n ca], .agg #[.int .i64 r', .int .i64 c', .slice B m cb]] w fun e w' =>
      ∃ v, e = .returned (.tuple #[.agg #[.int .i64 (mulR r c a r' c' b), .int .i64 (mulC r c a r' c' b), v], .bool (mulOk r c a r' c' b)]) ∧ Own w' w.heap.size v (mulV r c a r' c' b) ∧ Grows w w' := by
  by_cases h : isMat r c a = false ∨ isMat r' c' b = false ∨ (c == r') = false
  · have e0 : mulOk r c a r' c' b = false := by
      rcases h with h | h | h
      · exact mulOk_no1 h
      · exact mulOk_no2 h
      · exact mulOk_no3 h
    obtain ⟨e1, e2, e3⟩ := mul_no e0
    rw [e0, e1, e2, e3]
    exact (iMul_no r c r' c' A B a b n m ca cb w hn hm ha hb hl hl2 h).mono fun e w' ⟨he, hg⟩ => ⟨_, he, Own.nil _ _, hg⟩
  · have h1 : isMat r c a = true := by
      cases e : isMat r c a
      · exact absurd (.inl e) h
      · rfl
    have h2 : isMat r' c' b = true := by
      cases e : isMat r' c' b
      · exact absurd (.inr (.inl e)) h
      · rfl
    have h3 : c = r' := by
      cases e : (c == r')
      · exact absurd (.inr (.inr e)) h
      · exact beq_iff_eq.1 e
    subst h3
    obtain ⟨R, K, rfl, rfl, _⟩ := isMat_nat h1
    obtain ⟨K', C, e1, rfl, _⟩ := isMat_nat h2
    have := iMul_yes (allNum (mulL R K C a b)) R K C A B a b n m ca cb w hn hm ha hb h1 h2 rfl
    unfold mulR mulC mulV
    rw [mulOk_nat h1 h2]
    simp only [Int.toNat_natCast]
    exact this


theorem sMul_no (r c r' c' : Int) (A B : Option Addr) (a b : List Int) (n m ca cb : Nat) (w : World) (hn : a.length = n) (hm : b.length = m) (ha : Rd w A a) (hb : Rd w B b) (hl : n ≤ 1099511627776) (hl2 : m ≤ 1099511627776) (h : isMat r c a = false ∨ isMat r' c' b = false ∨ (c == r') = false) :
    Calls Try.prog 54 #[.agg #[.int .i64 r, .int .i64 c, .slice A n ca], .agg #[.int .i64 r', .int .i64 c', .slice B m cb]] w fun e w' => e = .returned (.tuple #[.agg #[.int .i64 0, .int .i64 0, .slice none 0 0], .bool false]) ∧ Grows w w' := by
  have C1 := fun W h => sIsMatrix_c r c A a n ca W hn h hl
  have C2 := fun W h => sIsMatrix_c r' c' B b m cb W hm h hl2
  cases h1 : isMat r c a
  · rw [h1] at C1
    have H1 := Lib.hid C1
    clear C1 C2 h1 h hn hm
    go_enter Try.func54, Try.ntmps54
    go_wp2_with fail
    refine (H1.out _ (by exact (Rd.grows ha (by ((repeat' (first | with_reducible exact Below.refl _ _ | with_reducible assumption | (with_reducible refine Below.setCell ?_ ?_ _) | (with_reducible refine Below.alloc ?_ ?_ _) | (with_reducible refine Below.drew ?_) | (with_reducible refine below_drewN ?_ _))); all_goals (first | omega | (simp; done) | (simp; omega) | (simp [*]; done) | (simp at *; omega))))))).mono ?_; rintro e w1 ⟨rfl, g1⟩
    have rb : MBox w1 (w.heap.size + 2) 0 0 (.slice none 0 0) := by have := (MBox.mk_ ((w.alloc (.cells #[.int .i64 r, .int .i64 c, .slice A n ca] 26)).alloc (.cells #[.int .i64 r', .int .i64 c', .slice B m cb] 26)) 0 0 (.slice none 0 0) 26).grows (w' := w1) (by (have bz0 := Below.size (g1); (try simp at bz0); (repeat' (first | with_reducible exact Below.refl _ _ | with_reducible assumption | (with_reducible refine Below.setCell ?_ ?_ _) | (with_reducible refine Below.alloc ?_ ?_ _) | (with_reducible refine Below.drew ?_) | (with_reducible refine below_drewN ?_ _) | (with_reducible refine Below.trans ?_ (Below.mono (g1) ?_)))); all_goals (first | omega | (simp; done) | (simp; omega) | (simp [*]; done) | (simp at *; omega)))); simpa using this
    have mb0 : MBox w1 w.heap.size r c (.slice A n ca) := (MBox.mk_ w r c (.slice A n ca) 26).grows (by (have bz0 := Below.size (g1); (try simp at bz0); (repeat' (first | with_reducible exact Below.refl _ _ | with_reducible assumption | (with_reducible refine Below.setCell ?_ ?_ _) | (with_reducible refine Below.alloc ?_ ?_ _) | (with_reducible refine Below.drew ?_) | (with_reducible refine below_drewN ?_ _) | (with_reducible refine Below.trans ?_ (Below.mono (g1) ?_)))); all_goals (first | omega | (simp; done) | (simp; omega) | (simp [*]; done) | (simp at *; omega))))
    have mb1 : MBox w1 (w.heap.size + 1) r' c' (.slice B m cb) := by have := (MBox.mk_ (w.alloc (.cells #[.int .i64 r, .int .i64 c, .slice A n ca] 26)) r' c' (.slice B m cb) 26).grows (w' := w1) (by (have bz0 := Below.size (g1); (try simp at bz0); (repeat' (first | with_reducible exact Below.refl _ _ | with_reducible assumption | (with_reducible refine Below.setCell ?_ ?_ _) | (with_reducible refine Below.alloc ?_ ?_ _) | (with_reducible refine Below.drew ?_) | (with_reducible refine below_drewN ?_ _) | (with_reducible refine Below.trans ?_ (Below.mono (g1) ?_)))); all_goals (first | omega | (simp; done) | (simp; omega) | (simp [*]; done) | (simp at *; omega)))); simpa using this
    obtain ⟨r0, r1, r2⟩ := rb.cells
    have rf := rb.fz
    go_wp2_with fail
    refine bodyPost_ret (v := .tuple #[.agg #[.int .i64 0, .int .i64 0, .slice none 0 0], .bool false]) ?_ rfl ?_
    · simp [results, Try.results54, go_sem, r0, r1, r2]
    · exact ⟨rfl, by (have bz0 := Below.size (g1); (try simp at bz0); (repeat' (first | with_reducible exact Below.refl _ _ | with_reducible assumption | (with_reducible refine Below.setCell ?_ ?_ _) | (with_reducible refine Below.alloc ?_ ?_ _) | (with_reducible refine Below.drew ?_) | (with_reducible refine below_drewN ?_ _) | (with_reducible refine Below.trans ?_ (Below.mono (g1) ?_)))); all_goals (first | omega | (simp; done) | (simp; omega) | (simp [*]; done) | (simp at *; omega)))⟩
  · cases h2 : isMat r' c' b
    · rw [h1] at C1
      rw [h2] at C2
      have H1 := Lib.hid C1
      have H2 := Lib.hid C2
      clear C1 C2 h1 h2 h hn hm
      go_enter Try.func54, Try.ntmps54
      go_wp2_with fail
      refine (H1.out _ (by exact (Rd.grows ha (by ((repeat' (first | with_reducible exact Below.refl _ _ | with_reducible assumption | (with_reducible refine Below.setCell ?_ ?_ _) | (with_reducible refine Below.alloc ?_ ?_ _) | (with_reducible refine Below.drew ?_) | (with_reducible refine below_drewN ?_ _))); all_goals (first | omega | (simp; done) | (simp; omega) | (simp [*]; done) | (simp at *; omega))))))).mono ?_; rintro e w1 ⟨rfl, g1⟩
      have rb : MBox w1 (w.heap.size + 2) 0 0 (.slice none 0 0) := by have := (MBox.mk_ ((w.alloc (.cells #[.int .i64 r, .int .i64 c, .slice A n ca] 26)).alloc (.cells #[.int .i64 r', .int .i64 c', .slice B m cb] 26)) 0 0 (.slice none 0 0) 26).grows (w' := w1) (by (have bz0 := Below.size (g1); (try simp at bz0); (repeat' (first | with_reducible exact Below.refl _ _ | with_reducible assumption | (with_reducible refine Below.setCell ?_ ?_ _) | (with_reducible refine Below.alloc ?_ ?_ _) | (with_reducible refine Below.drew ?_) | (with_reducible refine below_drewN ?_ _) | (with_reducible refine Below.trans ?_ (Below.mono (g1) ?_)))); all_goals (first | omega | (simp; done) | (simp; omega) | (simp [*]; done) | (simp at *; omega)))); simpa using this
      have mb0 : MBox w1 w.heap.size r c (.slice A n ca) := (MBox.mk_ w r c (.slice A n ca) 26).grows (by (have bz0 := Below.size (g1); (try simp at bz0); (repeat' (first | with_reducible exact Below.refl _ _ | with_reducible assumption | (with_reducible refine Below.setCell ?_ ?_ _) | (with_reducible refine Below.alloc ?_ ?_ _) | (with_reducible refine Below.drew ?_) | (with_reducible refine below_drewN ?_ _) | (with_reducible refine Below.trans ?_ (Below.mono (g1) ?_)))); all_goals (first | omega | (simp; done) | (simp; omega) | (simp [*]; done) | (simp at *; omega))))
      have mb1 : MBox w1 (w.heap.size + 1) r' c' (.slice B m cb) := by have := (MBox.mk_ (w.alloc (.cells #[.int .i64 r, .int .i64 c, .slice A n ca] 26)) r' c' (.slice B m cb) 26).grows (w' := w1) (by (have bz0 := Below.size (g1); (try simp at bz0); (repeat' (first | with_reducible exact Below.refl _ _ | with_reducible assumption | (with_reducible refine Below.setCell ?_ ?_ _) | (with_reducible refine Below.alloc ?_ ?_ _) | (with_reducible refine Below.drew ?_) | (with_reducible refine below_drewN ?_ _) | (with_reducible refine Below.trans ?_ (Below.mono (g1) ?_)))); all_goals (first | omega | (simp; done) | (simp; omega) | (simp [*]; done) | (simp at *; omega)))); simpa using this
      obtain ⟨b00, b01, b02⟩ := mb0.cells
      obtain ⟨b10, b11, b12⟩ := mb1.cells
      go_wp2_with fail
      refine (H2.out _ (by exact (Rd.grows hb (by (have bz0 := Below.size (g1); (try simp at bz0); (repeat' (first | with_reducible exact Below.refl _ _ | with_reducible assumption | (with_reducible refine Below.setCell ?_ ?_ _) | (with_reducible refine Below.alloc ?_ ?_ _) | (with_reducible refine Below.drew ?_) | (with_reducible refine below_drewN ?_ _) | (with_reducible refine Below.trans ?_ (Below.mono (g1) ?_)))); all_goals (first | omega | (simp; done) | (simp; omega) | (simp [*]; done) | (simp at *; omega))))))).mono ?_; rintro e w2 ⟨rfl, g2⟩
      replace rb := rb.grows g2
      obtain ⟨r0, r1, r2⟩ := rb.cells
      have rf := rb.fz
      go_wp2_with fail
      refine bodyPost_ret (v := .tuple #[.agg #[.int .i64 0, .int .i64 0, .slice none 0 0], .bool false]) ?_ rfl ?_
      · simp [results, Try.results54, go_sem, r0, r1, r2]
      · exact ⟨rfl, by (have bz0 := Below.size (g2); (try simp at bz0); have bz1 := Below.size (g1); (try simp at bz1); (repeat' (first | with_reducible exact Below.refl _ _ | with_reducible assumption | (with_reducible refine Below.setCell ?_ ?_ _) | (with_reducible refine Below.alloc ?_ ?_ _) | (with_reducible refine Below.drew ?_) | (with_reducible refine below_drewN ?_ _) | (with_reducible refine Below.trans ?_ (Below.mono (g2) ?_)) | (with_reducible refine Below.trans ?_ (Below.mono (g1) ?_)))); all_goals (first | omega | (simp; done) | (simp; omega) | (simp [*]; done) | (simp at *; omega)))⟩
    · have h3 : (c == r') = false := by
        rcases h with h | h | h
        · rw [h1] at h; cases h
        · rw [h2] at h; cases h
        · exact h
      have h3' : (c != r') = true := by simp only [bne, h3]; rfl
      rw [h1] at C1
      rw [h2] at C2
      have H1 := Lib.hid C1
      have H2 := Lib.hid C2
      clear C1 C2 h1 h2 h h3 hn hm
      go_enter Try.func54, Try.ntmps54
      go_wp2_with fail
      refine (H1.out _ (by exact (Rd.grows ha (by ((repeat' (first | with_reducible exact Below.refl _ _ | with_reducible assumption | (with_reducible refine Below.setCell ?_ ?_ _) | (with_reducible refine Below.alloc ?_ ?_ _) | (with_reducible refine Below.drew ?_) | (with_reducible refine below_drewN ?_ _))); all_goals (first | omega | (simp; done) | (simp; omega) | (simp [*]; done) | (simp at *; omega))))))).mono ?_; rintro e w1 ⟨rfl, g1⟩
      have rb : MBox w1 (w.heap.size + 2) 0 0 (.slice none 0 0) := by have := (MBox.mk_ ((w.alloc (.cells #[.int .i64 r, .int .i64 c, .slice A n ca] 26)).alloc (.cells #[.int .i64 r', .int .i64 c', .slice B m cb] 26)) 0 0 (.slice none 0 0) 26).grows (w' := w1) (by (have bz0 := Below.size (g1); (try simp at bz0); (repeat' (first | with_reducible exact Below.refl _ _ | with_reducible assumption | (with_reducible refine Below.setCell ?_ ?_ _) | (with_reducible refine Below.alloc ?_ ?_ _) | (with_reducible refine Below.drew ?_) | (with_reducible refine below_drewN ?_ _) | (with_reducible refine Below.trans ?_ (Below.mono (g1) ?_)))); all_goals (first | omega | (simp; done) | (simp; omega) | (simp [*]; done) | (simp at *; omega)))); simpa using this
      have mb0 : MBox w1 w.heap.size r c (.slice A n ca) := (MBox.mk_ w r c (.slice A n ca) 26).grows (by (have bz0 := Below.size (g1); (try simp at bz0); (repeat' (first | with_reducible exact Below.refl _ _ | with_reducible assumption | (with_reducible refine Below.setCell ?_ ?_ _) | (with_reducible refine Below.alloc ?_ ?_ _) | (with_reducible refine Below.drew ?_) | (with_reducible refine below_drewN ?_ _) | (with_reducible refine Below.trans ?_ (Below.mono (g1) ?_)))); all_goals (first | omega | (simp; done) | (simp; omega) | (simp [*]; done) | (simp at *; omega))))
      have mb1 : MBox w1 (w.heap.size + 1) r' c' (.slice B m cb) := by have := (MBox.mk_ (w.alloc (.cells #[.int .i64 r, .int .i64 c, .slice A n ca] 26)) r' c' (.slice B m cb) 26).grows (w' := w1) (by (have bz0 := Below.size (g1); (try simp at bz0); (repeat' (first | with_reducible exact Below.refl _ _ | with_reducible assumption | (with_reducible refine Below.setCell ?_ ?_ _) | (with_reducible refine Below.alloc ?_ ?_ _) | (with_reducible refine Below.drew ?_) | (with_reducible refine below_drewN ?_ _) | (with_reducible refine Below.trans ?_ (Below.mono (g1) ?_)))); all_goals (first | omega | (simp; done) | (simp; omega) | (simp [*]; done) | (simp at *; omega)))); simpa using this
      obtain ⟨b00, b01, b02⟩ := mb0.cells
      obtain ⟨b10, b11, b12⟩ := mb1.cells
      go_wp2_with fail
      refine (H2.out _ (by exact (Rd.grows hb (by (have bz0 := Below.size (g1); (try simp at bz0); (repeat' (first | with_reducible exact Below.refl _ _ | with_reducible assumption | (with_reducible refine Below.setCell ?_ ?_ _) | (with_reducible refine Below.alloc ?_ ?_ _) | (with_reducible refine Below.drew ?_) | (with_reducible refine below_drewN ?_ _) | (with_reducible refine Below.trans ?_ (Below.mono (g1) ?_)))); all_goals (first | omega | (simp; done) | (simp; omega) | (simp [*]; done) | (simp at *; omega))))))).mono ?_; rintro e w2 ⟨rfl, g2⟩
      replace rb := rb.grows g2
      replace mb0 := mb0.grows g2
      replace mb1 := mb1.grows g2
      clear b00 b01 b02 b10 b11 b12
      obtain ⟨b00, b01, b02⟩ := mb0.cells
      obtain ⟨b10, b11, b12⟩ := mb1.cells
      obtain ⟨r0, r1, r2⟩ := rb.cells
      have rf := rb.fz
      go_wp2_with fail
      refine bodyPost_ret (v := .tuple #[.agg #[.int .i64 0, .int .i64 0, .slice none 0 0], .bool false]) ?_ rfl ?_
      · simp [results, Try.results54, go_sem, r0, r1, r2]
      · exact ⟨rfl, by (have bz0 := Below.size (g2); (try simp at bz0); have bz1 := Below.size (g1); (try simp at bz1); (repeat' (first | with_reducible exact Below.refl _ _ | with_reducible assumption | (with_reducible refine Below.setCell ?_ ?_ _) | (with_reducible refine Below.alloc ?_ ?_ _) | (with_reducible refine Below.drew ?_) | (with_reducible refine below_drewN ?_ _) | (with_reducible refine Below.trans ?_ (Below.mono (g2) ?_)) | (with_reducible refine Below.trans ?_ (Below.mono (g1) ?_)))); all_goals (first | omega | (simp; done) | (simp; omega) | (simp [*]; done) | (simp at *; omega)))⟩

theorem sMul_yes (ok : Bool) (R K C : Nat) (A B : Option Addr) (a b : List Int) (n m ca cb : Nat) (w : World) (hn : a.length = n) (hm : b.length = m) (ha : Rd w A a) (hb : Rd w B b) (h1 : isMat R K a = true) (h2 : isMat K C b = true) (hok : allNum (mulL R K C a b) = ok) :
    Calls Try.prog 54 #[.agg #[.int .i64 R, .int .i64 K, .slice A n ca], .agg #[.int .i64 K, .int .i64 C, .slice B m cb]] w fun e w' =>
      ∃ v, e = .returned (.tuple #[.agg #[.int .i64 (if ok then R else 0), .int .i64 (if ok then C else 0), v], .bool ok]) ∧ Own w' w.heap.size v (if ok then mulL R K C a b else []) ∧ Grows w w' := by
  obtain ⟨R', K', e1, e2, hR, hK, la, _⟩ := isMat_nat h1
  obtain rfl : R = R' := by omega
  obtain rfl : K = K' := by omega
  obtain ⟨K', C', e3, e4, _, hC, lb, _⟩ := isMat_nat h2
  obtain rfl : K = K' := by omega
  obtain rfl : C = C' := by omega
  have hRC : R * C ≤ 576 := Nat.mul_le_mul hR hC
  have la5 : n ≤ 1099511627776 := by have := Nat.mul_le_mul hR hK; omega
  have lb5 : m ≤ 1099511627776 := by have := Nat.mul_le_mul hK hC; omega
  have C1 := fun W h => sIsMatrix_c R K A a n ca W hn h la5
  have C2 := fun W h => sIsMatrix_c K C B b m cb W hm h lb5
  rw [h1] at C1
  rw [h2] at C2
  have HC1 := Lib.hid C1
  have HC2 := Lib.hid C2
  have HM := Lib.hid fun W h h' => l3Mul_c R K C A B a b n m ca cb W hn hm h h' h1 h2
  have hmm := isMat_made hR hC (mulL_length R K C a b)
  have ln := mulL_length R K C a b
  rw [hok] at hmm
  have HMM := Lib.hid hmm
  have HLN := Lib.hid ln
  clear la lb e1 e2 e3 e4 h1 h2 C1 C2 hok hmm ln hn hm
  generalize mulL R K C a b = pr at *
  go_enter Try.func54, Try.ntmps54
  go_wp2_with fail
  refine (HC1.out _ (by exact (Rd.grows ha (by ((repeat' (first | with_reducible exact Below.refl _ _ | with_reducible assumption | (with_reducible refine Below.setCell ?_ ?_ _) | (with_reducible refine Below.alloc ?_ ?_ _) | (with_reducible refine Below.drew ?_) | (with_reducible refine below_drewN ?_ _))); all_goals (first | omega | (simp; done) | (simp; omega) | (simp [*]; done) | (simp at *; omega))))))).mono ?_; rintro e v1 ⟨rfl, g1⟩
  have z1 := Below.size g1; simp at z1
  have mb0 : MBox v1 w.heap.size R K (.slice A n ca) := (MBox.mk_ w R K (.slice A n ca) 26).grows (by (have bz0 := Below.size (g1); (try simp at bz0); (repeat' (first | with_reducible exact Below.refl _ _ | with_reducible assumption | (with_reducible refine Below.setCell ?_ ?_ _) | (with_reducible refine Below.alloc ?_ ?_ _) | (with_reducible refine Below.drew ?_) | (with_reducible refine below_drewN ?_ _) | (with_reducible refine Below.trans ?_ (Below.mono (g1) ?_)))); all_goals (first | omega | (simp; done) | (simp; omega) | (simp [*]; done) | (simp at *; omega))))
  have mb1 : MBox v1 (w.heap.size + 1) K C (.slice B m cb) := by have := (MBox.mk_ (w.alloc (.cells #[.int .i64 R, .int .i64 K, .slice A n ca] 26)) K C (.slice B m cb) 26).grows (w' := v1) (by (have bz0 := Below.size (g1); (try simp at bz0); (repeat' (first | with_reducible exact Below.refl _ _ | with_reducible assumption | (with_reducible refine Below.setCell ?_ ?_ _) | (with_reducible refine Below.alloc ?_ ?_ _) | (with_reducible refine Below.drew ?_) | (with_reducible refine below_drewN ?_ _) | (with_reducible refine Below.trans ?_ (Below.mono (g1) ?_)))); all_goals (first | omega | (simp; done) | (simp; omega) | (simp [*]; done) | (simp at *; omega)))); simpa using this
  have rb : MBox v1 (w.heap.size + 2) 0 0 (.slice none 0 0) := by have := (MBox.mk_ ((w.alloc (.cells #[.int .i64 R, .int .i64 K, .slice A n ca] 26)).alloc (.cells #[.int .i64 K, .int .i64 C, .slice B m cb] 26)) 0 0 (.slice none 0 0) 26).grows (w' := v1) (by (have bz0 := Below.size (g1); (try simp at bz0); (repeat' (first | with_reducible exact Below.refl _ _ | with_reducible assumption | (with_reducible refine Below.setCell ?_ ?_ _) | (with_reducible refine Below.alloc ?_ ?_ _) | (with_reducible refine Below.drew ?_) | (with_reducible refine below_drewN ?_ _) | (with_reducible refine Below.trans ?_ (Below.mono (g1) ?_)))); all_goals (first | omega | (simp; done) | (simp; omega) | (simp [*]; done) | (simp at *; omega)))); simpa using this
  have rda : Rd v1 A a := (Rd.grows ha (by (have bz0 := Below.size (g1); (try simp at bz0); (repeat' (first | with_reducible exact Below.refl _ _ | with_reducible assumption | (with_reducible refine Below.setCell ?_ ?_ _) | (with_reducible refine Below.alloc ?_ ?_ _) | (with_reducible refine Below.drew ?_) | (with_reducible refine below_drewN ?_ _) | (with_reducible refine Below.trans ?_ (Below.mono (g1) ?_)))); all_goals (first | omega | (simp; done) | (simp; omega) | (simp [*]; done) | (simp at *; omega)))))
  have rdb : Rd v1 B b := (Rd.grows hb (by (have bz0 := Below.size (g1); (try simp at bz0); (repeat' (first | with_reducible exact Below.refl _ _ | with_reducible assumption | (with_reducible refine Below.setCell ?_ ?_ _) | (with_reducible refine Below.alloc ?_ ?_ _) | (with_reducible refine Below.drew ?_) | (with_reducible refine below_drewN ?_ _) | (with_reducible refine Below.trans ?_ (Below.mono (g1) ?_)))); all_goals (first | omega | (simp; done) | (simp; omega) | (simp [*]; done) | (simp at *; omega)))))
  have gw : Grows w v1 := by (have bz0 := Below.size (g1); (try simp at bz0); (repeat' (first | with_reducible exact Below.refl _ _ | with_reducible assumption | (with_reducible refine Below.setCell ?_ ?_ _) | (with_reducible refine Below.alloc ?_ ?_ _) | (with_reducible refine Below.drew ?_) | (with_reducible refine below_drewN ?_ _) | (with_reducible refine Below.trans ?_ (Below.mono (g1) ?_)))); all_goals (first | omega | (simp; done) | (simp; omega) | (simp [*]; done) | (simp at *; omega)))
  clear g1 ha hb
  obtain ⟨b00, b01, b02⟩ := mb0.cells
  obtain ⟨b10, b11, b12⟩ := mb1.cells
  go_wp2_with fail
  refine (HC2.out _ (by exact (Rd.grows rdb (by ((repeat' (first | with_reducible exact Below.refl _ _ | with_reducible assumption | (with_reducible refine Below.setCell ?_ ?_ _) | (with_reducible refine Below.alloc ?_ ?_ _) | (with_reducible refine Below.drew ?_) | (with_reducible refine below_drewN ?_ _))); all_goals (first | omega | (simp; done) | (simp; omega) | (simp [*]; done) | (simp at *; omega))))))).mono ?_; rintro e v2 ⟨rfl, g1⟩
  have z2 := Below.size g1
  replace mb0 := mb0.grows g1
  replace mb1 := mb1.grows g1
  replace rb := rb.grows g1
  replace rda := rda.grows g1
  replace rdb := rdb.grows g1
  replace gw : Grows w v2 := Grows.trans gw g1
  clear g1 b00 b01 b02 b10 b11 b12
  obtain ⟨b00, b01, b02⟩ := mb0.cells
  obtain ⟨b10, b11, b12⟩ := mb1.cells
  go_wp2_with fail
  refine (HM.out _ (by exact (Rd.grows rda (by ((repeat' (first | with_reducible exact Below.refl _ _ | with_reducible assumption | (with_reducible refine Below.setCell ?_ ?_ _) | (with_reducible refine Below.alloc ?_ ?_ _) | (with_reducible refine Below.drew ?_) | (with_reducible refine below_drewN ?_ _))); all_goals (first | omega | (simp; done) | (simp; omega) | (simp [*]; done) | (simp at *; omega)))))) (by exact (Rd.grows rdb (by ((repeat' (first | with_reducible exact Below.refl _ _ | with_reducible assumption | (with_reducible refine Below.setCell ?_ ?_ _) | (with_reducible refine Below.alloc ?_ ?_ _) | (with_reducible refine Below.drew ?_) | (with_reducible refine below_drewN ?_ _))); all_goals (first | omega | (simp; done) | (simp; omega) | (simp [*]; done) | (simp at *; omega))))))).mono ?_; rintro e v3 ⟨v, rfl, ho, g1⟩
  have z3 := Below.size g1
  obtain ⟨A3, c3, rfl, hr3, _⟩ := ho.val
  replace rb := rb.grows g1
  replace gw : Grows w v3 := Grows.trans gw g1
  replace ho := ho.less (show w.heap.size + 3 ≤ v2.heap.size by omega)
  clear g1 b00 b01 b02 b10 b11 b12 mb0 mb1 rda rdb
  have hlp : pr.length ≤ 576 := by rw [HLN.out]; exact hRC
  go_wp2_with fail
  cases ok
  · refine (l3Done_no R C A3 pr _ c3 _ rfl (by exact (Rd.grows hr3 (by ((repeat' (first | with_reducible exact Below.refl _ _ | with_reducible assumption | (with_reducible refine Below.setCell ?_ ?_ _) | (with_reducible refine Below.alloc ?_ ?_ _) | (with_reducible refine Below.drew ?_) | (with_reducible refine below_drewN ?_ _))); all_goals (first | omega | (simp; done) | (simp; omega) | (simp [*]; done) | (simp at *; omega)))))) (by omega) HMM.out).mono ?_; rintro e v4 ⟨rfl, g4⟩
    replace rb := rb.grows g4
    clear hlp
    obtain ⟨r0, r1, r2⟩ := rb.cells
    have rf := rb.fz
    have rl := rb.lt
    have rl' : w.heap.size + 1 + 1 < v4.heap.size := rl
    go_wp2_with fail
    refine bodyPost_ret (v := .tuple #[.agg #[.int .i64 0, .int .i64 0, .slice none 0 0], .bool false]) ?_ rfl ?_
    · simp [results, Try.results54, go_sem, r0, r1, r2, rl']
    · exact ⟨_, rfl, Own.nil _ _, by (have bz0 := Below.size (g4); (try simp at bz0); have bz1 := Below.size (gw); (try simp at bz1); (repeat' (first | with_reducible exact Below.refl _ _ | with_reducible assumption | (with_reducible refine Below.setCell ?_ ?_ _) | (with_reducible refine Below.alloc ?_ ?_ _) | (with_reducible refine Below.drew ?_) | (with_reducible refine below_drewN ?_ _) | (with_reducible refine Below.trans ?_ (Below.mono (g4) ?_)) | (with_reducible refine Below.trans ?_ (Below.mono (gw) ?_)))); all_goals (first | omega | (simp; done) | (simp; omega) | (simp [*]; done) | (simp at *; omega)))⟩
  · refine (l3Done_yes R C A3 pr _ c3 _ rfl (by exact (Rd.grows hr3 (by ((repeat' (first | with_reducible exact Below.refl _ _ | with_reducible assumption | (with_reducible refine Below.setCell ?_ ?_ _) | (with_reducible refine Below.alloc ?_ ?_ _) | (with_reducible refine Below.drew ?_) | (with_reducible refine below_drewN ?_ _))); all_goals (first | omega | (simp; done) | (simp; omega) | (simp [*]; done) | (simp at *; omega)))))) (by omega) HMM.out).mono ?_; rintro e v4 ⟨rfl, g4⟩
    replace rb := rb.grows g4
    replace ho := ho.grows (w' := v4) (by (have bz0 := Below.size (g4); (try simp at bz0); (repeat' (first | with_reducible exact Below.refl _ _ | with_reducible assumption | (with_reducible refine Below.setCell ?_ ?_ _) | (with_reducible refine Below.alloc ?_ ?_ _) | (with_reducible refine Below.drew ?_) | (with_reducible refine below_drewN ?_ _) | (with_reducible refine Below.trans ?_ (Below.mono (g4) ?_)))); all_goals (first | omega | (simp; done) | (simp; omega) | (simp [*]; done) | (simp at *; omega))))
    clear hlp
    obtain ⟨r0, r1, r2⟩ := rb.cells
    have rf := rb.fz
    have rl := rb.lt
    have rl' : w.heap.size + 1 + 1 < v4.heap.size := rl
    go_wp2_with fail
    refine bodyPost_ret (v := .tuple #[.agg #[.int .i64 R, .int .i64 C, .slice A3 pr.length c3], .bool true]) ?_ rfl ?_
    · simp [results, Try.results54, go_sem, r0, r1, r2, rl']
    · exact ⟨_, rfl, by (refine Own.less (B := ?OB) ?_ ?_; (repeat' (first | with_reducible exact ho | with_reducible refine Own.alloc ?_ _ | with_reducible refine Own.drew ?_ | with_reducible refine Own.low ?_ ?_ _)); all_goals (first | omega | (simp; done) | (simp; omega) | (simp [*]; done) | (simp at *; omega))), by (have bz0 := Below.size (g4); (try simp at bz0); have bz1 := Below.size (gw); (try simp at bz1); (repeat' (first | with_reducible exact Below.refl _ _ | with_reducible assumption | (with_reducible refine Below.setCell ?_ ?_ _) | (with_reducible refine Below.alloc ?_ ?_ _) | (with_reducible refine Below.drew ?_) | (with_reducible refine below_drewN ?_ _) | (with_reducible refine Below.trans ?_ (Below.mono (g4) ?_)) | (with_reducible refine Below.trans ?_ (Below.mono (gw) ?_)))); all_goals (first | omega | (simp; done) | (simp; omega) | (simp [*]; done) | (simp at *; omega)))⟩

theorem sMul_c (r c r' c' : Int) (A B : Option Addr) (a b : List Int) (n m ca cb : Nat) (w : World) (hn : a.length = n) (hm : b.length = m) (ha : Rd w A a) (hb : Rd w B b) (hl : n ≤ 1099511627776) (hl2 : m ≤ 1099511627776) :
    Calls Try.prog 54 #[.agg #[.int .i64 r, .int .i64 c, .slice A n ca], .agg #[.int .i64 r', .int .i64 c', .slice B m cb]] w fun e w' =>
      ∃ v, e = .returned (.tuple #[.agg #[.int .i64 (mulR r c a r' c' b), .int .i64 (mulC r c a r' c' b), v], .bool (mulOk r c a r' c' b)]) ∧ Own w' w.heap.size v (mulV r c a r' c' b) ∧ Grows w w' := by
  by_cases h : isMat r c a = false ∨ isMat r' c' b = false ∨ (c == r') = false
  · have e0 : mulOk r c a r' c' b = false := by
      rcases h with h | h | h
      · exact mulOk_no1 h
      · exact mulOk_no2 h
      · exact mulOk_no3 h
    obtain ⟨e1, e2, e3⟩ := mul_no e0
    rw [e0, e1, e2, e3]
    exact (sMul_no r c r' c' A B a b n m ca cb w hn hm ha hb hl hl2 h).mono fun e w' ⟨he, hg⟩ => ⟨_, he, Own.nil _ _, hg⟩
  · have h1 : isMat r c a = true := by
      cases e : isMat r c a
      · exact absurd (.inl e) h
      · rfl
    have h2 : isMat r' c' b = true := by
      cases e : isMat r' c' b
      · exact absurd (.inr (.inl e)) h
      · rfl
    have h3 : c = r' := by
      cases e : (c == r')
      · exact absurd (.inr (.inr e)) h
      · exact beq_iff_eq.1 e
    subst h3
    obtain ⟨R, K, rfl, rfl, _⟩ := isMat_nat h1
    obtain ⟨K', C, e1, rfl, _⟩ := isMat_nat h2
    have := sMul_yes (allNum (mulL R K C a b)) R K C A B a b n m ca cb w hn hm ha hb h1 h2 rfl
    unfold mulR mulC mulV
    rw [mulOk_nat h1 h2]
    simp only [Int.toNat_natCast]
    exact this
end
end Go.Proofs.Ytpfijhcjempfjaa
