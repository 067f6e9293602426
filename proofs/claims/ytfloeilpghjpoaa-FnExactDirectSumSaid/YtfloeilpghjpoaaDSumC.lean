/- Contracts: DirectSum, for all arguments. -/
import Derived.Test.YtfloeilpghjpoaaDSumI
import Derived.Test.YtfloeilpghjpoaaDSumS
namespace Go.Proofs.Ytfloeilpghjpoaa
open Go.RowKit

theorem iDirectSum_c (r c r' c' : Int) (A B : Option Addr) (a b : List Int) (n m ca cb : Nat) (w : World) (hn : a.length = n) (hm : b.length = m) (ha : Rd w A a) (hb : Rd w B b) (hl : n ≤ 1099511627776) (hl2 : m ≤ 1099511627776) :
    Calls Try.prog 44 #[.agg #[.int .i64 r, .int .i64 c, .slice A n ca], .agg #[.int .i64 r', .int .i64 c', .slice B m cb]] w fun e w' =>
      ∃ v, e = .returned (.tuple #[.agg #[.int .i64 (dsR r c a r' c' b), .int .i64 (dsR r c a r' c' b), v], .bool (dsOk r c a r' c' b)]) ∧ Own w' w.heap.size v (dsV r c a r' c' b) ∧ Grows w w' := by
  by_cases h : isGram r c a = false ∨ isGram r' c' b = false ∨ decide (r + r' ≤ 6) = false
  · have e0 := dsOk_no h
    obtain ⟨e1, e2⟩ := ds_no e0
    rw [e0, e1, e2]
    exact (iDs_no r c r' c' A B a b n m ca cb w hn hm ha hb hl hl2 h).mono fun e w' ⟨he, hg⟩ => ⟨_, he, Own.nil _ _, hg⟩
  · have h1 : isGram r c a = true := by
      cases e : isGram r c a
      · exact absurd (.inl e) h
      · rfl
    have h2 : isGram r' c' b = true := by
      cases e : isGram r' c' b
      · exact absurd (.inr (.inl e)) h
      · rfl
    have h3 : decide (r + r' ≤ 6) = true := by
      cases e : decide (r + r' ≤ 6)
      · exact absurd (.inr (.inr e)) h
      · rfl
    have e0 : dsOk r c a r' c' b = true := by unfold dsOk; rw [h1, h2, h3]; rfl
    obtain ⟨_, R, rfl, rfl, _⟩ := isSq_nat (isGram_sq h1)
    obtain ⟨_, R', rfl, rfl, _⟩ := isSq_nat (isGram_sq h2)
    simp only [decide_eq_true_eq] at h3
    have e1 : dsR R R a R' R' b = ((R + R' : Nat) : Int) := by unfold dsR; rw [e0, if_pos rfl]; omega
    have e2 : dsV R R a R' R' b = tab (R + R') (R + R') (dsF R R' a b) := by unfold dsV dsL; rw [e0, if_pos rfl]; simp only [Int.toNat_natCast]
    rw [e0, e1, e2]
    exact iDs_yes (R + R') R R' rfl A B a b n m ca cb w hn hm ha hb h1 h2 (by omega)
theorem sDirectSum_c (r c r' c' : Int) (A B : Option Addr) (a b : List Int) (n m ca cb : Nat) (w : World) (hn : a.length = n) (hm : b.length = m) (ha : Rd w A a) (hb : Rd w B b) (hl : n ≤ 1099511627776) (hl2 : m ≤ 1099511627776) :
    Calls Try.prog 43 #[.agg #[.int .i64 r, .int .i64 c, .slice A n ca], .agg #[.int .i64 r', .int .i64 c', .slice B m cb]] w fun e w' =>
      ∃ v, e = .returned (.tuple #[.agg #[.int .i64 (dsR r c a r' c' b), .int .i64 (dsR r c a r' c' b), v], .bool (dsOk r c a r' c' b)]) ∧ Own w' w.heap.size v (dsV r c a r' c' b) ∧ Grows w w' := by
  by_cases h : isGram r c a = false ∨ isGram r' c' b = false ∨ decide (r + r' ≤ 6) = false
  · have e0 := dsOk_no h
    obtain ⟨e1, e2⟩ := ds_no e0
    rw [e0, e1, e2]
    exact (sDs_no r c r' c' A B a b n m ca cb w hn hm ha hb hl hl2 h).mono fun e w' ⟨he, hg⟩ => ⟨_, he, Own.nil _ _, hg⟩
  · have h1 : isGram r c a = true := by
      cases e : isGram r c a
      · exact absurd (.inl e) h
      · rfl
    have h2 : isGram r' c' b = true := by
      cases e : isGram r' c' b
      · exact absurd (.inr (.inl e)) h
      · rfl
    have h3 : decide (r + r' ≤ 6) = true := by
      cases e : decide (r + r' ≤ 6)
      · exact absurd (.inr (.inr e)) h
      · rfl
    have e0 : dsOk r c a r' c' b = true := by unfold dsOk; rw [h1, h2, h3]; rfl
    obtain ⟨_, R, rfl, rfl, _⟩ := isSq_nat (isGram_sq h1)
    obtain ⟨_, R', rfl, rfl, _⟩ := isSq_nat (isGram_sq h2)
    simp only [decide_eq_true_eq] at h3
    have e1 : dsR R R a R' R' b = ((R + R' : Nat) : Int) := by unfold dsR; rw [e0, if_pos rfl]; omega
    have e2 : dsV R R a R' R' b = tab (R + R') (R + R') (dsF R R' a b) := by unfold dsV dsL; rw [e0, if_pos rfl]; simp only [Int.toNat_natCast]
    rw [e0, e1, e2]
    exact sDs_yes (R + R') R R' rfl A B a b n m ca cb w hn hm ha hb h1 h2 (by omega)
end Go.Proofs.Ytfloeilpghjpoaa
