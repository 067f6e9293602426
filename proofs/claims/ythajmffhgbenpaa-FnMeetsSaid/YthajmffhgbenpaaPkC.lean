/- Contracts and lemmas, put together. -/
import Derived.Deep.DeepCutAuto
import Derived.Deep.RegionHeld3
import Derived.Test.YthajmffhgbenpaaPkA
import Derived.Test.YthajmffhgbenpaaPkB
/- Contracts: a vector as a matrix of one row, of one column. -/
namespace Go.Proofs.Ythajmffhgbenpaa
set_option linter.unusedSimpArgs false
set_option linter.unusedVariables false
open Go.RowKit

section
set_option maxHeartbeats 1000000
theorem below_rb {w w2 : World} {g : Nat} {u : Value} {o1 o2 : Obj} (hu : u.ownBlock = some g) (hg : w.heap.size + 1 ≤ g) (h : ((w.alloc o1).alloc o2).grownBy w2 u.ownBlock) : Below (w.heap.size + 1) (w.alloc o1) w2 :=
  ((Below.refl _ _).alloc (by simp) _).grown h (by simp) fun k hk => by rw [hu] at hk; injection hk with hk; omega

theorem rowMatrix_c (A : Option Addr) (l : List Int) (n cap : Nat) (w : World) (hn : l.length = n) (ha : Rd w A l) (hl : n ≤ 1099511627776) :
    Calls Try.prog 83 #[.slice A n cap] w fun e w' => ∃ v, e = .returned (.agg #[.int .i64 1, .int .i64 n, v]) ∧ Own w' w.heap.size v l ∧ Grows w w' := by
  go_enter Try.func83, Try.ntmps83
  go_wp2_with (at_builtin; refine wpList_app rfl (.tmp 5) (.tmp 6) rfl _ (w.heap.size + 1) _ [] rfl ?_ A l n cap rfl hn ?_ ?_ ?_ ?_; rotate_right; (intro v2 w2 ho2 hgb _; have bb := below_rb rfl (by simp) hgb; obtain ⟨A2, c2, rfl, _, _⟩ := ho2.val; have rb : MBox w2 w.heap.size 0 0 (.slice none 0 0) := (MBox.mk_ w 0 0 (.slice none 0 0) 26).keep bb (by simp); obtain ⟨r0, r1, r2⟩ := rb.cells; have rf := rb.fz))
  · refine bodyPost_ret (v := .agg #[.int .i64 1, .int .i64 n, .slice A2 n c2]) ?_ rfl ?_
    · simp [results, Try.results83, go_sem, r0, r1, r2]
    · replace ho2 := ho2.low (p := ⟨w.heap.size, 0, none⟩) (by simp) (.int .i64 1)
      replace ho2 := ho2.low (p := ⟨w.heap.size, 1, none⟩) (by simp) (.int .i64 n)
      replace ho2 := ho2.low (p := ⟨w.heap.size, 2, none⟩) (by simp) (.slice A2 n c2)
      replace ho2 := ho2.less (Nat.le_succ _)
      rw [List.nil_append, hn] at ho2
      have b1 : Grows w w2 := Grows.trans ((Below.refl _ _).alloc (Nat.le_refl _) _) (bb.mono (by simp))
      exact ⟨_, rfl, ho2, by exact bel1 b1⟩
  · have := Own.mk_empty (w.alloc (.cells #[.int .i64 0, .int .i64 0, .slice none 0 0] 26)) (w.heap.size + 1) (by simp)
    rw [World.size_alloc] at this
    exact this
  · exact (ha.alloc _).alloc _
  · simp; omega
  · simp

theorem columnOf_c (A : Option Addr) (l : List Int) (n cap : Nat) (w : World) (hn : l.length = n) (ha : Rd w A l) (hl : n ≤ 1099511627776) :
    Calls Try.prog 79 #[.slice A n cap] w fun e w' => ∃ v, e = .returned (.agg #[.int .i64 n, .int .i64 1, v]) ∧ Own w' w.heap.size v l ∧ Grows w w' := by
  go_enter Try.func79, Try.ntmps79
  go_wp2_with (at_builtin; refine wpList_app rfl (.tmp 5) (.tmp 6) rfl _ (w.heap.size + 1) _ [] rfl ?_ A l n cap rfl hn ?_ ?_ ?_ ?_; rotate_right; (intro v2 w2 ho2 hgb _; have bb := below_rb rfl (by simp) hgb; obtain ⟨A2, c2, rfl, _, _⟩ := ho2.val; have rb : MBox w2 w.heap.size 0 0 (.slice none 0 0) := (MBox.mk_ w 0 0 (.slice none 0 0) 26).keep bb (by simp); obtain ⟨r0, r1, r2⟩ := rb.cells; have rf := rb.fz))
  · refine bodyPost_ret (v := .agg #[.int .i64 n, .int .i64 1, .slice A2 n c2]) ?_ rfl ?_
    · simp [results, Try.results79, go_sem, r0, r1, r2]
    · replace ho2 := ho2.low (p := ⟨w.heap.size, 0, none⟩) (by simp) (.int .i64 n)
      replace ho2 := ho2.low (p := ⟨w.heap.size, 1, none⟩) (by simp) (.int .i64 1)
      replace ho2 := ho2.low (p := ⟨w.heap.size, 2, none⟩) (by simp) (.slice A2 n c2)
      replace ho2 := ho2.less (Nat.le_succ _)
      rw [List.nil_append, hn] at ho2
      have b1 : Grows w w2 := Grows.trans ((Below.refl _ _).alloc (Nat.le_refl _) _) (bb.mono (by simp))
      exact ⟨_, rfl, ho2, by exact bel1 b1⟩
  · have := Own.mk_empty (w.alloc (.cells #[.int .i64 0, .int .i64 0, .slice none 0 0] 26)) (w.heap.size + 1) (by simp)
    rw [World.size_alloc] at this
    exact this
  · exact (ha.alloc _).alloc _
  · simp; omega
  · simp
end
end Go.Proofs.Ythajmffhgbenpaa
