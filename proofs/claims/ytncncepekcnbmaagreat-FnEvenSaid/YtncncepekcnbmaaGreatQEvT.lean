/- Contracts and lemmas, put together. -/
import Derived.Test.YtncncepekcnbmaaGreatPkM
import Derived.Test.YtncncepekcnbmaaGreatQEven
/- Plain: an even form has even values only; what the counts hold. -/
namespace Go.Proofs.YtncncepekcnbmaaGreat
set_option linter.unusedSimpArgs false
set_option linter.unusedVariables false
open Go.RowKit

theorem qf_succ (n : Nat) (f : Nat → Nat → Int) (v : Nat → Int) (hs : ∀ i, i < n → f n i = f i n) : qf (n + 1) f v = qf n f v + 2 * (sumN n fun i => v i * f i n * v n) + v n * f n n * v n := by
  unfold qf
  have e1 : (sumN (n + 1) fun i => sumN (n + 1) fun j => v i * f i j * v j) = (sumN (n + 1) fun i => sumN n fun j => v i * f i j * v j) + sumN (n + 1) fun i => v i * f i n * v n := by
    rw [← sumN_add]; exact sumN_congr fun i _ => rfl
  have e2 : (sumN n fun j => v n * f n j * v j) = sumN n fun i => v i * f i n * v n := sumN_congr fun j hj => by rw [hs j hj]; grind
  rw [e1]
  show ((sumN n fun i => sumN n fun j => v i * f i j * v j) + sumN n fun j => v n * f n j * v j) + ((sumN n fun i => v i * f i n * v n) + v n * f n n * v n) = _
  rw [e2]
  omega
theorem qf_even {n : Nat} {f : Nat → Nat → Int} (hs : ∀ i j, i < n → j < i → f i j = f j i) (hd : ∀ i, i < n → (f i i) % 2 = 0) (v : Nat → Int) : (qf n f v) % 2 = 0 := by
  induction n with
  | zero => rfl
  | succ n ih =>
    rw [qf_succ n f v fun i hi => hs n i (by omega) hi]
    have h1 := ih (fun i j hi hj => hs i j (by omega) hj) (fun i hi => hd i (by omega))
    obtain ⟨k, hk⟩ : ∃ k, f n n = 2 * k := ⟨f n n / 2, by have := hd n (by omega); omega⟩
    have h2 : v n * f n n * v n = 2 * (v n * k * v n) := by rw [hk]; grind
    rw [h2]
    omega
theorem even_val {r c : Int} {g x : List Int} (he : evB r c g = true) (h : vOk r c g x = true) : (vVal r c g x) % 2 = 0 := by
  obtain ⟨hg, hxl, _, _⟩ := vOk_parts h
  have hsq : isSq r c g = true := by unfold isGram at hg; simp only [Bool.and_eq_true] at hg; exact hg.1
  obtain ⟨_, R, rfl, rfl, hR, hlen, _⟩ := isSq_nat hsq
  rw [vVal_qf h]
  have hsym : symB R g = true := by
    unfold isGram at hg
    simp only [Bool.and_eq_true, Int.toNat_natCast] at hg
    exact hg.2
  refine qf_even (fun i j hi hj => (symB_iff hlen).1 hsym i j hi hj) (fun i hi => ?_) (nth x)
  by_cases e : (nth g (i * R + i)).tmod 2 = 0
  · show (nth g (i * R + i)) % 2 = 0
    exact Int.emod_eq_zero_of_dvd (Int.dvd_of_tmod_eq_zero e)
  · rw [evB_at hg hi e] at he; cases he
/-- the counts: the first one, and odd ones -/
theorem thF_zero {n : Nat} {s : List KV} (hs : ∀ k ∈ s, 1 ≤ k.1) {i : Nat} (hi : i ≤ s.length) : nth (thF n s i) 0 = 1 := by
  induction i with
  | zero => simp [thF, nth]
  | succ i ih =>
    have hm := hs _ (show s.getD i (0, []) ∈ s by simp [List.getD, show i < s.length by omega])
    rw [thF]
    rw [show nth ((thF n s i).set ((s.getD i (0, [])).1).toNat (nth (thF n s i) ((s.getD i (0, [])).1).toNat + 2)) 0 = nth (thF n s i) 0 from by
      unfold nth; rw [List.getD_eq_getElem?_getD, List.getElem?_set_ne (by omega), ← List.getD_eq_getElem?_getD]]
    exact ih (by omega)
theorem thF_odd {n : Nat} {s : List KV} (hs : ∀ k ∈ s, 1 ≤ k.1 ∧ k.1 % 2 = 0) {i j : Nat} (hi : i ≤ s.length) (hj : j % 2 = 1) : nth (thF n s i) j = 0 := by
  induction i with
  | zero =>
    rw [thF]
    unfold nth
    rw [List.getD_eq_getElem?_getD, List.getElem?_set_ne (by omega)]
    by_cases h : j < n + 1 <;> simp [h]
  | succ i ih =>
    have hm := hs _ (show s.getD i (0, []) ∈ s by simp [List.getD, show i < s.length by omega])
    rw [thF]
    rw [show nth ((thF n s i).set ((s.getD i (0, [])).1).toNat (nth (thF n s i) ((s.getD i (0, [])).1).toNat + 2)) j = nth (thF n s i) j from by
      unfold nth; rw [List.getD_eq_getElem?_getD, List.getElem?_set_ne (by omega), ← List.getD_eq_getElem?_getD]]
    exact ih (by omega)
end Go.Proofs.YtncncepekcnbmaaGreat
