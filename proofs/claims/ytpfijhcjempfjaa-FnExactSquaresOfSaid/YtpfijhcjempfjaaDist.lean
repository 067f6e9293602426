/- Contracts: DistanceOf. -/
import Derived.Test.YtpfijhcjempfjaaRow
namespace Go.Proofs.Ytpfijhcjempfjaa
open Go.RowKit

section
set_option maxHeartbeats 1000000
theorem MBox.far {w : World} {b : Nat} {r c : Int} {v : Value} (h : MBox w b r c v) {p : Addr} (hne : b ≠ p.block) (u : Value) : MBox (w.setCell p u) b r c v :=
  MBox.only h (only_setCell (p := p) (World.grownBy.refl w (some p.block)) rfl u) hne
theorem MBox.alloc {w : World} {b : Nat} {r c : Int} {v : Value} (h : MBox w b r c v) (o : Obj) : MBox (w.alloc o) b r c v := h.grows ((Below.refl _ _).alloc (Nat.le_refl _) o)
theorem MBox.put {w : World} {b : Nat} {r c : Int} {v : Value} (h : MBox w b r c v) (r' c' : Int) (v' : Value) : MBox (((w.setCell ⟨b, 0, none⟩ (.int .i64 r')).setCell ⟨b, 1, none⟩ (.int .i64 c')).setCell ⟨b, 2, none⟩ v') b r' c' v' := by
  obtain ⟨h0, h1, h2⟩ := h.cells
  have hl := h.lt
  have hf := h.fz
  exact ⟨by simp; exact hl, by simp [go_sem, h0], by simp [go_sem, h1], by simp [go_sem, h2], fun o => by simp [go_sem, hf]⟩

/-- the squared distance, summed up with the marker -/
def dB (p t : List Int) : Nat → Int
  | 0 => 0
  | k + 1 => addB (dB p t k) (mulB (fit (nth p k - nth t k)) (fit (nth p k - nth t k)))
theorem dB_stuck {p t : List Int} {k : Nat} (h : dB p t k = bad) (m : Nat) : dB p t (k + m) = bad := by
  induction m with
  | zero => exact h
  | succ m ih => rw [← Nat.add_assoc, dB, ih, addB_bad_left]
theorem dB_stuck' {p t : List Int} {k n : Nat} (h : dB p t k = bad) (hn : k ≤ n) : dB p t n = bad := by
  have := dB_stuck h (n - k)
  rwa [Nat.add_sub_cancel' hn] at this
theorem fit_or (n : Int) : fit n = bad ∨ isNum (fit n) = true := by
  cases h : isNum n
  · exact .inl (fit_no h)
  · right; rw [fit_yes h]; exact h
theorem addB_or (a b : Int) : addB a b = bad ∨ isNum (addB a b) = true := by
  unfold addB
  split
  · exact .inl rfl
  · exact fit_or _
theorem mulB_or (a b : Int) : mulB a b = bad ∨ isNum (mulB a b) = true := by
  unfold mulB
  split
  · exact .inl rfl
  · exact fit_or _
theorem dB_or (p t : List Int) (k : Nat) : dB p t k = bad ∨ isNum (dB p t k) = true := by
  cases k with
  | zero => right; rfl
  | succ k => exact addB_or _ _
/-- a step -/
theorem dB_no1 {p t : List Int} {k : Nat} (h : isNum (nth p k - nth t k) = false) : dB p t (k + 1) = bad := by
  rw [dB, fit_no h, mulB_bad_left, addB_bad_right]
theorem dB_no2 {p t : List Int} {k : Nat} (h : isNum (nth p k - nth t k) = true) (h2 : isNum ((nth p k - nth t k) * (nth p k - nth t k)) = false) : dB p t (k + 1) = bad := by
  rw [dB, fit_yes h, mulB_num h h, fit_no h2, addB_bad_right]
theorem dB_step {p t : List Int} {k : Nat} (h0 : isNum (dB p t k) = true) (h : isNum (nth p k - nth t k) = true) (h2 : isNum ((nth p k - nth t k) * (nth p k - nth t k)) = true) :
    dB p t (k + 1) = fit (dB p t k + (nth p k - nth t k) * (nth p k - nth t k)) := by
  rw [dB, fit_yes h, mulB_num h h, fit_yes h2, addB_num h0 h2]
theorem dB_no3 {p t : List Int} {k : Nat} (h0 : isNum (dB p t k) = true) (h : isNum (nth p k - nth t k) = true) (h2 : isNum ((nth p k - nth t k) * (nth p k - nth t k)) = true)
    (h3 : isNum (dB p t k + (nth p k - nth t k) * (nth p k - nth t k)) = false) : dB p t (k + 1) = bad := by rw [dB_step h0 h h2, fit_no h3]
theorem dB_yes {p t : List Int} {k : Nat} (h0 : isNum (dB p t k) = true) (h : isNum (nth p k - nth t k) = true) (h2 : isNum ((nth p k - nth t k) * (nth p k - nth t k)) = true)
    (h3 : isNum (dB p t k + (nth p k - nth t k) * (nth p k - nth t k)) = true) : dB p t (k + 1) = dB p t k + (nth p k - nth t k) * (nth p k - nth t k) := by rw [dB_step h0 h h2, fit_yes h3]

def dOk (r c : Int) (b x t : List Int) : Bool := mulOk 1 x.length x r c b && ((t.length : Int) == c) && allNum t && !(dB (mulV 1 x.length x r c b) t t.length == bad)
def dVal (r c : Int) (b x t : List Int) : Int := if dOk r c b x t then dB (mulV 1 x.length x r c b) t t.length else 0

def dfb (ok e1 an : Bool) (x : Int) : Bool := ok && e1 && an && !(x == bad)
def dfv (ok e1 an : Bool) (x : Int) : Int := if ok && e1 && an && !(x == bad) then x else 0
theorem dfin_no {x : Int} (h : x = bad) : dfv true true true x = 0 ∧ dfb true true true x = false := by simp [h, dfv, dfb]
theorem dfin_yes {x : Int} (h : isNum x = true) : dfv true true true x = x ∧ dfb true true true x = true := by
  have := num_ne_bad h
  simp [this, dfv, dfb]


theorem dOk_def (r c : Int) (b x t : List Int) : dOk r c b x t = (mulOk 1 x.length x r c b && ((t.length : Int) == c) && allNum t && !(dB (mulV 1 x.length x r c b) t t.length == bad)) := rfl
theorem mul_row {r c : Int} {b x : List Int} (h : mulOk 1 x.length x r c b = true) : (mulV 1 x.length x r c b).length = c.toNat ∧ ∀ i, i < (mulV 1 x.length x r c b).length → isNum (nth (mulV 1 x.length x r c b) i) = true := by
  have e := h
  unfold mulOk at e
  rw [Bool.and_eq_true] at e
  have hv : mulV 1 x.length x r c b = mulL 1 x.length c.toNat x b := by unfold mulV; rw [h]; rfl
  have hn := e.2
  rw [hv]
  simp only [Int.toNat_natCast] at hn
  refine ⟨by rw [mulL_length]; omega, fun i hi => (allNum_iff _).1 hn i hi⟩

end
end Go.Proofs.Ytpfijhcjempfjaa
