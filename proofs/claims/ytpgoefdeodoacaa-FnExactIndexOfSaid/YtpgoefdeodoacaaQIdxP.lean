/- Contracts and lemmas, put together. -/
import Derived.Test.YtpgoefdeodoacaaPkG
import Derived.Test.YtpgoefdeodoacaaPkJ
/- Plain: the product of the diagonal of a Hermite form. -/
namespace Go.Proofs.Ytpgoefdeodoacaa
set_option linter.unusedSimpArgs false
set_option linter.unusedVariables false
open Go.RowKit

def prdD (R : Nat) (l : List Int) : Nat → Option Int
  | 0 => some 1
  | i + 1 => (prdD R l i).bind fun p => if isNum (p * nth l (i * R + i)) then some (p * nth l (i * R + i)) else none
theorem prdD_num {R : Nat} {l : List Int} {i : Nat} {p : Int} (h : prdD R l i = some p) : isNum p = true := by
  cases i with
  | zero => cases h; decide
  | succ i =>
    rw [prdD] at h
    obtain ⟨q, _, h2⟩ := Option.bind_eq_some_iff.1 h
    split at h2
    · cases h2; assumption
    · cases h2
theorem prdD_yes {R : Nat} {l : List Int} {i : Nat} {p : Int} (h : prdD R l i = some p) (h2 : isNum (p * nth l (i * R + i)) = true) : prdD R l (i + 1) = some (p * nth l (i * R + i)) := by
  rw [prdD, h]; simp [h2]
theorem prdD_no {R : Nat} {l : List Int} {i : Nat} {p : Int} (h : prdD R l i = some p) (h2 : isNum (p * nth l (i * R + i)) = false) : prdD R l (i + 1) = none := by
  rw [prdD, h]; simp [h2]
theorem prdD_none {R : Nat} {l : List Int} {i k : Nat} (h : prdD R l i = none) (hk : i ≤ k) : prdD R l k = none := by
  induction k with
  | zero => obtain rfl : i = 0 := by omega
            exact h
  | succ k ih =>
    by_cases e : i = k + 1
    · rw [← e]; exact h
    · rw [prdD, ih (by omega)]; rfl
/-- the product, or the mark of a number beyond the limit -/
def prdB (R : Nat) (l : List Int) : Nat → Int
  | 0 => 1
  | i + 1 => mulB (prdB R l i) (nth l (i * R + i))
theorem prdB_eq {R : Nat} {l : List Int} {i : Nat} (hl : ∀ t, t < i → isNum (nth l (t * R + t)) = true) : prdB R l i = (prdD R l i).getD bad := by
  induction i with
  | zero => rfl
  | succ i ih =>
    rw [prdB, ih (fun t ht => hl t (by omega))]
    cases h : prdD R l i with
    | none => rw [prdD, h]; exact mulB_bad_left _
    | some p =>
      have hp := prdD_num h
      rw [Option.getD_some, mulB_num hp (hl i (by omega))]
      cases hn : isNum (p * nth l (i * R + i))
      · rw [prdD_no h hn, fit_no hn]; rfl
      · rw [prdD_yes h hn, fit_yes hn]; rfl
theorem prdB_ok {R : Nat} {l : List Int} {i : Nat} (hl : ∀ t, t < i → isNum (nth l (t * R + t)) = true) : prdB R l i = bad ∨ isNum (prdB R l i) = true := by
  rw [prdB_eq hl]
  cases h : prdD R l i with
  | none => exact .inl rfl
  | some p => exact .inr (prdD_num h)
def oI (o : Option Int) : Int := o.getD 0
def idxO (a b : MX) : Option Int :=
  (crmO a b).bind fun c => if a.r = b.r then (hermO c).bind fun h => prdD c.r.toNat h.1.l c.r.toNat else none
def IORet (o : Option Int) (w : World) (e : Ending) (w' : World) : Prop := e = .returned (.tuple #[.int .i64 (oI o), .bool o.isSome]) ∧ Grows w w'
/-- what the coordinates are, where there are any -/
theorem crmO_shape {r c r' c' : Int} {a b : List Int} {m : MX} (h : crmO ⟨r, c, a⟩ ⟨r', c', b⟩ = some m) :
    ∃ (R R' : Nat) (l : List Int), m = ⟨R', R, l⟩ ∧ r = R ∧ r' = R' ∧ R ≤ 24 ∧ R' ≤ 24 ∧ isMat R' R l = true ∧ l.length = R' * R := by
  unfold crmO at h
  simp only at h
  split at h
  · rename_i hc
    simp only [Bool.and_eq_true, decide_eq_true_eq] at hc
    obtain ⟨R, C, rfl, rfl, hR, _⟩ := isMat_nat (latB_parts hc.1.1).1
    obtain ⟨R', C', rfl, rfl, hR', _⟩ := isMat_nat (latB_parts hc.1.2).1
    simp only [Int.toNat_natCast] at h
    obtain ⟨L, hL, h2⟩ := Option.map_eq_some_iff.1 h
    obtain ⟨h3, h4, _⟩ := crm_mat hR hR' hL
    exact ⟨R, R', flatF L R', h2.symm, rfl, rfl, hR, hR', h3, h4⟩
  · cases h
theorem herm_cells {R : Nat} {l : List Int} (h : isMat R R l = true) {x : MX × MX} (hx : hermO ⟨R, R, l⟩ = some x) :
    ∃ (a u : List Int), x = (⟨R, R, a⟩, ⟨R, R, u⟩) ∧ a.length = R * R ∧ ∀ i, i < R → isNum (nth a (i * R + i)) = true := by
  obtain ⟨T, a, u, rfl, ok, _⟩ := hermO_some h hx
  refine ⟨a, u, rfl, ok.l1, fun i hi => (allNum_iff a).1 ok.n1 _ ?_⟩
  rw [ok.l1]
  exact idx_lt hi hi
end Go.Proofs.Ytpgoefdeodoacaa
