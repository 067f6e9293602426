/- Contracts and lemmas, put together. -/
import Derived.Test.YthajmffhgbenpaaPkMa
import Derived.Test.YthajmffhgbenpaaPkT
/- Plain: Hermite forms of three columns: how large their cells are. -/
namespace Go.Proofs.Ythajmffhgbenpaa
set_option linter.unusedSimpArgs false
set_option linter.unusedVariables false

def crs3 (u v : Nat → Int) (j : Nat) : Int := if j = 0 then u 1 * v 2 - u 2 * v 1 else if j = 1 then u 2 * v 0 - u 0 * v 2 else u 0 * v 1 - u 1 * v 0
def dt3 (u v w : Nat → Int) : Int := u 0 * (v 1 * w 2 - v 2 * w 1) + u 1 * (v 2 * w 0 - v 0 * w 2) + u 2 * (v 0 * w 1 - v 1 * w 0)
theorem lt3 {j : Nat} (h : j < 3) : j = 0 ∨ j = 1 ∨ j = 2 := by omega
theorem InL.lin {R : Nat} {g : Mt} {x : Nat → Int} (h : InL R 3 g x) {A B C : Int} (hz : ∀ i, i < R → g i 0 * A + g i 1 * B + g i 2 * C = 0) : x 0 * A + x 1 * B + x 2 * C = 0 := by
  obtain ⟨y, hy⟩ := h
  rw [hy 0 (by omega), hy 1 (by omega), hy 2 (by omega)]
  unfold Go.Proofs.Ythajmffhgbenpaa.lc
  rw [Int.mul_comm _ A, Int.mul_comm _ B, Int.mul_comm _ C, ← sumN_mul, ← sumN_mul, ← sumN_mul, ← sumN_add, ← sumN_add]
  refine sumN_zero fun i hi => ?_
  have := hz i hi
  have e : A * (y i * g i 0) + B * (y i * g i 1) + C * (y i * g i 2) = y i * (g i 0 * A + g i 1 * B + g i 2 * C) := by grind
  rw [e, this, Int.mul_zero]
theorem InL.some {R : Nat} {g : Mt} {x : Nat → Int} (h : InL R 3 g x) {A B C : Int} (hz : x 0 * A + x 1 * B + x 2 * C ≠ 0) : ∃ i, i < R ∧ g i 0 * A + g i 1 * B + g i 2 * C ≠ 0 := by
  refine Classical.byContradiction fun hn => hz (h.lin fun i hi => ?_)
  exact Classical.byContradiction fun h2 => hn ⟨i, hi, h2⟩
theorem crs3_lin (v : Nat → Int) {j : Nat} (hj : j < 3) : ∃ A B C : Int, (∀ x : Nat → Int, crs3 x v j = x 0 * A + x 1 * B + x 2 * C) := by
  rcases lt3 hj with rfl | rfl | rfl
  · exact ⟨0, v 2, -v 1, fun x => by simp only [crs3]; grind⟩
  · exact ⟨-v 2, 0, v 0, fun x => by simp only [crs3]; grind⟩
  · exact ⟨v 1, -v 0, 0, fun x => by simp only [crs3]; grind⟩
theorem crs3_neg (u v : Nat → Int) {j : Nat} (hj : j < 3) : crs3 u v j = - crs3 v u j := by
  rcases lt3 hj with rfl | rfl | rfl <;> simp only [crs3] <;> grind
theorem sel2 {N : Nat} {g : Mt} {u v : Nat → Int} (hu : InL N 3 g u) (hv : InL N 3 g v) {j : Nat} (hj : j < 3) (h : crs3 u v j ≠ 0) : ∃ i k, i < N ∧ k < N ∧ crs3 (g i) (g k) j ≠ 0 := by
  obtain ⟨A, B, C, e⟩ := crs3_lin v hj
  obtain ⟨i, hi, h1⟩ := hu.some (A := A) (B := B) (C := C) (by rw [← e]; exact h)
  rw [← e] at h1
  obtain ⟨A, B, C, e⟩ := crs3_lin (g i) hj
  obtain ⟨k, hk, h2⟩ := hv.some (A := A) (B := B) (C := C) (by rw [← e, crs3_neg _ _ hj]; omega)
  rw [← e, crs3_neg _ _ hj] at h2
  exact ⟨i, k, hi, hk, by omega⟩
theorem dt3_u (u v w : Nat → Int) : dt3 u v w = u 0 * crs3 v w 0 + u 1 * crs3 v w 1 + u 2 * crs3 v w 2 := by simp only [dt3, crs3]; grind
theorem dt3_v (u v w : Nat → Int) : dt3 u v w = v 0 * crs3 w u 0 + v 1 * crs3 w u 1 + v 2 * crs3 w u 2 := by simp only [dt3, crs3]; grind
theorem dt3_w (u v w : Nat → Int) : dt3 u v w = w 0 * crs3 u v 0 + w 1 * crs3 u v 1 + w 2 * crs3 u v 2 := by simp only [dt3, crs3]; grind
theorem sel3 {N : Nat} {g : Mt} {u v w : Nat → Int} (hu : InL N 3 g u) (hv : InL N 3 g v) (hw : InL N 3 g w) (h : dt3 u v w ≠ 0) : ∃ i k m, i < N ∧ k < N ∧ m < N ∧ dt3 (g i) (g k) (g m) ≠ 0 := by
  rw [dt3_u] at h
  obtain ⟨i, hi, h1⟩ := hu.some h
  rw [← dt3_u, dt3_v] at h1
  obtain ⟨k, hk, h2⟩ := hv.some h1
  rw [← dt3_v, dt3_w] at h2
  obtain ⟨m, hm, h3⟩ := hw.some h2
  rw [← dt3_w] at h3
  exact ⟨i, k, m, hi, hk, hm, h3⟩
/-- E times each unit vector lies in the lattice -/
def E3 (R : Nat) (l : Mt) (E : Int) : Prop := ∀ j, j < 3 → InL R 3 l fun k => if k = j then E else 0
theorem E3.of_dt {R : Nat} {l : Mt} {u v w : Nat → Int} (hu : InL R 3 l u) (hv : InL R 3 l v) (hw : InL R 3 l w) : E3 R l (dt3 u v w) := fun j hj => by
  refine (((hu.mul (crs3 v w j)).add (hv.mul (crs3 w u j))).add (hw.mul (crs3 u v j))).congr fun k hk => ?_
  rcases lt3 hj with rfl | rfl | rfl <;> rcases lt3 hk with rfl | rfl | rfl <;> simp [dt3, crs3] <;> grind
theorem E3.neg {R : Nat} {l : Mt} {E : Int} (h : E3 R l E) : E3 R l (-E) := fun j hj => ((h j hj).mul (-1)).congr fun k hk => by
  show (if k = j then -E else 0) = -1 * (if k = j then E else 0)
  split <;> omega
theorem E3.mul {R : Nat} {l : Mt} {E : Int} (h : E3 R l E) (c : Int) : E3 R l (c * E) := fun j hj => ((h j hj).mul c).congr fun k hk => by
  show (if k = j then c * E else 0) = c * (if k = j then E else 0)
  split <;> simp
theorem E3.all {R : Nat} {l : Mt} {E : Int} (h : E3 R l E) (x : Nat → Int) : InL R 3 l fun k => E * x k := by
  refine (((h 0 (by omega)).mul (x 0)).add ((h 1 (by omega)).mul (x 1))).add ((h 2 (by omega)).mul (x 2)) |>.congr fun k hk => ?_
  rcases lt3 hk with rfl | rfl | rfl <;> simp <;> grind
section
variable {l : Mt} {p : Nat → Nat}
theorem her2 (h : Her 2 3 l p) : (p 0 = 0 ∧ p 1 = 1) ∨ (p 0 = 0 ∧ p 1 = 2) ∨ (p 0 = 1 ∧ p 1 = 2) := by
  have h0 := h.lt 0 (by omega)
  have h1 := h.lt 1 (by omega)
  have h2 := h.up 0 1 (by omega) (by omega)
  omega
theorem her3 (h : Her 3 3 l p) : p 0 = 0 ∧ p 1 = 1 ∧ p 2 = 2 := by
  have h0 := h.lt 2 (by omega)
  have h1 := h.up 0 1 (by omega) (by omega)
  have h2 := h.up 1 2 (by omega) (by omega)
  omega
theorem her2_crs (h : Her 2 3 l p) : ∃ j, j < 3 ∧ crs3 (l 0) (l 1) j ≠ 0 := by
  have q0 := h.pos 0 (by omega)
  have q1 := h.pos 1 (by omega)
  have z1 := fun j => h.zero 1 j (by omega)
  have z0 := fun j => h.zero 0 j (by omega)
  have hm : l 0 (p 0) * l 1 (p 1) ≠ 0 := Int.mul_ne_zero (by omega) (by omega)
  rcases her2 h with ⟨e0, e1⟩ | ⟨e0, e1⟩ | ⟨e0, e1⟩ <;> rw [e0, e1] at hm <;> rw [e1] at z1
  · exact ⟨2, by omega, by simp only [crs3]; rw [z1 0 (by omega)]; simpa using hm⟩
  · exact ⟨1, by omega, by simp only [crs3]; rw [z1 0 (by omega)]; simp; simpa using hm⟩
  · exact ⟨0, by omega, by simp only [crs3]; rw [z1 1 (by omega)]; simpa using hm⟩
theorem her3_dt (h : Her 3 3 l p) : dt3 (l 0) (l 1) (l 2) ≠ 0 := by
  obtain ⟨e0, e1, e2⟩ := her3 h
  have q0 := h.pos 0 (by omega)
  have q1 := h.pos 1 (by omega)
  have q2 := h.pos 2 (by omega)
  have z10 := h.zero 1 0 (by omega) (by omega)
  have z20 := h.zero 2 0 (by omega) (by omega)
  have z21 := h.zero 2 1 (by omega) (by omega)
  rw [e0] at q0
  rw [e1] at q1
  rw [e2] at q2
  have e : dt3 (l 0) (l 1) (l 2) = l 0 0 * (l 1 1 * l 2 2) := by
    simp only [dt3]; rw [z10, z20, z21]; simp
  rw [e]
  exact Int.mul_ne_zero (by omega) (Int.mul_ne_zero (by omega) (by omega))
end
/-- two vectors of a lattice with two rows -/
theorem crs3_comb {R : Nat} {l : Mt} (hR : R = 2) {u w : Nat → Int} (hu : InL R 3 l u) (hw : InL R 3 l w) : ∃ K : Int, ∀ j, j < 3 → crs3 u w j = K * crs3 (l 0) (l 1) j := by
  subst hR
  obtain ⟨x, hx⟩ := hu
  obtain ⟨y, hy⟩ := hw
  simp only [lc, sumN] at hx hy
  refine ⟨x 0 * y 1 - x 1 * y 0, fun j hj => ?_⟩
  have x0 := hx 0 (by omega); have x1 := hx 1 (by omega); have x2 := hx 2 (by omega)
  have y0 := hy 0 (by omega); have y1 := hy 1 (by omega); have y2 := hy 2 (by omega)
  rcases lt3 hj with rfl | rfl | rfl <;> simp only [crs3] <;> simp only [x0, x1, x2, y0, y1, y2] <;> simp <;> grind
theorem le_mul_abs {K x N : Int} (hK : K ≠ 0) (h : -N ≤ K * x ∧ K * x ≤ N) : -N ≤ x ∧ x ≤ N := by
  rcases Int.lt_or_gt_of_ne hK with h1 | h1
  · rcases Int.le_total 0 x with h2 | h2
    · have := Int.mul_le_mul_of_nonneg_right (show 1 ≤ -K by omega) h2
      rw [Int.neg_mul] at this; omega
    · have := Int.mul_le_mul_of_nonneg_right (show 1 ≤ -K by omega) (show 0 ≤ -x by omega)
      rw [Int.neg_mul_neg] at this; omega
  · rcases Int.le_total 0 x with h2 | h2
    · have := Int.mul_le_mul_of_nonneg_right (show 1 ≤ K by omega) h2
      omega
    · have := Int.mul_le_mul_of_nonneg_right (show 1 ≤ K by omega) (show 0 ≤ -x by omega)
      simp only [Int.mul_neg, Int.one_mul] at this; omega
theorem pos_le {a d N : Int} (ha : 0 < a) (hd : 0 < d) (h : a * d ≤ N) : a ≤ N ∧ d ≤ N := by
  have h1 := Int.mul_le_mul_of_nonneg_left (show 1 ≤ d by omega) (Int.le_of_lt ha)
  have h2 := Int.mul_le_mul_of_nonneg_right (show 1 ≤ a by omega) (Int.le_of_lt hd)
  omega
theorem third_le {x d b y N m : Int} (hd : 0 < d) (hb : 0 ≤ b ∧ b < d) (hy : -N ≤ y ∧ y ≤ N) (hm : -N ≤ m ∧ m ≤ N) (e : x * d = b * y - m) : -(2 * N) ≤ x ∧ x ≤ 2 * N := by
  have h1 := Int.mul_le_mul_of_nonneg_left hy.2 hb.1
  have h2 := Int.mul_le_mul_of_nonneg_left hy.1 hb.1
  have h3 := Int.mul_le_mul_of_nonneg_right (show b ≤ d by omega) (show 0 ≤ N by omega)
  have h4 := Int.mul_le_mul_of_nonneg_right (show 1 ≤ d by omega) (show 0 ≤ N by omega)
  rw [Int.mul_neg] at h2
  have e2 : d * N = N * d := Int.mul_comm _ _
  constructor
  · refine Int.le_of_mul_le_mul_right (a := d) ?_ hd
    rw [Int.neg_mul, Int.mul_assoc]; omega
  · refine Int.le_of_mul_le_mul_right (a := d) ?_ hd
    rw [Int.mul_assoc]; omega
/-- two rows: cells out of one cross product -/
theorem cells2 {l : Mt} {p : Nat → Nat} (h : Her 2 3 l p) {u w : Nat → Int} (hu : InL 2 3 l u) (hw : InL 2 3 l w) {N : Int} (hne : ∃ j, j < 3 ∧ crs3 u w j ≠ 0) (hN : ∀ j, j < 3 → -N ≤ crs3 u w j ∧ crs3 u w j ≤ N) : ∀ i j, i < 2 → j < 3 → -(2 * N) ≤ l i j ∧ l i j ≤ 2 * N := by
  obtain ⟨K, hK⟩ := crs3_comb rfl hu hw
  have hK0 : K ≠ 0 := fun e => by
    obtain ⟨j, hj, h1⟩ := hne
    rw [hK j hj, e, Int.zero_mul] at h1
    exact h1 rfl
  have hc : ∀ j, j < 3 → -N ≤ crs3 (l 0) (l 1) j ∧ crs3 (l 0) (l 1) j ≤ N := fun j hj => le_mul_abs hK0 (by rw [← hK j hj]; exact hN j hj)
  have c0 := hc 0 (by omega)
  have c1 := hc 1 (by omega)
  have c2 := hc 2 (by omega)
  have q0 := h.pos 0 (by omega)
  have q1 := h.pos 1 (by omega)
  have r0 := h.red 0 1 (by omega) (by omega)
  have z1 := fun j => h.zero 1 j (by omega)
  have z0 := fun j => h.zero 0 j (by omega)
  simp only [crs3] at c0 c1 c2
  simp at c0 c1 c2
  rcases her2 h with ⟨e0, e1⟩ | ⟨e0, e1⟩ | ⟨e0, e1⟩ <;> rw [e0] at q0 z0 <;> rw [e1] at q1 z1 r0
  · have a0 := z1 0 (by omega)
    rw [a0] at c1 c2
    simp at c1 c2
    obtain ⟨b1, b2⟩ := pos_le q0 q1 c2.2
    have b3 : -N ≤ l 1 2 ∧ l 1 2 ≤ N := le_mul_abs (K := -l 0 0) (by omega) (by rw [Int.neg_mul]; omega)
    have b4 := third_le (x := l 0 2) (N := N) q1 r0 b3 c0 (by omega)
    intro i j hi hj
    have hi' : i = 0 ∨ i = 1 := by omega
    rcases hi' with rfl | rfl <;> rcases lt3 hj with rfl | rfl | rfl <;> omega
  · have a0 := z1 0 (by omega)
    have a1 := z1 1 (by omega)
    rw [a1] at c0 c2
    rw [a0] at c1 c2
    simp at c0 c1
    obtain ⟨b1, b2⟩ := pos_le q0 q1 (N := N) (by omega)
    have b3 : -N ≤ l 0 1 ∧ l 0 1 ≤ N := le_mul_abs (K := l 1 2) (by omega) (by rw [Int.mul_comm]; exact c0)
    intro i j hi hj
    have hi' : i = 0 ∨ i = 1 := by omega
    rcases hi' with rfl | rfl <;> rcases lt3 hj with rfl | rfl | rfl <;> omega
  · have a0 := z1 0 (by omega)
    have a1 := z1 1 (by omega)
    have a2 := z0 0 (by omega)
    rw [a1] at c0
    simp at c0
    obtain ⟨b1, b2⟩ := pos_le q0 q1 (N := N) (by omega)
    intro i j hi hj
    have hi' : i = 0 ∨ i = 1 := by omega
    rcases hi' with rfl | rfl <;> rcases lt3 hj with rfl | rfl | rfl <;> omega
/-- one row -/
theorem cells1 {l : Mt} {u : Nat → Int} (hu : InL 1 3 l u) {j0 : Nat} (hj0 : j0 < 3) (hne : u j0 ≠ 0) {N : Int} (hN : ∀ j, j < 3 → -N ≤ u j ∧ u j ≤ N) : ∀ j, j < 3 → -N ≤ l 0 j ∧ l 0 j ≤ N := fun j hj => by
  obtain ⟨x, hx⟩ := hu
  simp only [lc, sumN] at hx
  refine le_mul_abs (K := x 0) (fun e => ?_) (by have := hN j hj; rw [hx j hj] at this; omega)
  have := hx j0 hj0
  rw [e, Int.zero_mul] at this
  exact hne (by omega)
/-- three rows -/
theorem cells3 {l : Mt} {p : Nat → Nat} (h : Her 3 3 l p) {E : Int} (h0 : 0 < E) (hE : E3 3 l E) : ∀ i j, i < 3 → j < 3 → -E ≤ l i j ∧ l i j ≤ E := by
  obtain ⟨e0, e1, e2⟩ := her3 h
  have piv : ∀ k, k < 3 → l k k ≤ E := fun k hk => by
    obtain ⟨i, hi, e, hd⟩ := h.lead (hE k hk) hk (by rw [if_pos rfl]; omega) (fun j hj => by rw [if_neg (by omega)])
    have : i = k := by
      rcases lt3 hi with rfl | rfl | rfl <;> omega
    subst this
    rw [if_pos rfl] at hd
    exact Int.le_of_dvd h0 hd
  have p0 := piv 0 (by omega)
  have p1 := piv 1 (by omega)
  have p2 := piv 2 (by omega)
  have q0 := h.pos 0 (by omega)
  have q1 := h.pos 1 (by omega)
  have q2 := h.pos 2 (by omega)
  have z10 := h.zero 1 0 (by omega) (by omega)
  have z20 := h.zero 2 0 (by omega) (by omega)
  have z21 := h.zero 2 1 (by omega) (by omega)
  have r01 := h.red 0 1 (by omega) (by omega)
  have r02 := h.red 0 2 (by omega) (by omega)
  have r12 := h.red 1 2 (by omega) (by omega)
  rw [e0] at q0
  rw [e1] at q1 r01
  rw [e2] at q2 r02 r12
  intro i j hi hj
  rcases lt3 hi with rfl | rfl | rfl <;> rcases lt3 hj with rfl | rfl | rfl <;> omega
end Go.Proofs.Ythajmffhgbenpaa

/- Plain: the coordinates of rows of a meet, and of rows in a sum, stay small. -/
namespace Go.Proofs.Ythajmffhgbenpaa
set_option linter.unusedSimpArgs false
set_option linter.unusedVariables false

theorem abs_mul {x y M N : Int} (hx : -M ≤ x ∧ x ≤ M) (hy : -N ≤ y ∧ y ≤ N) : -(M * N) ≤ x * y ∧ x * y ≤ M * N := by
  have key : ∀ {x y : Int}, 0 ≤ x → 0 ≤ y → x ≤ M → y ≤ N → x * y ≤ M * N := fun h1 h2 h3 h4 => Int.mul_le_mul h3 h4 h2 (by omega)
  rcases Int.le_total 0 x with h | h <;> rcases Int.le_total 0 y with h2 | h2
  · have := key h h2 hx.2 hy.2
    have := Int.mul_nonneg h h2
    omega
  · have := key h (show 0 ≤ -y by omega) hx.2 (by omega)
    have := Int.mul_nonneg h (show 0 ≤ -y by omega)
    rw [Int.mul_neg] at *; omega
  · have := key (show 0 ≤ -x by omega) h2 (by omega) hy.2
    have := Int.mul_nonneg (show 0 ≤ -x by omega) h2
    rw [Int.neg_mul] at *; omega
  · have := key (show 0 ≤ -x by omega) (show 0 ≤ -y by omega) (by omega) (by omega)
    have := Int.mul_nonneg (show 0 ≤ -x by omega) (show 0 ≤ -y by omega)
    rw [Int.neg_mul_neg] at *; omega
theorem abs_mul' {x y M N K : Int} (hx : -M ≤ x ∧ x ≤ M) (hy : -N ≤ y ∧ y ≤ N) (hK : M * N ≤ K) : -K ≤ x * y ∧ x * y ≤ K := by
  have := abs_mul hx hy; omega
/-- a coordinate out of what is left at its pivot -/
theorem step_le {d c S v E M : Int} (hd : 0 < d) (e : c * d = v - S) (hv : -(E * d) ≤ v ∧ v ≤ E * d) (hS : -(M * d) ≤ S ∧ S ≤ M * d) : -(E + M) ≤ c ∧ c ≤ E + M := by
  constructor
  · refine Int.le_of_mul_le_mul_right (a := d) ?_ hd
    rw [Int.neg_mul, Int.add_mul]; omega
  · refine Int.le_of_mul_le_mul_right (a := d) ?_ hd
    rw [Int.add_mul]; omega
theorem part_le {c x d E : Int} (hc : -E ≤ c ∧ c ≤ E) (hx : 0 ≤ x ∧ x < d) : -(E * d) ≤ c * x ∧ c * x ≤ E * d := abs_mul hc (by omega)
section
variable {R C : Nat} {l : Mt} {p : Nat → Nat} {v c : Nat → Int} {E : Int}
theorem coord_le (h : Her R C l p) (hR : R ≤ 3) (hv : ∀ j, j < C → v j = lc R l c j) (_ : 0 ≤ E) (hb : ∀ k, k < R → -(E * l k (p k)) ≤ v (p k) ∧ v (p k) ≤ E * l k (p k)) :
    (0 < R → -E ≤ c 0 ∧ c 0 ≤ E) ∧ (1 < R → -(2 * E) ≤ c 1 ∧ c 1 ≤ 2 * E) ∧ (2 < R → -(4 * E) ≤ c 2 ∧ c 2 ≤ 4 * E) := by
  have z : ∀ i k, k < i → i < R → l i (p k) = 0 := fun i k hk hi => h.zero i (p k) hi (h.up k i hk hi)
  have k0 : 0 < R → -E ≤ c 0 ∧ c 0 ≤ E := fun h0 => by
    have e := hv _ (h.lt 0 h0)
    have e2 : lc R l c (p 0) = c 0 * l 0 (p 0) := by
      have hR' : R = 1 ∨ R = 2 ∨ R = 3 := by omega
      rcases hR' with rfl | rfl | rfl <;> simp only [lc, sumN]
      · omega
      · rw [z 1 0 (by omega) (by omega)]; omega
      · rw [z 1 0 (by omega) (by omega), z 2 0 (by omega) (by omega)]; omega
    have := step_le (S := 0) (M := 0) (h.pos 0 h0) (show c 0 * l 0 (p 0) = v (p 0) - 0 by omega) (hb 0 h0) (by omega)
    omega
  have k1 : 1 < R → -(2 * E) ≤ c 1 ∧ c 1 ≤ 2 * E := fun h1 => by
    have e := hv _ (h.lt 1 h1)
    have e2 : lc R l c (p 1) = c 0 * l 0 (p 1) + c 1 * l 1 (p 1) := by
      have hR' : R = 2 ∨ R = 3 := by omega
      rcases hR' with rfl | rfl <;> simp only [lc, sumN]
      · omega
      · rw [z 2 1 (by omega) (by omega)]; omega
    have hp := part_le (k0 (by omega)) (h.red 0 1 (by omega) h1)
    have := step_le (S := c 0 * l 0 (p 1)) (M := E) (h.pos 1 h1) (show c 1 * l 1 (p 1) = v (p 1) - c 0 * l 0 (p 1) by omega) (hb 1 h1) hp
    omega
  refine ⟨k0, k1, fun h2 => ?_⟩
  have e := hv _ (h.lt 2 h2)
  obtain rfl : R = 3 := by omega
  simp only [lc, sumN] at e
  have hp := part_le (k0 (by omega)) (h.red 0 2 (by omega) h2)
  have hq := part_le (k1 (by omega)) (h.red 1 2 (by omega) h2)
  have := step_le (S := c 0 * l 0 (p 2) + c 1 * l 1 (p 2)) (M := 3 * E) (h.pos 2 h2) (show c 2 * l 2 (p 2) = v (p 2) - (c 0 * l 0 (p 2) + c 1 * l 1 (p 2)) by omega) (hb 2 h2) (by
    rw [show 3 * E * l 2 (p 2) = E * l 2 (p 2) + 2 * E * l 2 (p 2) by rw [← Int.add_mul]; congr 1; omega]
    omega)
  omega
end
/-- the search of coordinates meets no number beyond the limit -/
def Fine (R : Nat) (l : Mt) (c v : Nat → Int) : Prop :=
  (∀ k j, k < R → j < 3 → -400000000 ≤ c k * l k j ∧ c k * l k j ≤ 400000000) ∧ ∀ k j, k ≤ R → j < 3 → -400000000 ≤ v j - lc k l c j ∧ v j - lc k l c j ≤ 400000000
section
variable {R : Nat} {l : Mt} {p : Nat → Nat} {v c : Nat → Int}
theorem fine_of (hR : R ≤ 3) (hv : ∀ j, j < 3 → v j = lc R l c j) {V X Y : Int} (hV : ∀ j, j < 3 → -V ≤ v j ∧ v j ≤ V) (hX : 1 < R → ∀ j, j < 3 → -X ≤ c 0 * l 0 j ∧ c 0 * l 0 j ≤ X) (hY : 2 < R → ∀ j, j < 3 → -Y ≤ c 1 * l 1 j ∧ c 1 * l 1 j ≤ Y)
    (h0 : 0 ≤ X) (h1 : 0 ≤ Y) (hs : V + X + Y ≤ 400000000) : Fine R l c v := by
  have hR' : R = 0 ∨ R = 1 ∨ R = 2 ∨ R = 3 := by omega
  rcases hR' with rfl | rfl | rfl | rfl
  · refine ⟨fun k j hk => by omega, fun k j hk hj => ?_⟩
    obtain rfl : k = 0 := by omega
    have := hV j hj
    simp only [lc, sumN]
    omega
  · refine ⟨fun k j hk hj => ?_, fun k j hk hj => ?_⟩
    · obtain rfl : k = 0 := by omega
      have := hV j hj
      have e := hv j hj
      simp only [lc, sumN] at e
      omega
    · have := hV j hj
      have e := hv j hj
      have hk' : k = 0 ∨ k = 1 := by omega
      rcases hk' with rfl | rfl <;> simp only [lc, sumN] at e ⊢ <;> omega
  · refine ⟨fun k j hk hj => ?_, fun k j hk hj => ?_⟩
    · have := hV j hj
      have := hX (by omega) j hj
      have e := hv j hj
      simp only [lc, sumN] at e
      have hk' : k = 0 ∨ k = 1 := by omega
      rcases hk' with rfl | rfl <;> omega
    · have := hV j hj
      have := hX (by omega) j hj
      have e := hv j hj
      have hk' : k = 0 ∨ k = 1 ∨ k = 2 := by omega
      rcases hk' with rfl | rfl | rfl <;> simp only [lc, sumN] at e ⊢ <;> omega
  · refine ⟨fun k j hk hj => ?_, fun k j hk hj => ?_⟩
    · have := hV j hj
      have := hX (by omega) j hj
      have := hY (by omega) j hj
      have e := hv j hj
      simp only [lc, sumN] at e
      rcases lt3 hk with rfl | rfl | rfl <;> omega
    · have := hV j hj
      have := hX (by omega) j hj
      have := hY (by omega) j hj
      have e := hv j hj
      have hk' : k = 0 ∨ k = 1 ∨ k = 2 ∨ k = 3 := by omega
      rcases hk' with rfl | rfl | rfl | rfl <;> simp only [lc, sumN] at e ⊢ <;> omega
/-- all cells of a combination -/
theorem comb_le (hR : R ≤ 3) {H A B C : Int} (hH : ∀ i j, i < R → j < 3 → -H ≤ l i j ∧ l i j ≤ H) (h0 : 0 < R → -A ≤ c 0 ∧ c 0 ≤ A) (h1 : 1 < R → -B ≤ c 1 ∧ c 1 ≤ B) (h2 : 2 < R → -C ≤ c 2 ∧ c 2 ≤ C) (hA : 0 ≤ A * H) (hB : 0 ≤ B * H) (hC : 0 ≤ C * H) {j : Nat} (hj : j < 3) :
    -(A * H + B * H + C * H) ≤ lc R l c j ∧ lc R l c j ≤ A * H + B * H + C * H := by
  have hR' : R = 0 ∨ R = 1 ∨ R = 2 ∨ R = 3 := by omega
  rcases hR' with rfl | rfl | rfl | rfl <;> simp only [lc, sumN]
  · omega
  · have a := abs_mul (h0 (by omega)) (hH 0 j (by omega) hj)
    omega
  · have a := abs_mul (h0 (by omega)) (hH 0 j (by omega) hj)
    have b := abs_mul (h1 (by omega)) (hH 1 j (by omega) hj)
    omega
  · have a := abs_mul (h0 (by omega)) (hH 0 j (by omega) hj)
    have b := abs_mul (h1 (by omega)) (hH 1 j (by omega) hj)
    have d := abs_mul (h2 (by omega)) (hH 2 j (by omega) hj)
    omega
/-- small values -/
theorem fine_val (h : Her R 3 l p) (hR : R ≤ 3) (hv : ∀ j, j < 3 → v j = lc R l c j) {V H : Int} (hV0 : 0 ≤ V) (hH0 : 0 ≤ H) (hV : ∀ j, j < 3 → -V ≤ v j ∧ v j ≤ V) (hH : ∀ i j, i < R → j < 3 → -H ≤ l i j ∧ l i j ≤ H) (hs : V + V * H + 2 * V * H ≤ 400000000) : Fine R l c v := by
  obtain ⟨c0, c1, _⟩ := coord_le h hR hv hV0 fun k hk => by
    have h1 := hV _ (h.lt k hk)
    have h2 := Int.mul_le_mul_of_nonneg_left (show 1 ≤ l k (p k) by have := h.pos k hk; omega) hV0
    omega
  exact fine_of hR hv hV (fun h1 j hj => abs_mul (c0 (by omega)) (hH 0 j (by omega) hj)) (fun h2 j hj => abs_mul (c1 (by omega)) (hH 1 j (by omega) hj)) (Int.mul_nonneg hV0 hH0) (Int.mul_nonneg (by omega) hH0) hs
/-- values small against the pivots -/
theorem fine_same (h : Her R 3 l p) (hR : R ≤ 3) (hv : ∀ j, j < 3 → v j = lc R l c j) {E H : Int} (hE : 0 ≤ E) (hH0 : 0 ≤ H) (hb : ∀ k, k < R → -(E * l k (p k)) ≤ v (p k) ∧ v (p k) ≤ E * l k (p k)) (hH : ∀ i j, i < R → j < 3 → -H ≤ l i j ∧ l i j ≤ H) (hs : 10 * (E * H) ≤ 400000000) : Fine R l c v := by
  obtain ⟨c0, c1, c2⟩ := coord_le h hR hv hE hb
  have hEH := Int.mul_nonneg hE hH0
  have e2 : 2 * E * H = 2 * (E * H) := Int.mul_assoc _ _ _
  have e4 : 4 * E * H = 4 * (E * H) := Int.mul_assoc _ _ _
  exact fine_of (V := 7 * (E * H)) (X := E * H) (Y := 2 * (E * H)) hR hv (fun j hj => by
      have := comb_le hR hH c0 c1 c2 hEH (by omega) (by omega) hj
      rw [hv j hj]; omega)
    (fun h1 j hj => abs_mul (c0 (by omega)) (hH 0 j (by omega) hj)) (fun h2 j hj => by have := abs_mul (c1 (by omega)) (hH 1 j (by omega) hj); omega) hEH (by omega) (by omega)
end
theorem same_piv {R R' C : Nat} {l m : Mt} {p q : Nat → Nat} {E : Int} (h : Her R C l p) (h' : Her R' C m q) (hm : ∀ i, i < R' → InL R C l (m i)) (h0 : 0 < E) (hE : ∀ i, i < R → InL R' C m fun j => E * l i j) :
    R = R' ∧ ∀ i k, i < R' → k < R → -(E * l k (p k)) ≤ m i (p k) ∧ m i (p k) ≤ E * l k (p k) := by
  have ld : ∀ k, k < R → ∃ i, i < R' ∧ q i = p k ∧ m i (p k) ∣ E * l k (p k) := fun k hk =>
    h'.lead (hE k hk) (h.lt k hk) (Int.mul_ne_zero (by omega) (by have := h.pos k hk; omega)) fun j hj => by rw [h.zero k j hk hj, Int.mul_zero]
  obtain ⟨e, hp⟩ := two_up h.up h'.up (fun i hi => by obtain ⟨r, hr, e, _⟩ := ld i hi; exact ⟨r, hr, e⟩) (fun r hr => by obtain ⟨i, hi, e, _⟩ := h.pivot h' hm hr; exact ⟨i, hi, e⟩)
  subst e
  refine ⟨rfl, fun i k hi hk => ?_⟩
  obtain ⟨k', hk', e1, e2⟩ := ld k hk
  have ek : k' = k := by
    rw [hp k hk] at e1
    rcases Nat.lt_trichotomy k' k with x | x | x
    · have := h'.up k' k x hk; omega
    · exact x
    · have := h'.up k k' x hk'; omega
  subst ek
  have hpos : 0 < E * l k' (p k') := Int.mul_pos h0 (h.pos k' hk)
  have hle := Int.le_of_dvd hpos e2
  have hmp := h'.pos k' hk
  rw [← hp k' hk] at hmp
  rcases Nat.lt_trichotomy i k' with x | x | x
  · have := h'.red i k' x hk
    rw [← hp k' hk] at this
    omega
  · subst x; omega
  · have := h'.zero i (q k') hi (h'.up k' i x hi)
    rw [← hp k' hk] at this
    omega
end Go.Proofs.Ythajmffhgbenpaa

/- Plain: the coordinates in a meet and in a sum are found. -/
namespace Go.Proofs.Ythajmffhgbenpaa
set_option linter.unusedSimpArgs false
set_option linter.unusedVariables false

/-- how large a drawn lattice can be -/
def Wd (R : Nat) (a : Mt) : Prop := (R ≤ 2 ∧ ∀ i j, i < R → j < 3 → -64 ≤ a i j ∧ a i j ≤ 64) ∨ (R = 3 ∧ ∃ E, 0 < E ∧ E ≤ 768 ∧ E3 3 a E)
theorem Her.wide3 {R : Nat} {a : Mt} {p : Nat → Nat} (h : Her R 3 a p) : R ≤ 3 := by
  refine Classical.byContradiction fun hn => ?_
  have h0 := h.up 0 1 (by omega) (by omega)
  have h1 := h.up 1 2 (by omega) (by omega)
  have h2 := h.up 2 3 (by omega) (by omega)
  have h3 := h.lt 3 (by omega)
  omega
theorem Wd.cells {R : Nat} {a : Mt} {p : Nat → Nat} (h : Her R 3 a p) (w : Wd R a) : ∀ i j, i < R → j < 3 → -768 ≤ a i j ∧ a i j ≤ 768 := by
  rcases w with ⟨_, h1⟩ | ⟨rfl, E, h0, h1, h2⟩
  · intro i j hi hj
    have := h1 i j hi hj
    omega
  · intro i j hi hj
    have := cells3 h h0 h2 i j hi hj
    omega
/-- a multiple of each vector of the space lies in the lattice -/
theorem sat_E {R : Nat} {b : Mt} {p : Nat → Nat} (H : Her R 3 b p) (hR : R ≤ 2) (hc : ∀ i j, i < R → j < 3 → -64 ≤ b i j ∧ b i j ≤ 64) : ∃ E : Int, 0 < E ∧ E ≤ 4096 ∧ ∀ v, InQ R 3 b v → InL R 3 b fun j => E * v j := by
  have hR' : R = 0 ∨ R = 1 ∨ R = 2 := by omega
  rcases hR' with rfl | rfl | rfl
  · refine ⟨1, by decide, by decide, fun v ⟨D, hD, x, hx⟩ => ⟨x, fun j hj => ?_⟩⟩
    have e : D * v j = 0 := hx j hj
    rcases Int.mul_eq_zero.1 e with e | e
    · exact absurd e hD
    · show 1 * v j = 0; omega
  · have q0 := H.pos 0 (by omega)
    have l0 := H.lt 0 (by omega)
    have c0 := hc 0 (p 0) (by omega) l0
    refine ⟨b 0 (p 0), q0, by omega, fun v ⟨D, hD, x, hx⟩ => ⟨fun _ => v (p 0), fun j hj => ?_⟩⟩
    have e0 := hx _ l0
    have ej := hx j hj
    simp only [lc, sumN] at e0 ej ⊢
    refine Int.eq_of_mul_eq_mul_left hD ?_
    have k1 : D * (b 0 (p 0) * v j) = b 0 (p 0) * (D * v j) := by ac_rfl
    have k2 : D * (0 + v (p 0) * b 0 j) = D * v (p 0) * b 0 j := by rw [Int.zero_add, Int.mul_assoc]
    rw [k1, k2, e0, ej]
    grind
  · have q0 := H.pos 0 (by omega)
    have q1 := H.pos 1 (by omega)
    have l0 := H.lt 0 (by omega)
    have l1 := H.lt 1 (by omega)
    have c0 := hc 0 (p 0) (by omega) l0
    have c1 := hc 1 (p 1) (by omega) l1
    have z := H.zero 1 (p 0) (by omega) (H.up 0 1 (by omega) (by omega))
    refine ⟨b 0 (p 0) * b 1 (p 1), Int.mul_pos q0 q1, (abs_mul' (M := 64) (N := 64) (K := 4096) c0 c1 (by decide)).2, fun v ⟨D, hD, x, hx⟩ => ⟨fun i => if i = 0 then v (p 0) * b 1 (p 1) else b 0 (p 0) * v (p 1) - v (p 0) * b 0 (p 1), fun j hj => ?_⟩⟩
    have e0 := hx _ l0
    have e1 := hx _ l1
    have ej := hx j hj
    simp only [lc, sumN] at e0 e1 ej ⊢
    rw [z] at e0
    refine Int.eq_of_mul_eq_mul_left hD ?_
    simp only [if_true, Nat.one_ne_zero, if_false]
    generalize b 0 (p 0) = s at *
    generalize b 1 (p 1) = t at *
    generalize b 0 (p 1) = u at *
    generalize v (p 0) = v0 at *
    generalize v (p 1) = v1 at *
    generalize b 0 j = y0 at *
    generalize b 1 j = y1 at *
    have f0 : D * v0 = x 0 * s := by omega
    have f1 : D * v1 = x 0 * u + x 1 * t := by omega
    have fj : D * v j = x 0 * y0 + x 1 * y1 := by omega
    have k1 : D * (s * t * v j) = s * t * (D * v j) := by ac_rfl
    have k2 : D * (0 + v0 * t * y0 + (s * v1 - v0 * u) * y1) = D * v0 * t * y0 + (s * (D * v1) - D * v0 * u) * y1 := by grind
    rw [k1, k2, f0, f1, fj]
    grind
/-- what is at right angles to the cross product lies in the space -/
theorem perp_in {b v : Nat → Nat → Int} {i : Nat} (hp : v i 0 * crs3 (b 0) (b 1) 0 + v i 1 * crs3 (b 0) (b 1) 1 + v i 2 * crs3 (b 0) (b 1) 2 = 0) (hne : ∃ j, j < 3 ∧ crs3 (b 0) (b 1) j ≠ 0) : InQ 2 3 b (v i) := by
  obtain ⟨j, hj, hne⟩ := hne
  refine ⟨crs3 (b 0) (b 1) j, hne, fun k => if k = 0 then crs3 (v i) (b 1) j else crs3 (b 0) (v i) j, fun k hk => ?_⟩
  simp only [lc, sumN, if_true, Nat.one_ne_zero, if_false]
  rcases lt3 hj with rfl | rfl | rfl <;> rcases lt3 hk with rfl | rfl | rfl <;> simp [crs3] at hp ⊢ <;> grind
theorem Her.cut {R R' C : Nat} {a : Mt} {p : Nat → Nat} (h : Her R C a p) (hR : R' ≤ R) : Her R' C a p :=
  ⟨fun i hi => h.lt i (by omega), fun i k hi hk => h.up i k hi (by omega), fun i hi => h.pos i (by omega), fun i j hi hj => h.zero i j (by omega) hj, fun k i hk hi => h.red k i hk (by omega)⟩
/-- two lattices of two rows, neither's space in the other -/
theorem cross_fine {Rm : Nat} {a b m : Mt} {pa pb pm : Nat → Nat} (Ha : Her 2 3 a pa) (Hb : Her 2 3 b pb) (Hm : Her Rm 3 m pm) (ca : ∀ i j, i < 2 → j < 3 → -64 ≤ a i j ∧ a i j ≤ 64) (cb : ∀ i j, i < 2 → j < 3 → -64 ≤ b i j ∧ b i j ≤ 64)
    (ma : ∀ i, i < Rm → InL 2 3 a (m i)) (mb : ∀ i, i < Rm → InL 2 3 b (m i)) (hm : ∀ v, InL 2 3 a v → InL 2 3 b v → InL Rm 3 m v) (hsp : ¬ ∀ i, i < 2 → InQ 2 3 b (a i)) {i : Nat} (hi : i < Rm) {c : Nat → Int} (hc : ∀ j, j < 3 → m i j = lc 2 a c j) : Fine 2 a c (m i) := by
  have nb := her2_crs Hb
  have perp : ∀ i, i < 2 → a i 0 * crs3 (b 0) (b 1) 0 + a i 1 * crs3 (b 0) (b 1) 1 + a i 2 * crs3 (b 0) (b 1) 2 = 0 → InQ 2 3 b (a i) := fun i _ h => perp_in h nb
  obtain ⟨s0, h0⟩ : ∃ s, s = a 0 0 * crs3 (b 0) (b 1) 0 + a 0 1 * crs3 (b 0) (b 1) 1 + a 0 2 * crs3 (b 0) (b 1) 2 := ⟨_, rfl⟩
  obtain ⟨s1, h1⟩ : ∃ s, s = a 1 0 * crs3 (b 0) (b 1) 0 + a 1 1 * crs3 (b 0) (b 1) 1 + a 1 2 * crs3 (b 0) (b 1) 2 := ⟨_, rfl⟩
  have hne : ¬ (s0 = 0 ∧ s1 = 0) := fun ⟨e0, e1⟩ => hsp fun i hi => perp i hi (by
    have hi' : i = 0 ∨ i = 1 := by omega
    rcases hi' with rfl | rfl <;> omega)
  -- the vector that lies in both
  obtain ⟨w, hw⟩ : ∃ w : Nat → Int, w = fun j => (-s1) * a 0 j + s0 * a 1 j := ⟨_, rfl⟩
  have wa : InL 2 3 a w := ⟨fun i => if i = 0 then -s1 else s0, fun j hj => by rw [hw]; simp [lc, sumN]⟩
  have wb : InL 2 3 b w := by
    refine ⟨fun i => if i = 0 then (b 1 0 * crs3 (a 0) (a 1) 0 + b 1 1 * crs3 (a 0) (a 1) 1 + b 1 2 * crs3 (a 0) (a 1) 2) else -(b 0 0 * crs3 (a 0) (a 1) 0 + b 0 1 * crs3 (a 0) (a 1) 1 + b 0 2 * crs3 (a 0) (a 1) 2), fun j hj => ?_⟩
    rw [hw, h0, h1]
    simp only [lc, sumN, if_true, Nat.one_ne_zero, if_false]
    rcases lt3 hj with rfl | rfl | rfl <;> simp [crs3] <;> grind
  have wm := hm w wa wb
  -- one row alone
  have hR1 : Rm = 1 := by
    refine Classical.byContradiction fun hn => hsp fun k hk => perp k hk ?_
    have H2 : Her 2 3 m pm := Hm.cut (by omega)
    obtain ⟨j, hj, hmj⟩ := her2_crs H2
    obtain ⟨K, hK⟩ := crs3_comb rfl (ma 0 (by omega)) (ma 1 (by omega))
    obtain ⟨K', hK'⟩ := crs3_comb rfl (mb 0 (by omega)) (mb 1 (by omega))
    have hK0 : K' ≠ 0 := fun e => by
      rw [hK' j hj, e, Int.zero_mul] at hmj
      exact hmj rfl
    have e0 : K' * crs3 (b 0) (b 1) 0 = K * crs3 (a 0) (a 1) 0 := by rw [← hK 0 (by omega), ← hK' 0 (by omega)]
    have e1 : K' * crs3 (b 0) (b 1) 1 = K * crs3 (a 0) (a 1) 1 := by rw [← hK 1 (by omega), ← hK' 1 (by omega)]
    have e2 : K' * crs3 (b 0) (b 1) 2 = K * crs3 (a 0) (a 1) 2 := by rw [← hK 2 (by omega), ← hK' 2 (by omega)]
    have ea : a k 0 * crs3 (a 0) (a 1) 0 + a k 1 * crs3 (a 0) (a 1) 1 + a k 2 * crs3 (a 0) (a 1) 2 = 0 := by
      have hk' : k = 0 ∨ k = 1 := by omega
      rcases hk' with rfl | rfl <;> simp [crs3] <;> grind
    have e3 : K' * (a k 0 * crs3 (b 0) (b 1) 0 + a k 1 * crs3 (b 0) (b 1) 1 + a k 2 * crs3 (b 0) (b 1) 2) = K * (a k 0 * crs3 (a 0) (a 1) 0 + a k 1 * crs3 (a 0) (a 1) 1 + a k 2 * crs3 (a 0) (a 1) 2) := by
      generalize crs3 (b 0) (b 1) 0 = n0 at *
      generalize crs3 (b 0) (b 1) 1 = n1 at *
      generalize crs3 (b 0) (b 1) 2 = n2 at *
      generalize crs3 (a 0) (a 1) 0 = g0 at *
      generalize crs3 (a 0) (a 1) 1 = g1 at *
      generalize crs3 (a 0) (a 1) 2 = g2 at *
      have t1 : K' * (a k 0 * n0 + a k 1 * n1 + a k 2 * n2) = a k 0 * (K' * n0) + a k 1 * (K' * n1) + a k 2 * (K' * n2) := by grind
      rw [t1, e0, e1, e2]
      grind
    rw [ea, Int.mul_zero] at e3
    rcases Int.mul_eq_zero.1 e3 with e | e
    · exact absurd e hK0
    · exact e
  subst hR1
  obtain rfl : i = 0 := by omega
  obtain ⟨x, hx⟩ := wm
  simp only [lc, sumN] at hx
  have hz : ∀ i, i < 2 → x 0 * c i = if i = 0 then -s1 else s0 := fun i hi => by
    have this : x 0 * c i + (-1) * (if i = 0 then -s1 else s0) = 0 := Ha.ind (x := fun i => x 0 * c i + (-1) * (if i = 0 then -s1 else s0)) (fun j hj => by
      rw [lc_add, lc_mul, lc_mul, ← hc j hj]
      have e : -s1 * a 0 j + s0 * a 1 j = 0 + x 0 * m 0 j := by have := hx j hj; rw [hw] at this; exact this
      simp only [lc, sumN]
      simp
      omega) i hi
    omega
  have hz0 : x 0 * c 0 = -s1 := hz 0 (by omega)
  have hz1 : x 0 * c 1 = s0 := hz 1 (by omega)
  have hx0 : x 0 ≠ 0 := fun e => by
    rw [e, Int.zero_mul] at hz0 hz1
    exact hne ⟨by omega, by omega⟩
  have cr : ∀ j, j < 3 → -8192 ≤ crs3 (b 0) (b 1) j ∧ crs3 (b 0) (b 1) j ≤ 8192 := fun j hj => by
    have k := fun i j k l (hi : i < 2) (hj : j < 3) (hk : k < 2) (hl : l < 3) => abs_mul' (K := 4096) (cb i j hi hj) (cb k l hk hl) (by decide)
    have t0 := k 0 1 1 2 (by omega) (by omega) (by omega) (by omega)
    have t1 := k 0 2 1 1 (by omega) (by omega) (by omega) (by omega)
    have t2 := k 0 2 1 0 (by omega) (by omega) (by omega) (by omega)
    have t3 := k 0 0 1 2 (by omega) (by omega) (by omega) (by omega)
    have t4 := k 0 0 1 1 (by omega) (by omega) (by omega) (by omega)
    have t5 := k 0 1 1 0 (by omega) (by omega) (by omega) (by omega)
    rcases lt3 hj with rfl | rfl | rfl <;> simp only [crs3] <;> simp <;> omega
  have sb : ∀ k, k < 2 → -1572864 ≤ a k 0 * crs3 (b 0) (b 1) 0 + a k 1 * crs3 (b 0) (b 1) 1 + a k 2 * crs3 (b 0) (b 1) 2 ∧ a k 0 * crs3 (b 0) (b 1) 0 + a k 1 * crs3 (b 0) (b 1) 1 + a k 2 * crs3 (b 0) (b 1) 2 ≤ 1572864 := fun k hk => by
    have t0 := abs_mul' (K := 524288) (ca k 0 hk (by omega)) (cr 0 (by omega)) (by decide)
    have t1 := abs_mul' (K := 524288) (ca k 1 hk (by omega)) (cr 1 (by omega)) (by decide)
    have t2 := abs_mul' (K := 524288) (ca k 2 hk (by omega)) (cr 2 (by omega)) (by decide)
    omega
  have b0 := sb 0 (by omega)
  have b1 := sb 1 (by omega)
  have c0 : -1572864 ≤ c 0 ∧ c 0 ≤ 1572864 := le_mul_abs hx0 (by omega)
  have c1 : -1572864 ≤ c 1 ∧ c 1 ≤ 1572864 := le_mul_abs hx0 (by omega)
  refine fine_of (V := 201326592) (X := 100663296) (Y := 0) (by omega) hc (fun j hj => ?_) (fun _ j hj => abs_mul' (K := 100663296) c0 (ca 0 j (by omega) hj) (by decide)) (fun h => by omega) (by decide) (by decide) (by decide)
  have t0 := abs_mul' (K := 100663296) c0 (ca 0 j (by omega) hj) (by decide)
  have t1 := abs_mul' (K := 100663296) c1 (ca 1 j (by omega) hj) (by decide)
  have e := hc j hj
  simp only [lc, sumN] at e
  omega
theorem meet_fine {Ra Rb Rm : Nat} {a b m : Mt} {pa pb pm : Nat → Nat} (Ha : Her Ra 3 a pa) (Hb : Her Rb 3 b pb) (Hm : Her Rm 3 m pm) (Wa : Wd Ra a) (Wb : Wd Rb b)
    (ma : ∀ i, i < Rm → InL Ra 3 a (m i)) (mb : ∀ i, i < Rm → InL Rb 3 b (m i)) (hm : ∀ v, InL Ra 3 a v → InL Rb 3 b v → InL Rm 3 m v) {i : Nat} (hi : i < Rm) {c : Nat → Int} (hc : ∀ j, j < 3 → m i j = lc Ra a c j) : Fine Ra a c (m i) := by
  have hRa := Ha.wide3
  have hRb := Hb.wide3
  have ca := Wa.cells Ha
  rcases Wb with ⟨hb2, cb⟩ | ⟨rfl, E, h0, h1, hE⟩
  rotate_left
  · have hmE : ∀ i, i < Ra → InL Rm 3 m fun j => E * a i j := fun i hi => hm _ ((InL.row hi).mul E) (hE.all (a i))
    obtain ⟨rfl, hv⟩ := same_piv Ha Hm ma h0 hmE
    exact fine_same Ha hRa hc (Int.le_of_lt h0) (by decide) (fun k hk => hv i k hi hk) ca (by omega)
  · rcases Wa with ⟨ha2, ca2⟩ | ⟨rfl, E, h0, h1, hE⟩
    rotate_left
    · have hmE : ∀ i, i < Rb → InL Rm 3 m fun j => E * b i j := fun i hi => hm _ (hE.all (b i)) ((InL.row hi).mul E)
      obtain ⟨e, hv⟩ := same_piv Hb Hm mb h0 hmE
      obtain ⟨y, hy⟩ := mb i hi
      obtain ⟨y0, y1, y2⟩ := coord_le Hb hRb hy (Int.le_of_lt h0) (fun k hk => hv i k hi hk)
      refine fine_val (V := 147456) (H := 768) Ha hRa hc (by decide) (by decide) (fun j hj => ?_) ca (by decide)
      have := comb_le (A := E) (B := 2 * E) (C := 0) hRb cb y0 y1 (fun h => by omega) (by omega) (by omega) (by omega) hj
      rw [hy j hj]
      omega
    · by_cases hsp : ∀ i, i < Ra → InQ Rb 3 b (a i)
      · obtain ⟨E, h0, h1, hE⟩ := sat_E Hb hb2 cb
        have hmE : ∀ i, i < Ra → InL Rm 3 m fun j => E * a i j := fun i hi => hm _ ((InL.row hi).mul E) (hE _ (hsp i hi))
        obtain ⟨rfl, hv⟩ := same_piv Ha Hm ma h0 hmE
        exact fine_same (H := 64) Ha hRa hc (Int.le_of_lt h0) (by decide) (fun k hk => hv i k hi hk) ca2 (by omega)
      · by_cases hsp2 : ∀ i, i < Rb → InQ Ra 3 a (b i)
        · obtain ⟨E, h0, h1, hE⟩ := sat_E Ha ha2 ca2
          have hmE : ∀ i, i < Rb → InL Rm 3 m fun j => E * b i j := fun i hi => hm _ (hE _ (hsp2 i hi)) ((InL.row hi).mul E)
          obtain ⟨e, hv⟩ := same_piv Hb Hm mb h0 hmE
          obtain ⟨y, hy⟩ := mb i hi
          obtain ⟨y0, y1, y2⟩ := coord_le Hb hRb hy (Int.le_of_lt h0) (fun k hk => hv i k hi hk)
          refine fine_val (V := 786432) (H := 64) Ha hRa hc (by decide) (by decide) (fun j hj => ?_) ca2 (by decide)
          have := comb_le (A := E) (B := 2 * E) (C := 0) hRb cb y0 y1 (fun h => by omega) (by omega) (by omega) (by omega) hj
          rw [hy j hj]
          omega
        · -- a row of one that is a part of the other's space
          have part : ∀ {R R' : Nat} {l l' : Mt}, R ≤ 1 → InL R 3 l (m i) → InL R' 3 l' (m i) → ∀ k, k < R → InQ R' 3 l' (l k) := fun {R R' l l'} hR h h' k hk => by
            obtain rfl : R = 1 := by omega
            obtain rfl : k = 0 := by omega
            obtain ⟨x, hx⟩ := h
            simp only [lc, sumN] at hx
            refine ⟨x 0, fun e => ?_, h'.congr fun j hj => by rw [hx j hj]; omega⟩
            have := hx _ (Hm.lt i hi)
            have := Hm.pos i hi
            rw [e] at *
            omega
          have ra2 : Ra = 2 := Classical.byContradiction fun hn => hsp (part (by omega) (ma i hi) (mb i hi))
          have rb2 : Rb = 2 := Classical.byContradiction fun hn => hsp2 (part (by omega) (mb i hi) (ma i hi))
          subst ra2 rb2
          exact cross_fine Ha Hb Hm ca2 cb ma mb hm hsp hi hc
/-- the rows of two lattices -/
def stkF (Ra : Nat) (a b : Mt) : Mt := fun i => if i < Ra then a i else b (i - Ra)
theorem sum_fine {Ra Rb Rs : Nat} {a b s : Mt} {pa pb ps : Nat → Nat} (Ha : Her Ra 3 a pa) (Hb : Her Rb 3 b pb) (Hs : Her Rs 3 s ps) (Wa : Wd Ra a) (Wb : Wd Rb b)
    (sa : ∀ i, i < Ra → InL Rs 3 s (a i)) (sb : ∀ i, i < Rb → InL Rs 3 s (b i)) (hs : ∀ i, i < Rs → InL (Ra + Rb) 3 (stkF Ra a b) (s i)) {i : Nat} (hi : i < Ra) {c : Nat → Int} (hc : ∀ j, j < 3 → a i j = lc Rs s c j) : Fine Rs s c (a i) := by
  have hRs := Hs.wide3
  have ca := Wa.cells Ha
  by_cases h1 : Rs ≤ 1
  · exact fine_of (V := 768) (X := 0) (Y := 0) hRs hc (fun j hj => ca i j hi hj) (fun h => by omega) (fun h => by omega) (by decide) (by decide) (by decide)
  by_cases h3 : Rs = 3
  · subst h3
    have full : ∀ {R : Nat} {l : Mt} {p : Nat → Nat}, Her R 3 l p → (∀ i, i < R → InL 3 3 s (l i)) → (R = 3 ∧ ∃ E, 0 < E ∧ E ≤ 768 ∧ E3 3 l E) → Fine 3 s c (a i) := by
      rintro R l p H hl ⟨rfl, E, h0, h1, hE⟩
      have hEs : E3 3 s E := fun j hj => (hE j hj).trans hl
      have cs := cells3 Hs h0 hEs
      exact fine_val (V := 768) (H := 768) Hs hRs hc (by decide) (by decide) (fun j hj => ca i j hi hj) (fun i j hi hj => by have := cs i j hi hj; omega) (by decide)
    rcases Wa with ⟨ha2, ca2⟩ | wa
    · rcases Wb with ⟨hb2, cb2⟩ | wb
      · have hg : ∀ i, i < Ra + Rb → InL 3 3 s (stkF Ra a b i) := fun i hi => by
          unfold stkF
          split
          · exact sa i (by omega)
          · exact sb _ (by omega)
        have cg : ∀ i j, i < Ra + Rb → j < 3 → -64 ≤ stkF Ra a b i j ∧ stkF Ra a b i j ≤ 64 := fun i j hi hj => by
          unfold stkF
          split
          · exact ca2 i j (by omega) hj
          · exact cb2 _ j (by omega) hj
        obtain ⟨x, y, z, hx, hy, hz, hne⟩ := sel3 (hs 0 (by omega)) (hs 1 (by omega)) (hs 2 (by omega)) (her3_dt Hs)
        have hE := E3.of_dt (hg x hx) (hg y hy) (hg z hz)
        have kk : ∀ {u v w : Int}, (-64 ≤ u ∧ u ≤ 64) → (-64 ≤ v ∧ v ≤ 64) → (-64 ≤ w ∧ w ≤ 64) → -262144 ≤ u * (v * w) ∧ u * (v * w) ≤ 262144 := fun hu hv hw => abs_mul' hu (abs_mul' (K := 4096) hv hw (by decide)) (by decide)
        have hb : -1572864 ≤ dt3 (stkF Ra a b x) (stkF Ra a b y) (stkF Ra a b z) ∧ dt3 (stkF Ra a b x) (stkF Ra a b y) (stkF Ra a b z) ≤ 1572864 := by
          have t := fun j k l (hj : j < 3) (hk : k < 3) (hl : l < 3) => kk (cg x j hx hj) (cg y k hy hk) (cg z l hz hl)
          have t0 := t 0 1 2 (by omega) (by omega) (by omega)
          have t1 := t 0 2 1 (by omega) (by omega) (by omega)
          have t2 := t 1 2 0 (by omega) (by omega) (by omega)
          have t3 := t 1 0 2 (by omega) (by omega) (by omega)
          have t4 := t 2 0 1 (by omega) (by omega) (by omega)
          have t5 := t 2 1 0 (by omega) (by omega) (by omega)
          simp only [dt3, Int.mul_sub]
          omega
        generalize dt3 (stkF Ra a b x) (stkF Ra a b y) (stkF Ra a b z) = E at *
        have fin : ∀ E : Int, 0 < E → E ≤ 1572864 → E3 3 s E → Fine 3 s c (a i) := fun E h0 h1 hE => by
          have cs := cells3 Hs h0 hE
          exact fine_val (V := 64) (H := 1572864) Hs hRs hc (by decide) (by decide) (fun j hj => ca2 i j hi hj) (fun i j hi hj => by have := cs i j hi hj; omega) (by decide)
        rcases Int.lt_or_gt_of_ne hne with h | h
        · exact fin (-E) (by omega) (by omega) hE.neg
        · exact fin E h (by omega) hE
      · exact full Hb sb wb
    · exact full Ha sa wa
  · obtain rfl : Rs = 2 := by omega
    have no3 : ∀ {R : Nat} {l : Mt} {p : Nat → Nat}, Her R 3 l p → (∀ i, i < R → InL 2 3 s (l i)) → R ≠ 3 := by
      rintro R l p H hl rfl
      obtain ⟨e0, e1, e2⟩ := her3 H
      obtain ⟨i0, hi0, q0, _⟩ := Hs.pivot H hl (k := 0) (by omega)
      obtain ⟨i1, hi1, q1, _⟩ := Hs.pivot H hl (k := 1) (by omega)
      obtain ⟨i2, hi2, q2, _⟩ := Hs.pivot H hl (k := 2) (by omega)
      have t0 : i0 = 0 ∨ i0 = 1 := by omega
      have t1 : i1 = 0 ∨ i1 = 1 := by omega
      have t2 : i2 = 0 ∨ i2 = 1 := by omega
      rcases t0 with rfl | rfl <;> rcases t1 with rfl | rfl <;> rcases t2 with rfl | rfl <;> omega
    rcases Wa with ⟨ha2, ca2⟩ | ⟨h, _⟩
    rotate_left
    · exact absurd h (no3 Ha sa)
    rcases Wb with ⟨hb2, cb2⟩ | ⟨h, _⟩
    rotate_left
    · exact absurd h (no3 Hb sb)
    have hg : ∀ i, i < Ra + Rb → InL 2 3 s (stkF Ra a b i) := fun i hi => by
      unfold stkF
      split
      · exact sa i (by omega)
      · exact sb _ (by omega)
    have cg : ∀ i j, i < Ra + Rb → j < 3 → -64 ≤ stkF Ra a b i j ∧ stkF Ra a b i j ≤ 64 := fun i j hi hj => by
      unfold stkF
      split
      · exact ca2 i j (by omega) hj
      · exact cb2 _ j (by omega) hj
    obtain ⟨j, hj, hne⟩ := her2_crs Hs
    obtain ⟨x, y, hx, hy, hxy⟩ := sel2 (hs 0 (by omega)) (hs 1 (by omega)) hj hne
    have cs := cells2 Hs (hg x hx) (hg y hy) (N := 8192) ⟨j, hj, hxy⟩ fun j hj => by
      have k := fun j l (hj : j < 3) (hl : l < 3) => abs_mul' (K := 4096) (cg x j hx hj) (cg y l hy hl) (by decide)
      have t0 := k 1 2 (by omega) (by omega)
      have t1 := k 2 1 (by omega) (by omega)
      have t2 := k 2 0 (by omega) (by omega)
      have t3 := k 0 2 (by omega) (by omega)
      have t4 := k 0 1 (by omega) (by omega)
      have t5 := k 1 0 (by omega) (by omega)
      rcases lt3 hj with rfl | rfl | rfl <;> simp only [crs3] <;> simp <;> omega
    exact fine_val (V := 64) (H := 16384) Hs hRs hc (by decide) (by decide) (fun j hj => ca2 i j hi hj) (fun i j hi hj => by have := cs i j hi hj; omega) (by decide)
end Go.Proofs.Ythajmffhgbenpaa

/- Plain: coordinates are found where the numbers stay small. -/
namespace Go.Proofs.Ythajmffhgbenpaa
set_option linter.unusedSimpArgs false
set_option linter.unusedVariables false
open Go.RowKit

/-- three columns, the further ones 0 -/
def pd (C : Nat) (a : Mt) : Mt := fun i j => if j < C then a i j else 0
theorem pd_at {C : Nat} {a : Mt} {i j : Nat} (h : j < C) : pd C a i j = a i j := if_pos h
theorem pd_lc {R C : Nat} {a : Mt} {x : Nat → Int} {j : Nat} : lc R (pd C a) x j = if j < C then lc R a x j else 0 := by
  split
  · rename_i h
    exact lc_congr fun i _ => by rw [pd_at h]
  · rename_i h
    exact lc_zero fun i _ => .inr (if_neg h)
theorem Her.pd_ {R C : Nat} {a : Mt} {p : Nat → Nat} (h : Her R C a p) (hC : C ≤ 3) : Her R 3 (pd C a) p :=
  ⟨fun i hi => Nat.lt_of_lt_of_le (h.lt i hi) hC, h.up, fun i hi => by rw [pd_at (h.lt i hi)]; exact h.pos i hi,
    fun i j hi hj => by rw [pd_at (Nat.lt_trans hj (h.lt i hi))]; exact h.zero i j hi hj,
    fun k i hk hi => by rw [pd_at (h.lt i hi), pd_at (h.lt i hi)]; exact h.red k i hk hi⟩
theorem InL.pd_ {R C : Nat} {a b : Mt} {i : Nat} (h : InL R C a (b i)) : InL R 3 (pd C a) (pd C b i) := by
  obtain ⟨x, hx⟩ := h
  refine ⟨x, fun j _ => ?_⟩
  rw [pd_lc]
  show (if j < C then b i j else 0) = _
  split
  · rename_i h; exact hx j h
  · rfl
theorem InL.unpd {R C : Nat} {a : Mt} {v : Nat → Int} (hC : C ≤ 3) (h : InL R 3 (pd C a) v) : InL R C a v ∧ ∀ j, C ≤ j → j < 3 → v j = 0 := by
  obtain ⟨x, hx⟩ := h
  refine ⟨⟨x, fun j hj => ?_⟩, fun j h1 h2 => ?_⟩
  · rw [hx j (by omega), pd_lc, if_pos hj]
  · rw [hx j h2, pd_lc, if_neg (by omega)]
theorem crd_fine {R C : Nat} {l v : List Int} {c : Nat → Int} (h : latB R C l = true) (hv : v.length = C) (hn : allNum v = true) (hc : ∀ j, j < C → nth v j = lc R (mt C l) c j)
    (h1 : ∀ k j, k < R → j < C → -400000000 ≤ c k * mt C l k j ∧ c k * mt C l k j ≤ 400000000) (h2 : ∀ k j, k ≤ R → j < C → -400000000 ≤ nth v j - lc k (mt C l) c j ∧ nth v j - lc k (mt C l) c j ≤ 400000000) : ∃ x, crdO ⟨R, C, l⟩ v = some x := by
  obtain ⟨hlen, hH⟩ := latB_her h
  have hl : allNum l = true := by
    obtain ⟨hm, _⟩ := latB_parts h
    obtain ⟨_, _, _, _, _, _, _, hn⟩ := isMat_nat hm
    exact (allNum_iff l).2 hn
  have key : ∀ k, k ≤ R → ∃ s, crdF C l v k = some s ∧ s.1.length = C ∧ ∀ j, j < C → nth s.1 j = nth v j - lc k (mt C l) c j := by
    intro k
    induction k with
    | zero => exact fun _ => ⟨(v, []), rfl, hv, fun j _ => by show nth v j = nth v j - 0; omega⟩
    | succ k ih =>
      intro hk
      obtain ⟨s, e1, e2, e3⟩ := ih (by omega)
      have hpk := hH.lt k (by omega)
      have hpos : 0 < mt C l k (pv C l k) := hH.pos k (by omega)
      have eq : nth s.1 (pv C l k) = c k * mt C l k (pv C l k) := by
        rw [e3 _ hpk, hc _ hpk, lc_cut (T := k + 1) (by omega) fun i hi hiR => hH.zero i _ hiR (hH.up k i (by omega) hiR)]
        show lc k (mt C l) c (pv C l k) + c k * mt C l k (pv C l k) - lc k (mt C l) c (pv C l k) = _
        omega
      have hq : crdQ C l k s.1 = c k := by
        unfold crdQ
        rw [eq]
        exact Int.mul_tdiv_cancel _ (by omega)
      have hmod : (nth s.1 (pv C l k)).tmod (nth l (k * C + pv C l k)) = 0 := by
        rw [eq]
        exact Int.mul_tmod_left _ _
      have hck : isNum (-c k) = true := by
        have := le_mul_abs (K := mt C l k (pv C l k)) (x := c k) (N := 400000000) (by omega) (by rw [Int.mul_comm]; exact h1 k _ (by omega) hpk)
        exact (isNum_iff _).2 (by omega)
      have cell : ∀ j, j < C → nth (subRow C l k (crdQ C l k s.1) s.1) j = nth v j - lc (k + 1) (mt C l) c j := fun j hj => by
        have hn2 := nth_num hl (k * C + j)
        have hx := h2 k j (by omega) hj
        have hy := h2 (k + 1) j hk hj
        have hz := h1 k j (by omega) hj
        have el : lc (k + 1) (mt C l) c j = lc k (mt C l) c j + c k * mt C l k j := rfl
        have em : nth l (k * C + j) * -c k = -(c k * mt C l k j) := by
          show nth l (k * C + j) * -c k = -(c k * nth l (k * C + j))
          rw [Int.mul_neg, Int.mul_comm]
        rw [subRow_nth hj, e3 j hj, hq, mulB_num hn2 hck, em, fit_yes ((isNum_iff _).2 (by omega)), addB_num ((isNum_iff _).2 (by omega)) ((isNum_iff _).2 (by omega)), fit_yes ((isNum_iff _).2 (by omega)), el]
        omega
      have hall : allNum (subRow C l k (crdQ C l k s.1) s.1) = true := (allNum_iff _).2 fun j hj => by
        rw [subRow_length] at hj
        rw [cell j hj]
        have hy := h2 (k + 1) j hk hj
        exact (isNum_iff _).2 (by omega)
      refine ⟨(subRow C l k (crdQ C l k s.1) s.1, s.2 ++ [crdQ C l k s.1]), ?_, subRow_length _ _ _ _ _, cell⟩
      rw [crdF_next e1]
      unfold crdS
      rw [if_pos ⟨hmod, hall⟩]
  obtain ⟨s, e1, e2, e3⟩ := key R (Nat.le_refl _)
  rw [crdO_yes h hv hn, e1, Option.bind_some, if_pos]
  · exact ⟨_, rfl⟩
  · rw [zeroB_iff]
    intro j hj
    rw [e2] at hj
    rw [e3 j hj, hc j hj]
    omega
theorem crm_fine {R R' C : Nat} {l l' : List Int} (h : latB R C l = true) (h' : latB R' C l' = true) (hC : C ≤ 3)
    (hf : ∀ i, i < R' → ∃ c, (∀ j, j < 3 → pd C (mt C l') i j = lc R (pd C (mt C l)) c j) ∧ Fine R (pd C (mt C l)) c (pd C (mt C l') i)) : (crmO ⟨R, C, l⟩ ⟨R', C, l'⟩).isSome = true := by
  obtain ⟨hlen', _⟩ := latB_her h'
  have hl' : allNum l' = true := by
    obtain ⟨hm, _⟩ := latB_parts h'
    obtain ⟨_, _, _, _, _, _, _, hn⟩ := isMat_nat hm
    exact (allNum_iff l').2 hn
  have one : ∀ i, i < R' → ∃ x, crdO ⟨R, C, l⟩ (rowL C l' i) = some x := fun i hi => by
    obtain ⟨c, hc, f1, f2⟩ := hf i hi
    have hrl : (rowL C l' i).length = C := rowL_length (by rw [hlen']; exact Nat.mul_le_mul_right C hi)
    have hrn : allNum (rowL C l' i) = true := (allNum_iff _).2 fun j hj => by
      rw [hrl] at hj
      rw [rowL_nth hj]; exact nth_num hl' _
    have er : ∀ j, j < C → nth (rowL C l' i) j = mt C l' i j := fun j hj => rowL_nth hj
    refine crd_fine (c := c) h hrl hrn (fun j hj => ?_) (fun k j hk hj => ?_) fun k j hk hj => ?_
    · have := hc j (by omega)
      rw [pd_at hj, pd_lc, if_pos hj] at this
      rw [er j hj, this]
    · have := f1 k j hk (by omega)
      rw [pd_at hj] at this
      exact this
    · have := f2 k j hk (by omega)
      rw [pd_at hj, pd_lc, if_pos hj] at this
      rw [er j hj]; exact this
  have key : ∀ n, n ≤ R' → ∃ L, crmF ⟨R, C, l⟩ C l' n = some L := fun n => by
    induction n with
    | zero => exact fun _ => ⟨[], rfl⟩
    | succ n ih =>
      intro hn
      obtain ⟨L, hL⟩ := ih (by omega)
      obtain ⟨x, hx⟩ := one n (by omega)
      exact ⟨_, crmF_next hL hx⟩
  obtain ⟨L, hL⟩ := key R' (Nat.le_refl _)
  rw [crmO_yes (a := ⟨R, C, l⟩) (b := ⟨R', C, l'⟩) h h' rfl (by simpa using hL)]; rfl
end Go.Proofs.Ythajmffhgbenpaa

/- Plain: the sum of two lattices and what they have in common. -/
namespace Go.Proofs.Ythajmffhgbenpaa
set_option linter.unusedSimpArgs false
set_option linter.unusedVariables false
open Go.RowKit

theorem stk_cells {Ra C : Nat} {la lb : List Int} (hl : la.length = Ra * C) {i j : Nat} (hj : j < C) : mt C (la ++ lb) i j = stkF Ra (mt C la) (mt C lb) i j := by
  unfold stkF mt
  split
  · rename_i h
    exact nth_append_left _ _ _ (by rw [hl]; exact idx_lt h hj)
  · rename_i h
    have e : i * C + j = Ra * C + ((i - Ra) * C + j) := by
      have : i * C = Ra * C + (i - Ra) * C := by rw [← Nat.add_mul]; congr 1; omega
      omega
    rw [nth_append_right _ _ _ (by omega), e, hl, Nat.add_sub_cancel_left]
theorem stk_lc {Ra Rb C : Nat} {a b : Mt} {x : Nat → Int} {j : Nat} : lc (Ra + Rb) (stkF Ra a b) x j = lc Ra a x j + lc Rb b (fun i => x (Ra + i)) j := by
  unfold lc
  rw [sumN_split]
  congr 1
  · exact sumN_congr fun i hi => by unfold stkF; rw [if_pos hi]
  · exact sumN_congr fun i _ => by unfold stkF; rw [if_neg (by omega), Nat.add_sub_cancel_left]
theorem InL.neg_ {R C : Nat} {a : Mt} {x : Nat → Int} {v : Nat → Int} (h : ∀ j, j < C → v j = - Go.Proofs.Ythajmffhgbenpaa.lc R a x j) : InL R C a v :=
  ⟨fun i => (-1) * x i, fun j hj => by rw [h j hj, lc_mul]; omega⟩
/-- the sum s and the meet m of a and b -/
structure MeetF (Ra Rb C T M : Nat) (a b s m : Mt) : Prop where
  rk : T + M = Ra + Rb
  sum : ∀ v, InL T C s v ↔ InL (Ra + Rb) C (stkF Ra a b) v
  meet : ∀ v, InL M C m v ↔ InL Ra C a v ∧ InL Rb C b v
theorem meet_facts {Ra Rb C : Nat} {la lb : List Int} {s m : MX} (hs : sumO ⟨Ra, C, la⟩ ⟨Rb, C, lb⟩ = some s) (hm : meetO ⟨Ra, C, la⟩ ⟨Rb, C, lb⟩ = some m) :
    latB Ra C la = true ∧ latB Rb C lb = true ∧ ∃ (T M : Nat) (sl ml : List Int), s = ⟨T, C, sl⟩ ∧ m = ⟨M, C, ml⟩ ∧ latB T C sl = true ∧ latB M C ml = true ∧ MeetF Ra Rb C T M (mt C la) (mt C lb) (mt C sl) (mt C ml) := by
  unfold sumO at hs
  unfold meetO at hm
  split at hs
  rotate_left
  · cases hs
  rename_i hl
  rw [if_pos hl] at hm
  simp only [Bool.and_eq_true] at hl
  obtain ⟨ha, hb⟩ := hl
  obtain ⟨k0, hk0, hs⟩ := Option.bind_eq_some_iff.1 hs
  rw [hk0, Option.bind_some] at hm
  obtain ⟨k, hk, hm⟩ := Option.bind_eq_some_iff.1 hm
  have hok := stkO_ok hk0
  have e0 : k0 = ⟨((Ra + Rb : Nat) : Int), C, la ++ lb⟩ := by
    unfold stkO at hk0
    split at hk0
    · cases hk0; simp
    · cases hk0
  subst e0
  obtain ⟨hla, Ha⟩ := latB_her ha
  obtain ⟨hlb, Hb⟩ := latB_her hb
  have cells : ∀ i j, i < Ra + Rb → j < C → mt C (la ++ lb) i j = stkF Ra (mt C la) (mt C lb) i j := fun i j _ hj => stk_cells hla hj
  obtain ⟨T, hT, B⟩ := basO_D hok hs
  obtain ⟨T', a', u, p, _, hT', Ha', HD, hz, Bk, hker⟩ := kerO_D hok hk
  have eT : T = T' := B.her.rank Ha' (fun i hi => ((HD.same hT' hz _).1 ((B.same _).2 (InL.row hi))).q) fun i hi => ((B.same _).1 ((HD.same hT' hz _).2 (InL.row hi))).q
  subst eT
  obtain ⟨kr, kc, kl⟩ := k
  have ekr : kr = ((Ra + Rb - T : Nat) : Int) := Bk.r
  have ekc : kc = ((Ra + Rb : Nat) : Int) := Bk.c
  subst ekr ekc
  rw [meetK_nat] at hm
  obtain ⟨pm, hp, hm⟩ := Option.bind_eq_some_iff.1 hm
  obtain ⟨p1, p2, p3, p4⟩ := mulO_cells hp
  obtain ⟨pr, pc, pl⟩ := pm
  simp only at p1 p2 p3 p4
  subst p1 p2
  have pok := mulO_ok hp
  generalize hM : Ra + Rb - T = M at *
  have prow : ∀ i j, i < M → j < C → mt C pl i j = lc Ra (mt C la) (mt (Ra + Rb) kl i) j := fun i j hi hj => by
    show nth pl (i * C + j) = _
    rw [p4 i j hi hj]
    refine sumN_congr fun k hk => ?_
    have t : nth (fcL M (Ra + Rb) Ra kl) (i * Ra + k) = nth kl (i * (Ra + Rb) + k) := tab_nth (fun i j => nth kl (i * (Ra + Rb) + j)) hi hk
    rw [t]; rfl
  -- the rows of the kernel
  have krow : ∀ i, i < M → ∀ j, j < C → lc Ra (mt C la) (mt (Ra + Rb) kl i) j + lc Rb (mt C lb) (fun k => mt (Ra + Rb) kl i (Ra + k)) j = 0 := fun i hi j hj => by
    rw [← stk_lc (C := C)]
    have := (hker (mt (Ra + Rb) kl i)).2 (InL.row hi) j hj
    rw [← this]
    exact lc_congr fun k hk => by rw [cells k j hk hj]
  have ind : ∀ x : Nat → Int, (∀ j, j < C → lc M (mt C pl) x j = 0) → ∀ i, i < M → x i = 0 := fun x hx => by
    have h1 : ∀ j, j < C → lc Ra (mt C la) (fun k => lc M (mt (Ra + Rb) kl) x k) j = 0 := fun j hj => by
      rw [← lc_lc, ← hx j hj]
      exact lc_congr fun i hi => by rw [prow i j hi hj]
    have h2 := Ha.ind h1
    have h3 : ∀ j, j < C → lc Rb (mt C lb) (fun k => lc M (mt (Ra + Rb) kl) x (Ra + k)) j = 0 := fun j hj => by
      have e : lc M (fun i j => lc Rb (mt C lb) (fun k => mt (Ra + Rb) kl i (Ra + k)) j) x j = lc Rb (mt C lb) (fun k => lc M (mt (Ra + Rb) kl) x (Ra + k)) j := lc_lc M Rb (fun i k => mt (Ra + Rb) kl i (Ra + k)) (mt C lb) x j
      rw [← e]
      have e2 : lc M (fun i j => lc Rb (mt C lb) (fun k => mt (Ra + Rb) kl i (Ra + k)) j) x j = (-1) * lc M (mt C pl) x j := by
        rw [← lc_mul]
        refine sumN_congr fun i hi => ?_
        have := krow i hi j hj
        have e3 := prow i j hi hj
        show x i * lc Rb (mt C lb) (fun k => mt (Ra + Rb) kl i (Ra + k)) j = -1 * x i * mt C pl i j
        rw [show lc Rb (mt C lb) (fun k => mt (Ra + Rb) kl i (Ra + k)) j = - mt C pl i j by omega]
        rw [Int.mul_neg, Int.mul_assoc, Int.neg_mul, Int.one_mul]
      rw [e2, hx j hj]; rfl
    have h4 := Hb.ind h3
    refine Bk.her.ind fun k hk => ?_
    by_cases e : k < Ra
    · exact h2 k e
    · have := h4 (k - Ra) (by omega)
      rw [show Ra + (k - Ra) = k by omega] at this
      exact this
  have Bm := basO_full pok hm ind
  have pin : ∀ i, i < M → InL Ra C (mt C la) (mt C pl i) ∧ InL Rb C (mt C lb) (mt C pl i) := fun i hi =>
    ⟨⟨mt (Ra + Rb) kl i, fun j hj => prow i j hi hj⟩, InL.neg_ (x := fun k => mt (Ra + Rb) kl i (Ra + k)) fun j hj => by
      have := krow i hi j hj
      have := prow i j hi hj
      omega⟩
  obtain ⟨sr, sc, sl⟩ := s
  obtain ⟨mr, mc, ml⟩ := m
  have b1 := B.r; have b2 := B.c; have b3 := Bm.r; have b4 := Bm.c
  simp only at b1 b2 b3 b4
  subst b1 b2 b3 b4
  refine ⟨ha, hb, T, M, sl, ml, rfl, rfl, B.lat, Bm.lat, by omega, fun v => ?_, fun v => ?_⟩
  · rw [← B.same v]
    exact ⟨fun h => h.cells cells, fun h => h.cells fun i j hi hj => (cells i j hi hj).symm⟩
  · rw [← Bm.same v]
    constructor
    · intro h
      exact ⟨h.trans fun i hi => (pin i hi).1, h.trans fun i hi => (pin i hi).2⟩
    · rintro ⟨⟨x, hx⟩, y, hy⟩
      obtain ⟨z, hz⟩ : ∃ z : Nat → Int, z = fun i => if i < Ra then x i else - y (i - Ra) := ⟨_, rfl⟩
      have hzk : ∀ j, j < C → lc (Ra + Rb) (mt C (la ++ lb)) z j = 0 := fun j hj => by
        rw [lc_congr (b := stkF Ra (mt C la) (mt C lb)) (y := z) fun k hk => by rw [cells k j hk hj], stk_lc (C := C)]
        have e1 : lc Ra (mt C la) z j = lc Ra (mt C la) x j := lc_congr fun k hk => by rw [hz]; simp [hk]
        have e2 : lc Rb (mt C lb) (fun i => z (Ra + i)) j = lc Rb (mt C lb) (fun i => (-1) * y i) j := lc_congr fun k _ => by
          rw [hz]
          simp only
          rw [if_neg (by omega), Nat.add_sub_cancel_left]
          rw [Int.neg_mul, Int.neg_mul, Int.one_mul, Int.neg_mul]
        rw [e1, e2, lc_mul, ← hx j hj, ← hy j hj]; omega
      obtain ⟨t, ht⟩ := (hker z).1 hzk
      refine ⟨t, fun j hj => ?_⟩
      have e1 : lc M (mt C pl) t j = lc Ra (mt C la) (fun k => lc M (mt (Ra + Rb) kl) t k) j := by
        rw [← lc_lc]
        exact lc_congr fun i hi => by rw [prow i j hi hj]
      rw [e1, hx j hj]
      refine lc_congr fun k hk => ?_
      rw [← ht k (by omega), hz]
      simp [hk]
/-- the indices of a in the sum and of the meet in b -/
theorem meet_idx {Ra Rb C T M : Nat} {la lb sl ml : List Int} (F : MeetF Ra Rb C T M (mt C la) (mt C lb) (mt C sl) (mt C ml)) {x y : Int} (hx : idxO ⟨T, C, sl⟩ ⟨Ra, C, la⟩ = some x) (hy : idxO ⟨Rb, C, lb⟩ ⟨M, C, ml⟩ = some y) : x = y := by
  obtain ⟨e1, _, _, _, h, p, H, hh, ex⟩ := idxO_D hx
  obtain ⟨e2, _, _, _, h', p', H', hh', ey⟩ := idxO_D hy
  subst e1 e2
  rw [ex, ey]
  congr 1
  -- a vector of the sum as one of a and one of b
  have hsum : ∀ z : Nat → Int, ∃ w : Nat → Int, InL Ra C (mt C la) fun j => lc Ra (mt C sl) z j - lc M (mt C lb) w j := fun z => by
    obtain ⟨t, ht⟩ := (F.sum fun j => lc Ra (mt C sl) z j).1 ⟨z, fun j _ => rfl⟩
    refine ⟨fun i => t (Ra + i), t, fun j hj => ?_⟩
    have e := ht j hj
    rw [stk_lc (C := C)] at e
    show lc Ra (mt C sl) z j - lc M (mt C lb) (fun i => t (Ra + i)) j = lc Ra (mt C la) t j
    simp only at e
    omega
  have sub : ∀ (R : Nat) (a : Mt) (u v : Nat → Int) (j : Nat), lc R a (fun i => u i - v i) j = lc R a u j - lc R a v j := fun R a u v j => by
    have e1 : lc R a (fun i => u i - v i) j = lc R a (fun i => u i + (-1) * v i) j := lc_congr fun k _ => by rw [show u k - v k = u k + (-1) * v k by omega]
    rw [e1, lc_add R a u (fun i => (-1) * v i), lc_mul]; omega
  refine Nat.le_antisymm ?_ ?_
  · refine index_le H H' (fun z => Classical.choose (hsum z)) fun u v huv => ?_
    have h1 := Classical.choose_spec (hsum u)
    have h2 := Classical.choose_spec (hsum v)
    generalize Classical.choose (hsum u) = wu at *
    generalize Classical.choose (hsum v) = wv at *
    rw [hh' _] at huv
    rw [hh _]
    have h3 := ((F.meet _).1 huv).1
    refine ((h1.sub h2).add h3).congr fun j _ => ?_
    simp only [sub]
    omega
  · have hb : ∀ z : Nat → Int, ∃ w : Nat → Int, ∀ j, j < C → lc M (mt C lb) z j = lc Ra (mt C sl) w j := fun z => by
      refine (F.sum fun j => lc M (mt C lb) z j).2 ⟨fun i => if i < Ra then 0 else z (i - Ra), fun j hj => ?_⟩
      rw [stk_lc (C := C)]
      have e1 : lc Ra (mt C la) (fun i => if i < Ra then 0 else z (i - Ra)) j = 0 := lc_zero fun i hi => .inl (if_pos hi)
      have e2 : lc M (mt C lb) (fun i => if Ra + i < Ra then 0 else z (Ra + i - Ra)) j = lc M (mt C lb) z j := lc_congr fun i _ => by rw [if_neg (by omega), Nat.add_sub_cancel_left]
      rw [e1, e2]
      show lc M (mt C lb) z j = 0 + lc M (mt C lb) z j
      omega
    refine index_le H' H (fun z => Classical.choose (hb z)) fun u v huv => ?_
    have h1 := Classical.choose_spec (hb u)
    have h2 := Classical.choose_spec (hb v)
    generalize Classical.choose (hb u) = wu at *
    generalize Classical.choose (hb v) = wv at *
    rw [hh _] at huv
    rw [hh' _]
    refine (F.meet _).2 ⟨huv.congr fun j hj => ?_, ⟨_, fun j _ => rfl⟩⟩
    simp only [sub]
    rw [h1 j hj, h2 j hj]
/-- what is known of a drawn lattice -/
def Gd (m : MX) : Prop := latB m.r m.c m.l = true → tameB m.l = true → ∃ R C : Nat, m.r = R ∧ m.c = C ∧ C ≤ 3 ∧ Wd R (pd C (mt C m.l))
theorem meet_law {a b s m : MX} (hs : sumO a b = some s) (hm : meetO a b = some m) (Ga : Gd a) (Gb : Gd b) (ta : tameB a.l = true) (tb : tameB b.l = true) :
    (crmO s a).isSome = true ∧ (crmO a m).isSome = true ∧ (crmO b m).isSome = true ∧ m.r + s.r = a.r + b.r ∧ ∀ x y, idxO s a = some x → idxO b m = some y → x = y := by
  have hlat : latB a.r a.c a.l = true ∧ latB b.r b.c b.l = true ∧ a.c = b.c := by
    unfold sumO at hs
    split at hs
    · rename_i h
      rw [Bool.and_eq_true] at h
      obtain ⟨k, hk, _⟩ := Option.bind_eq_some_iff.1 hs
      unfold stkO at hk
      split at hk
      · rename_i h2
        simp only [Bool.and_eq_true, decide_eq_true_eq] at h2
        exact ⟨h.1, h.2, h2.1.2⟩
      · cases hk
    · cases hs
  obtain ⟨Ra, C, e1, e2, hC, Wa⟩ := Ga hlat.1 ta
  obtain ⟨Rb, C', e3, e4, _, Wb⟩ := Gb hlat.2.1 tb
  have hcc := hlat.2.2
  obtain ⟨ar, ac, la⟩ := a
  obtain ⟨br, bc, lb⟩ := b
  simp only at e1 e2 e3 e4 hcc Wa Wb
  subst e1 e2 e3 e4
  obtain rfl : C' = C := by omega
  obtain ⟨ha, hb, T, M, sl, ml, rfl, rfl, hsl, hml, F⟩ := meet_facts hs hm
  obtain ⟨hla, Ha⟩ := latB_her ha
  obtain ⟨hlb, Hb⟩ := latB_her hb
  obtain ⟨_, Hs⟩ := latB_her hsl
  obtain ⟨_, Hm⟩ := latB_her hml
  have sa : ∀ i, i < Ra → InL T C' (mt C' sl) (mt C' la i) := fun i hi => (F.sum _).2 ⟨fun k => if k = i then 1 else 0, fun j hj => by
    rw [lc_row _ (show i < Ra + Rb by omega)]
    unfold stkF; rw [if_pos hi]⟩
  have sb : ∀ i, i < Rb → InL T C' (mt C' sl) (mt C' lb i) := fun i hi => (F.sum _).2 ⟨fun k => if k = Ra + i then 1 else 0, fun j hj => by
    rw [lc_row _ (show Ra + i < Ra + Rb by omega)]
    unfold stkF; rw [if_neg (by omega), Nat.add_sub_cancel_left]⟩
  have mm := fun i (hi : i < M) => (F.meet _).1 (InL.row (a := mt C' ml) hi)
  have both : ∀ v, InL Ra 3 (pd C' (mt C' la)) v → InL Rb 3 (pd C' (mt C' lb)) v → InL M 3 (pd C' (mt C' ml)) v := fun v h1 h2 => by
    obtain ⟨k1, k2⟩ := h1.unpd hC
    obtain ⟨k3, _⟩ := h2.unpd hC
    obtain ⟨x, hx⟩ := (F.meet v).2 ⟨k1, k3⟩
    refine ⟨x, fun j hj => ?_⟩
    rw [pd_lc]
    split
    · rename_i h; exact hx j h
    · rename_i h; exact k2 j (by omega) hj
  refine ⟨crm_fine hsl ha hC fun i hi => ?_, crm_fine ha hml hC fun i hi => ?_, crm_fine hb hml hC fun i hi => ?_, ?_, fun x y hx hy => meet_idx F hx hy⟩
  · obtain ⟨c, hc⟩ := (sa i hi).pd_
    refine ⟨c, hc, sum_fine (Ha.pd_ hC) (Hb.pd_ hC) (Hs.pd_ hC) Wa Wb (fun i hi => (sa i hi).pd_) (fun i hi => (sb i hi).pd_) (fun i hi => ?_) hi hc⟩
    have h1 := ((F.sum _).1 (InL.row (a := mt C' sl) hi)).pd_
    refine h1.cells fun k j _ _ => ?_
    by_cases e : k < Ra <;> by_cases e2 : j < C' <;> simp [stkF, pd, e, e2]
  · obtain ⟨c, hc⟩ := (mm i hi).1.pd_
    exact ⟨c, hc, meet_fine (Ha.pd_ hC) (Hb.pd_ hC) (Hm.pd_ hC) Wa Wb (fun i hi => (mm i hi).1.pd_) (fun i hi => (mm i hi).2.pd_) both hi hc⟩
  · obtain ⟨c, hc⟩ := (mm i hi).2.pd_
    exact ⟨c, hc, meet_fine (Hb.pd_ hC) (Ha.pd_ hC) (Hm.pd_ hC) Wb Wa (fun i hi => (mm i hi).2.pd_) (fun i hi => (mm i hi).1.pd_) (fun v h1 h2 => both v h2 h1) hi hc⟩
  · have := F.rk
    simp only
    omega
end Go.Proofs.Ythajmffhgbenpaa

/- Plain: how large a drawn lattice can be. -/
namespace Go.Proofs.Ythajmffhgbenpaa
set_option linter.unusedSimpArgs false
set_option linter.unusedVariables false
open Go.RowKit

/-- a cell that spoils -/
def okO (x : Int) : Prop := (-1 ≤ x ∧ x ≤ 2) ∨ 1000 < x ∨ x < -1000
/-- a matrix seldom spoiled -/
def Spo (r : Int) (l : List Int) (r' : Int) (l' : List Int) : Prop := l' = l ∨ (r' = r ∧ ((∃ z, okO z ∧ l' = l.set 0 z) ∨ l' = l ++ [1]))
theorem nz_some {R : Nat} {g : Mt} {u : Nat → Int} (hu : InL R 3 g u) {j : Nat} (hj : j < 3) (h : u j ≠ 0) : ∃ i, i < R ∧ g i j ≠ 0 := by
  rcases lt3 hj with rfl | rfl | rfl
  · obtain ⟨i, hi, e⟩ := hu.some (A := 1) (B := 0) (C := 0) (by omega)
    exact ⟨i, hi, by omega⟩
  · obtain ⟨i, hi, e⟩ := hu.some (A := 0) (B := 1) (C := 0) (by omega)
    exact ⟨i, hi, by omega⟩
  · obtain ⟨i, hi, e⟩ := hu.some (A := 0) (B := 0) (C := 1) (by omega)
    exact ⟨i, hi, by omega⟩
/-- a lattice of rows of small cells -/
theorem small_lat {R T : Nat} {g l : Mt} {p : Nat → Nat} (H : Her T 3 l p) (hg : ∀ i j, i < R → j < 3 → -4 ≤ g i j ∧ g i j ≤ 4) (h1 : ∀ i, i < R → InL T 3 l (g i)) (h2 : ∀ i, i < T → InL R 3 g (l i)) :
    (T ≤ 2 ∧ ∀ i j, i < T → j < 3 → -64 ≤ l i j ∧ l i j ≤ 64) ∨ (T = 3 ∧ ∃ E, 0 < E ∧ E ≤ 384 ∧ E3 3 l E) := by
  have hT := H.wide3
  have hT' : T = 0 ∨ T = 1 ∨ T = 2 ∨ T = 3 := by omega
  rcases hT' with rfl | rfl | rfl | rfl
  · exact .inl ⟨by omega, fun i j hi => by omega⟩
  · refine .inl ⟨by omega, fun i j hi hj => ?_⟩
    obtain rfl : i = 0 := by omega
    have hp := H.pos 0 (by omega)
    obtain ⟨k, hk, hne⟩ := nz_some (h2 0 (by omega)) (H.lt 0 (by omega)) (by omega)
    have := cells1 (h1 k hk) (H.lt 0 (by omega)) hne (N := 4) (fun j hj => hg k j hk hj) j hj
    omega
  · obtain ⟨j, hj, hne⟩ := her2_crs H
    obtain ⟨x, y, hx, hy, hxy⟩ := sel2 (h2 0 (by omega)) (h2 1 (by omega)) hj hne
    refine .inl ⟨by omega, cells2 H (h1 x hx) (h1 y hy) (N := 32) ⟨j, hj, hxy⟩ fun j hj => ?_⟩
    have k := fun j l (hj : j < 3) (hl : l < 3) => abs_mul' (K := 16) (hg x j hx hj) (hg y l hy hl) (by decide)
    have t0 := k 1 2 (by omega) (by omega)
    have t1 := k 2 1 (by omega) (by omega)
    have t2 := k 2 0 (by omega) (by omega)
    have t3 := k 0 2 (by omega) (by omega)
    have t4 := k 0 1 (by omega) (by omega)
    have t5 := k 1 0 (by omega) (by omega)
    rcases lt3 hj with rfl | rfl | rfl <;> simp only [crs3] <;> simp <;> omega
  · obtain ⟨x, y, z, hx, hy, hz, hne⟩ := sel3 (h2 0 (by omega)) (h2 1 (by omega)) (h2 2 (by omega)) (her3_dt H)
    have hE := E3.of_dt (h1 x hx) (h1 y hy) (h1 z hz)
    have kk : ∀ {u v w : Int}, (-4 ≤ u ∧ u ≤ 4) → (-4 ≤ v ∧ v ≤ 4) → (-4 ≤ w ∧ w ≤ 4) → -64 ≤ u * (v * w) ∧ u * (v * w) ≤ 64 := fun hu hv hw => abs_mul' hu (abs_mul' (K := 16) hv hw (by decide)) (by decide)
    have hb : -384 ≤ dt3 (g x) (g y) (g z) ∧ dt3 (g x) (g y) (g z) ≤ 384 := by
      have t := fun j k l (hj : j < 3) (hk : k < 3) (hl : l < 3) => kk (hg x j hx hj) (hg y k hy hk) (hg z l hz hl)
      have t0 := t 0 1 2 (by omega) (by omega) (by omega)
      have t1 := t 0 2 1 (by omega) (by omega) (by omega)
      have t2 := t 1 2 0 (by omega) (by omega) (by omega)
      have t3 := t 1 0 2 (by omega) (by omega) (by omega)
      have t4 := t 2 0 1 (by omega) (by omega) (by omega)
      have t5 := t 2 1 0 (by omega) (by omega) (by omega)
      simp only [dt3, Int.mul_sub]
      omega
    generalize dt3 (g x) (g y) (g z) = E at *
    refine .inr ⟨rfl, ?_⟩
    rcases Int.lt_or_gt_of_ne hne with h | h
    · exact ⟨-E, by omega, by omega, hE.neg⟩
    · exact ⟨E, h, by omega, hE⟩
/-- the first cell spoiled -/
theorem E3.spoil {l l' : Mt} {p p' : Nat → Nat} (H : Her 3 3 l p) (H' : Her 3 3 l' p') {E : Int} (hE : E3 3 l E) (hz : -1 ≤ l' 0 0 ∧ l' 0 0 ≤ 2) (hs : ∀ i j, i < 3 → j < 3 → (i ≠ 0 ∨ j ≠ 0) → l' i j = l i j) : E3 3 l' (2 * E) := by
  obtain ⟨e0, e1, e2⟩ := her3 H
  obtain ⟨f0, f1, f2⟩ := her3 H'
  have q0 := H.pos 0 (by omega)
  have q0' := H'.pos 0 (by omega)
  rw [e0] at q0
  rw [f0] at q0'
  have z1 := H.zero 1 0 (by omega) (by omega)
  have z2 := H.zero 2 0 (by omega) (by omega)
  have low : ∀ j, j < 3 → 0 < j → InL 3 3 l' fun k => if k = j then E else 0 := fun j hj h0 => by
    obtain ⟨x, hx⟩ := hE j hj
    have hx0 : x 0 = 0 := by
      have : (if 0 = j then E else 0) = lc 3 l x 0 := hx 0 (by omega)
      rw [if_neg (by omega)] at this
      simp only [lc, sumN] at this
      rw [z1, z2] at this
      rcases Int.mul_eq_zero.1 (show x 0 * l 0 0 = 0 by omega) with e | e
      · exact e
      · omega
    refine ⟨x, fun k hk => ?_⟩
    rw [hx k hk]
    simp only [lc, sumN]
    rw [hx0, hs 1 k (by omega) hk (.inl (by omega)), hs 2 k (by omega) hk (.inl (by omega)), Int.zero_mul, Int.zero_mul]
  intro j hj
  by_cases h0 : 0 < j
  · exact ((low j hj h0).mul 2).congr fun k hk => by
      show (if k = j then 2 * E else 0) = 2 * (if k = j then E else 0)
      split <;> omega
  · obtain rfl : j = 0 := by omega
    obtain ⟨q, hq⟩ : ∃ q, q * l' 0 0 = 2 := by
      obtain h | h : l' 0 0 = 1 ∨ l' 0 0 = 2 := by omega
      · exact ⟨2, by rw [h]; rfl⟩
      · exact ⟨1, by rw [h]; rfl⟩
    have b1 := low 1 (by omega) (by omega)
    have b2 := low 2 (by omega) (by omega)
    have b0 : InL 3 3 l' (l' 0) := InL.row (by omega)
    refine ((b0.mul (q * E)).add ((b1.mul (-(q * l' 0 1))).add (b2.mul (-(q * l' 0 2))))).congr fun k hk => ?_
    rcases lt3 hk with rfl | rfl | rfl
    · simp
      have : q * E * l' 0 0 = E * (q * l' 0 0) := by ac_rfl
      rw [this, hq, Int.mul_comm]
    · simp; grind
    · simp; grind
theorem gd_draw {R N : Nat} {g : List Int} (hN : N ≤ 3) (hg : ∀ i, i < g.length → -4 ≤ nth g i ∧ nth g i ≤ 4) (hlen : g.length = R * N) {r' : Int} {l' : List Int} (hs : Spo (oM (basO ⟨R, N, g⟩)).r (oM (basO ⟨R, N, g⟩)).l r' l') : Gd ⟨r', (oM (basO ⟨R, N, g⟩)).c, l'⟩ := by
  intro hlat htame
  simp only at hlat htame
  have hr : ∀ {c : Int}, latB r' c l' = true → ∃ R' C' : Nat, r' = R' ∧ c = C' ∧ l'.length = R' * C' ∧ R' ≤ C' := fun h => by
    obtain ⟨R', C', e1, e2, _, _, h5, _⟩ := isMat_nat (latB_parts h).1
    subst e1 e2
    obtain ⟨_, H⟩ := latB_her h
    refine ⟨R', C', rfl, rfl, h5, ?_⟩
    -- not more rows than columns
    refine Classical.byContradiction fun hn => ?_
    have key : ∀ i, i < R' → i ≤ pv C' l' i := fun i => by
      induction i with
      | zero => intro _; omega
      | succ i ih =>
        intro hi
        have h1 := ih (by omega)
        have h2 := H.up i (i + 1) (by omega) hi
        omega
    have h1 := key C' (by omega)
    have h2 := H.lt C' (by omega)
    omega
  obtain ⟨R', C', e1, e2, hl', hRC⟩ := hr hlat
  cases hbo : basO ⟨R, N, g⟩ with
  | none =>
    rw [hbo] at e2
    have e2 : (0 : Int) = C' := e2
    exact ⟨R', C', e1, e2, by omega, .inl ⟨by omega, fun i j hi => by omega⟩⟩
  | some m =>
    have hmat : isMat R N g = true := by
      obtain ⟨R1, C1, l1, e, hm⟩ := basO_mat hbo
      have a1 := congrArg MX.r e
      have a2 := congrArg MX.c e
      have a3 := congrArg MX.l e
      simp only at a1 a2 a3
      rw [a1, a2, a3]; exact hm
    obtain ⟨T, hT, B⟩ := basO_D hmat hbo
    rw [hbo] at hs e2 hlat
    simp only [oM, Option.getD_some] at hs e2 hlat ⊢
    obtain ⟨mr, mc, l⟩ := m
    have b1 := B.r
    have b2 := B.c
    have hl := B.len
    have H := B.her
    have same := B.same
    simp only at b1 b2 hl H same hs e2 hlat ⊢
    subst b1 b2
    obtain rfl : N = C' := by omega
    have hTN : T ≤ N := by
      refine Classical.byContradiction fun hn => ?_
      have key : ∀ i, i < T → i ≤ pv N l i := fun i => by
        induction i with
        | zero => intro _; omega
        | succ i ih =>
          intro hi
          have h1 := ih (by omega)
          have h2 := H.up i (i + 1) (by omega) hi
          omega
      have h1 := key N (by omega)
      have h2 := H.lt N (by omega)
      omega
    have W := small_lat (R := R) (g := pd N (mt N g)) (H.pd_ hN) (fun i j hi hj => by
        unfold pd
        split
        · rename_i h
          exact hg _ (by rw [hlen]; exact idx_lt hi h)
        · omega) (fun i hi => ((same _).1 (InL.row hi)).pd_) (fun i hi => ((same _).2 (InL.row hi)).pd_)
    have rows : l'.length = l.length → R' = T := fun e => by
      rw [hl', hl] at e
      rcases Nat.eq_zero_or_pos N with h | h
      · omega
      · exact Nat.eq_of_mul_eq_mul_right h e
    subst e1
    refine ⟨R', N, rfl, rfl, hN, ?_⟩
    rcases hs with rfl | ⟨hr', ⟨z, hz, rfl⟩ | rfl⟩
    · obtain rfl := rows rfl
      rcases W with W | ⟨h1, E, h2, h3, h4⟩
      · exact .inl W
      · exact .inr ⟨h1, E, h2, by omega, h4⟩
    · obtain rfl := rows (List.length_set)
      obtain ⟨_, H'⟩ := latB_her hlat
      have cell : ∀ k, k ≠ 0 → nth (l.set 0 z) k = nth l k := fun k hk => by
        unfold nth
        simp only [List.getD_eq_getElem?_getD]
        rw [List.getElem?_set_ne (by omega)]
      have cell0 : 0 < l.length → nth (l.set 0 z) 0 = z := fun h => by
        cases l with
        | nil => cases h
        | cons a l => rfl
      have hz2 : 0 < l.length → -1 ≤ z ∧ z ≤ 2 := fun h => by
        have h1 := (tameB_iff _).1 htame 0 (by rw [List.length_set]; exact h)
        rw [cell0 h] at h1
        obtain ⟨t1, t2⟩ := h1
        clear cell0 cell same W hl' hl hlen
        rcases hz with h | h | h
        · exact h
        · omega
        · omega
      rcases W with ⟨W1, W2⟩ | ⟨rfl, E, h2, h3, h4⟩
      · refine .inl ⟨W1, fun i j hi hj => ?_⟩
        have w := W2 i j hi hj
        unfold pd at w ⊢
        split
        · rename_i h
          rw [if_pos h] at w
          show -64 ≤ nth (l.set 0 z) (i * N + j) ∧ nth (l.set 0 z) (i * N + j) ≤ 64
          by_cases e : i * N + j = 0
          · have hpos : 0 < l.length := by rw [hl]; exact Nat.lt_of_le_of_lt (Nat.zero_le _) (idx_lt hi h)
            rw [e, cell0 hpos]
            have := hz2 hpos
            omega
          · rw [cell _ e]; exact w
        · omega
      · obtain rfl : N = 3 := by omega
        refine .inr ⟨rfl, 2 * E, by omega, by omega, ?_⟩
        have hpos : 0 < l.length := by rw [hl]; decide
        refine E3.spoil (H.pd_ hN) (H'.pd_ hN) h4 ?_ fun i j hi hj hne => ?_
        · show -1 ≤ nth (l.set 0 z) (0 * 3 + 0) ∧ nth (l.set 0 z) (0 * 3 + 0) ≤ 2
          rw [show 0 * 3 + 0 = 0 from rfl, cell0 hpos]
          exact hz2 hpos
        · rw [pd_at hj, pd_at hj]
          exact cell _ (by omega)
    · exfalso
      have e : (T : Int) = R' := by omega
      obtain rfl : T = R' := by omega
      rw [List.length_append, hl] at hl'
      simp at hl'
end Go.Proofs.Ythajmffhgbenpaa
