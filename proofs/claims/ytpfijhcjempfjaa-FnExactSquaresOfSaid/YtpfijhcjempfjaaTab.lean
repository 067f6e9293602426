/- Tables of numbers row by row; no program in sight but for its name. -/
import Derived.Test.YtpfijhcjempfjaaMem
namespace Go.Proofs.Ytpfijhcjempfjaa

/-- The cells of a matrix of R rows and C columns, f i j in row i and column j. -/
def tab (R C : Nat) (f : Nat → Nat → Int) : List Int := (List.range (R * C)).map fun k => f (k / C) (k % C)
theorem tab_length (R C : Nat) (f : Nat → Nat → Int) : (tab R C f).length = R * C := by simp [tab]
theorem idx_lt {R C i j : Nat} (hi : i < R) (hj : j < C) : i * C + j < R * C := by
  have : (i + 1) * C ≤ R * C := Nat.mul_le_mul_right C hi
  rw [Nat.add_mul, Nat.one_mul] at this
  omega
theorem idx_div {C i j : Nat} (hj : j < C) : (i * C + j) / C = i := by
  rw [Nat.add_comm, Nat.add_mul_div_right _ _ (by omega), Nat.div_eq_of_lt hj, Nat.zero_add]
theorem idx_mod {C i j : Nat} (hj : j < C) : (i * C + j) % C = j := by
  rw [Nat.add_comm, Nat.add_mul_mod_self_right, Nat.mod_eq_of_lt hj]
theorem idx_split {R C k : Nat} (h : k < R * C) : k / C < R ∧ k % C < C ∧ k = k / C * C + k % C := by
  have hC : 0 < C := by
    rcases Nat.eq_zero_or_pos C with e | e
    · rw [e, Nat.mul_zero] at h; omega
    · exact e
  refine ⟨?_, Nat.mod_lt _ hC, ?_⟩
  · exact (Nat.div_lt_iff_lt_mul hC).2 h
  · have := Nat.div_add_mod k C
    rw [Nat.mul_comm] at this
    omega
theorem idx_inj {C i j i' j' : Nat} (hj : j < C) (hj' : j' < C) (h : i * C + j = i' * C + j') : i = i' ∧ j = j' := by
  have h1 := congrArg (· / C) h
  have h2 := congrArg (· % C) h
  simp only [idx_div hj, idx_div hj', idx_mod hj, idx_mod hj'] at h1 h2
  exact ⟨h1, h2⟩
theorem tab_nth {R C i j : Nat} (f : Nat → Nat → Int) (hi : i < R) (hj : j < C) : nth (tab R C f) (i * C + j) = f i j := by
  have hlt := idx_lt hi hj
  rw [nth_get _ _ (by rw [tab_length]; exact hlt)]
  simp only [tab, List.getElem_map, List.getElem_range, idx_div hj, idx_mod hj]
theorem tab_ext {R C : Nat} {f : Nat → Nat → Int} {m : List Int} (hm : m.length = R * C) (h : ∀ i j, i < R → j < C → nth m (i * C + j) = f i j) : m = tab R C f := by
  refine nth_ext (by rw [hm, tab_length]) fun k hk => ?_
  obtain ⟨h1, h2, h3⟩ := idx_split (R := R) (C := C) (k := k) (by omega)
  rw [h3, h _ _ h1 h2, tab_nth f h1 h2]
theorem tab_congr {R C : Nat} {f g : Nat → Nat → Int} (h : ∀ i j, i < R → j < C → f i j = g i j) : tab R C f = tab R C g :=
  tab_ext (tab_length R C f) fun i j hi hj => by rw [tab_nth f hi hj, h i j hi hj]
/-- The cells set so far: all of the rows before I, and of row I those before J. -/
def Upto (C : Nat) (f : Nat → Nat → Int) (I J : Nat) (m : List Int) : Prop := ∀ i j, (i < I ∧ j < C ∨ i = I ∧ j < J) → nth m (i * C + j) = f i j
theorem Upto.zero (C : Nat) (f : Nat → Nat → Int) (m : List Int) : Upto C f 0 0 m := fun i j h => by omega
theorem Upto.row {C : Nat} {f : Nat → Nat → Int} {I : Nat} {m : List Int} (h : Upto C f I C m) : Upto C f (I + 1) 0 m := fun i j hij => h i j (by omega)
theorem Upto.set {R C : Nat} {f : Nat → Nat → Int} {I J : Nat} {m : List Int} (h : Upto C f I J m) (hm : m.length = R * C) (hI : I < R) (hJ : J < C) : Upto C f I (J + 1) (m.set (I * C + J) (f I J)) := by
  intro i j hij
  have hlt := idx_lt hI hJ
  rw [nth_set _ _ _ _ (by omega)]
  by_cases e : i * C + j = I * C + J
  · obtain ⟨rfl, rfl⟩ := idx_inj (by omega) hJ e
    rw [if_pos rfl]
  · rw [if_neg e]
    exact h i j (by
      have : ¬ (i = I ∧ j = J) := fun q => e (by rw [q.1, q.2])
      omega)
theorem Upto.all {R C : Nat} {f : Nat → Nat → Int} {m : List Int} (h : Upto C f R 0 m) (hm : m.length = R * C) : m = tab R C f := tab_ext hm fun i j hi hj => h i j (.inl ⟨hi, hj⟩)
/-- The same, by columns: all of the columns before J, and of column J those of the rows before I. -/
def UptoC (R C : Nat) (f : Nat → Nat → Int) (J I : Nat) (m : List Int) : Prop := ∀ i j, (j < J ∧ i < R ∨ j = J ∧ i < I) → nth m (i * C + j) = f i j
theorem UptoC.zero (R C : Nat) (f : Nat → Nat → Int) (m : List Int) : UptoC R C f 0 0 m := fun i j h => by omega
theorem UptoC.col {R C : Nat} {f : Nat → Nat → Int} {J : Nat} {m : List Int} (h : UptoC R C f J R m) : UptoC R C f (J + 1) 0 m := fun i j hij => h i j (by omega)
theorem UptoC.set {R C : Nat} {f : Nat → Nat → Int} {I J : Nat} {m : List Int} (h : UptoC R C f J I m) (hm : m.length = R * C) (hI : I < R) (hJ : J < C) : UptoC R C f J (I + 1) (m.set (I * C + J) (f I J)) := by
  intro i j hij
  have hlt := idx_lt hI hJ
  rw [nth_set _ _ _ _ (by omega)]
  by_cases e : i * C + j = I * C + J
  · obtain ⟨rfl, rfl⟩ := idx_inj (by omega) hJ e
    rw [if_pos rfl]
  · rw [if_neg e]
    exact h i j (by
      have : ¬ (i = I ∧ j = J) := fun q => e (by rw [q.1, q.2])
      omega)
theorem UptoC.all {R C : Nat} {f : Nat → Nat → Int} {m : List Int} (h : UptoC R C f C 0 m) (hm : m.length = R * C) : m = tab R C f := tab_ext hm fun i j hi hj => h i j (.inl ⟨hj, hi⟩)

theorem castIdx (i c j : Nat) : (((i : Int) * (c : Int) + (j : Int)).toNat : Nat) = i * c + j := by
  rw [← Int.natCast_mul, ← Int.natCast_add, Int.toNat_natCast]
theorem castLt {i c j n : Nat} (h : i * c + j < n) : (i : Int) * (c : Int) + (j : Int) < (n : Int) := by
  rw [← Int.natCast_mul]; omega
theorem castPos (i c j : Nat) : 0 ≤ (i : Int) * (c : Int) + (j : Int) := by
  rw [← Int.natCast_mul]; omega
theorem castMul (i c : Nat) : 0 ≤ (i : Int) * (c : Int) := by
  rw [← Int.natCast_mul]; omega
theorem castMulLe {i c : Nat} {n : Nat} (h : i * c ≤ n) : (i : Int) * (c : Int) ≤ (n : Int) := by
  rw [← Int.natCast_mul]; omega
end Go.Proofs.Ytpfijhcjempfjaa
