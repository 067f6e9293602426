/- Contracts and lemmas, put together. -/
import Derived.Test.YtfilbjbogggaoaaGreatPkB
import Derived.Test.YtfilbjbogggaoaaGreatPkD
import Derived.Test.YtfilbjbogggaoaaGreatPkE
import Derived.Test.YtfilbjbogggaoaaGreatPkF
import Derived.Test.YtfilbjbogggaoaaGreatPkG
/- Plain: the coordinates of a vector in a lattice, row by row. -/
namespace Go.Proofs.YtfilbjbogggaoaaGreat
set_option linter.unusedSimpArgs false
set_option linter.unusedVariables false
open Go.RowKit

/-- a row times q taken away; the mark where a number is beyond the limit -/
def subRow (C : Nat) (l : List Int) (I : Nat) (q : Int) (x : List Int) : List Int := (List.range C).map fun j => addB (nth x j) (mulB (nth l (I * C + j)) (-q))
theorem subRow_length (C : Nat) (l : List Int) (I : Nat) (q : Int) (x : List Int) : (subRow C l I q x).length = C := by simp [subRow]
theorem subRow_nth {C : Nat} {l : List Int} {I : Nat} {q : Int} {x : List Int} {j : Nat} (h : j < C) : nth (subRow C l I q x) j = addB (nth x j) (mulB (nth l (I * C + j)) (-q)) := by
  rw [nth_get _ _ (by rw [subRow_length]; exact h)]; simp [subRow]
def crdQ (C : Nat) (l : List Int) (I : Nat) (x : List Int) : Int := (nth x (pv C l I)).tdiv (nth l (I * C + pv C l I))
/-- a row: what is left, and the number found -/
def crdS (C : Nat) (l : List Int) (I : Nat) (s : List Int × List Int) : Option (List Int × List Int) :=
  if (nth s.1 (pv C l I)).tmod (nth l (I * C + pv C l I)) = 0 ∧ allNum (subRow C l I (crdQ C l I s.1) s.1) = true then some (subRow C l I (crdQ C l I s.1) s.1, s.2 ++ [crdQ C l I s.1]) else none
def crdF (C : Nat) (l v : List Int) : Nat → Option (List Int × List Int)
  | 0 => some (v, [])
  | I + 1 => (crdF C l v I).bind (crdS C l I)
def crdO (a : MX) (v : List Int) : Option (List Int) :=
  if latB a.r a.c a.l && decide ((v.length : Int) = a.c) && allNum v then
    (crdF a.c.toNat a.l v a.r.toNat).bind fun s => if zeroB s.1 then some s.2 else none
  else none
theorem crdF_none {C : Nat} {l v : List Int} {i k : Nat} (h : crdF C l v i = none) (hk : i ≤ k) : crdF C l v k = none := by
  induction k with
  | zero => obtain rfl : i = 0 := by omega
            exact h
  | succ k ih =>
    by_cases e : i = k + 1
    · rw [← e]; exact h
    · rw [crdF, ih (by omega)]; rfl
theorem crdF_next {C : Nat} {l v : List Int} {I : Nat} {s : List Int × List Int} (h : crdF C l v I = some s) : crdF C l v (I + 1) = crdS C l I s := by rw [crdF, h]; rfl
theorem crdS_some {C : Nat} {l : List Int} {I : Nat} {s s' : List Int × List Int} (h : crdS C l I s = some s') : s' = (subRow C l I (crdQ C l I s.1) s.1, s.2 ++ [crdQ C l I s.1]) ∧ allNum s'.1 = true := by
  unfold crdS at h
  split at h
  · rename_i hc
    cases h
    exact ⟨rfl, hc.2⟩
  · cases h
theorem tdiv_num {x y : Int} (h : isNum x = true) : isNum (x.tdiv y) = true := by
  rw [isNum_iff] at h ⊢
  have h1 : (x.tdiv y).natAbs = x.natAbs / y.natAbs := Int.natAbs_tdiv x y
  have h2 := Nat.div_le_self x.natAbs y.natAbs
  omega
structure CrdI (C : Nat) (v : List Int) (I : Nat) (s : List Int × List Int) : Prop where
  l1 : s.1.length = C
  n1 : allNum s.1 = true
  l2 : s.2.length = I
  n2 : allNum s.2 = true
theorem allNum_snoc {l : List Int} {x : Int} (h : allNum l = true) (hx : isNum x = true) : allNum (l ++ [x]) = true := by
  unfold allNum at *; simp [h, hx]
theorem nth_num {l : List Int} (h : allNum l = true) (i : Nat) : isNum (nth l i) = true := by
  by_cases e : i < l.length
  · exact (allNum_iff l).1 h i e
  · rw [nth_out _ _ (by omega)]; decide
theorem crdF_inv {C : Nat} {l v : List Int} (hv : v.length = C) (hn : allNum v = true) {I : Nat} {s : List Int × List Int} (h : crdF C l v I = some s) : CrdI C v I s := by
  induction I generalizing s with
  | zero => cases h; exact ⟨hv, hn, rfl, rfl⟩
  | succ I ih =>
    cases hI : crdF C l v I with
    | none => rw [crdF, hI] at h; cases h
    | some t =>
      rw [crdF_next hI] at h
      have hi := ih hI
      obtain ⟨rfl, h2⟩ := crdS_some h
      refine ⟨subRow_length _ _ _ _ _, h2, by simp [hi.l2], allNum_snoc hi.n2 ?_⟩
      exact tdiv_num (nth_num hi.n1 _)
theorem crdO_no {a : MX} {v : List Int} (h : latB a.r a.c a.l = false ∨ (v.length : Int) ≠ a.c ∨ allNum v = false) : crdO a v = none := by
  unfold crdO
  rw [if_neg]
  rcases h with h | h | h <;> simp [h]
theorem crdO_yes {R C : Nat} {l v : List Int} (h : latB R C l = true) (hv : v.length = C) (hn : allNum v = true) : crdO ⟨R, C, l⟩ v = (crdF C l v R).bind fun s => if zeroB s.1 then some s.2 else none := by
  unfold crdO
  rw [if_pos (by simp [h, hv, hn])]
  simp only [Int.toNat_natCast]
theorem crdO_some {R C : Nat} {l v x : List Int} (h : crdO ⟨R, C, l⟩ v = some x) : x.length = R ∧ allNum x = true := by
  cases h1 : latB R C l
  · rw [crdO_no (a := ⟨R, C, l⟩) (.inl h1)] at h; cases h
  · by_cases h2 : (v.length : Int) = C
    · cases h3 : allNum v
      · rw [crdO_no (a := ⟨R, C, l⟩) (.inr (.inr h3))] at h; cases h
      · rw [crdO_yes h1 (by omega) h3] at h
        obtain ⟨s, h4, h5⟩ := Option.bind_eq_some_iff.1 h
        have hi := crdF_inv (by omega) h3 h4
        split at h5
        · cases h5; exact ⟨hi.l2, hi.n2⟩
        · cases h5
    · rw [crdO_no (a := ⟨R, C, l⟩) (.inr (.inl h2))] at h; cases h
/-- the cells that are done: exact, within the limit -/
def SubD (C : Nat) (l : List Int) (I : Nat) (q : Int) (x : List Int) (J : Nat) (m : List Int) : Prop :=
  m.length = C ∧ ∀ j, j < C → nth m j = if j < J then nth (subRow C l I q x) j else nth x j
theorem SubD.zero {C : Nat} {l : List Int} {I : Nat} {q : Int} {x : List Int} (h : x.length = C) : SubD C l I q x 0 x := ⟨h, fun j _ => by simp⟩
theorem SubD.cell {C : Nat} {l : List Int} {I : Nat} {q : Int} {x m : List Int} {J : Nat} (h : SubD C l I q x J m) (hJ : J < C) : nth m J = nth x J := by rw [h.2 J hJ, if_neg (by omega)]
theorem SubD.set {C : Nat} {l : List Int} {I : Nat} {q : Int} {x m : List Int} {J : Nat} (h : SubD C l I q x J m) (hJ : J < C) {y : Int} (hy : y = nth (subRow C l I q x) J) : SubD C l I q x (J + 1) (m.set J y) := by
  refine ⟨by rw [List.length_set]; exact h.1, fun j hj => ?_⟩
  rw [nth_set _ _ _ _ (by rw [h.1]; exact hJ)]
  by_cases e : j = J
  · subst e; rw [if_pos rfl, if_pos (by omega), hy]
  · rw [if_neg e, h.2 j hj]
    by_cases e2 : j < J
    · rw [if_pos e2, if_pos (by omega)]
    · rw [if_neg e2, if_neg (by omega)]
theorem SubD.all {C : Nat} {l : List Int} {I : Nat} {q : Int} {x m : List Int} (h : SubD C l I q x C m) : m = subRow C l I q x :=
  nth_ext (by rw [h.1, subRow_length]) fun j hj => by rw [h.2 j (by rw [← h.1]; exact hj), if_pos (by rw [← h.1]; exact hj)]
theorem sub_cell {x r q : Int} (hx : isNum x = true) (hr : isNum r = true) (hq : isNum q = true) :
    addB x (mulB r (-q)) = if isNum (r * q) && isNum (x - r * q) then x - r * q else bad := by
  have hq' : isNum (-q) = true := by rw [isNum_iff] at hq ⊢; omega
  rw [mulB_num hr hq', show r * -q = -(r * q) by rw [Int.mul_neg]]
  cases h1 : isNum (r * q)
  · have : isNum (-(r * q)) = false := by rw [isNum_no] at h1 ⊢; omega
    rw [fit_no this, addB_bad_right]; rfl
  · have : isNum (-(r * q)) = true := by rw [isNum_iff] at h1 ⊢; omega
    rw [fit_yes this, addB_num hx this, show x + -(r * q) = x - r * q by omega]
    cases h2 : isNum (x - r * q)
    · rw [fit_no h2]; rfl
    · rw [fit_yes h2]; rfl
end Go.Proofs.YtfilbjbogggaoaaGreat

/- Contracts: the coordinates of a vector in a lattice. -/
namespace Go.Proofs.YtfilbjbogggaoaaGreat
set_option linter.unusedSimpArgs false
set_option linter.unusedVariables false
open Go.RowKit

theorem crd_fail {R C I : Nat} {l v : List Int} {s : List Int × List Int} (h : crdF C l v I = some s) (hI : I < R) (h2 : crdS C l I s = none) : ((crdF C l v R).bind fun s => if zeroB s.1 then some s.2 else none) = none := by
  have := crdF_next h
  rw [h2] at this
  rw [crdF_none this (by omega)]; rfl
theorem crdS_mod {C I : Nat} {l : List Int} {s : List Int × List Int} (h : (nth s.1 (pv C l I)).tmod (nth l (I * C + pv C l I)) ≠ 0) : crdS C l I s = none := by
  unfold crdS; rw [if_neg]; intro h2; exact h h2.1
theorem crdS_bad {C I J : Nat} {l : List Int} {s : List Int × List Int} (hJ : J < C) (h : isNum (nth (subRow C l I (crdQ C l I s.1) s.1) J) = false) : crdS C l I s = none := by
  unfold crdS; rw [if_neg]; intro h2
  rw [allNum_no (by rw [subRow_length]; exact hJ) h] at h2
  exact absurd h2.2 (by simp)
theorem crdS_yes {C I : Nat} {l : List Int} {s : List Int × List Int} (h : (nth s.1 (pv C l I)).tmod (nth l (I * C + pv C l I)) = 0) (h2 : ∀ j, j < C → isNum (nth (subRow C l I (crdQ C l I s.1) s.1) j) = true) : crdS C l I s = some (subRow C l I (crdQ C l I s.1) s.1, s.2 ++ [crdQ C l I s.1]) := by
  unfold crdS; rw [if_pos]; exact ⟨h, (allNum_iff _).2 fun i hi => h2 i (by rw [subRow_length] at hi; exact hi)⟩

section
set_option maxHeartbeats 2000000
set_option maxRecDepth 100000
end
end Go.Proofs.YtfilbjbogggaoaaGreat

/- Contracts: the coordinates of a vector in a lattice, the reference's way. -/
namespace Go.Proofs.YtfilbjbogggaoaaGreat
set_option linter.unusedSimpArgs false
set_option linter.unusedVariables false
open Go.RowKit

theorem subRow_mkd {C : Nat} {l : List Int} {I : Nat} {q : Int} {x : List Int} : mkd (subRow C l I q x) := fun j hj => by
  rw [subRow_length] at hj
  rw [subRow_nth hj]; exact addB_or' _ _
theorem crdS_bad' {C I : Nat} {l : List Int} {s : List Int × List Int} (h : allNum (subRow C l I (crdQ C l I s.1) s.1) = false) : crdS C l I s = none := by
  unfold crdS; rw [if_neg]; intro h2; rw [h] at h2; exact absurd h2.2 (by simp)
theorem crdS_yes' {C I : Nat} {l : List Int} {s : List Int × List Int} (h : (nth s.1 (pv C l I)).tmod (nth l (I * C + pv C l I)) = 0) (h2 : allNum (subRow C l I (crdQ C l I s.1) s.1) = true) : crdS C l I s = some (subRow C l I (crdQ C l I s.1) s.1, s.2 ++ [crdQ C l I s.1]) := by
  unfold crdS; rw [if_pos ⟨h, h2⟩]
theorem isMat_one {v : List Int} {m : Nat} (hv : v.length = m) (hm : m ≤ 24) : isMat 1 m v = allNum v := by
  have := isMat_made (R := 1) (C := m) (by omega) hm (show v.length = 1 * m by omega)
  simpa using this

section
set_option maxHeartbeats 2000000
set_option maxRecDepth 100000
end
end Go.Proofs.YtfilbjbogggaoaaGreat

/- Contracts: rows put together to a matrix; some rows of a matrix. -/
namespace Go.Proofs.YtfilbjbogggaoaaGreat
set_option linter.unusedSimpArgs false
set_option linter.unusedVariables false
open Go.RowKit

theorem und_ints : Tryz.prog.underlying 29 = some (.slice 24) := Tryz.underlying29
theorem info_ints : (Tryz.prog.info? 24).map (fun i => (i.zero, i.size, i.bytes)) = some (some (.slice none 0 0), 1, 24) := by kernel_rfl

/-- the first I of some rows -/
def takeF (C : Nat) (l rs : List Int) : Nat → List (List Int)
  | 0 => []
  | i + 1 => takeF C l rs i ++ [rowL C l (nth rs i).toNat]
theorem takeF_length (C : Nat) (l rs : List Int) (i : Nat) : (takeF C l rs i).length = i := by
  induction i with
  | zero => rfl
  | succ i ih => rw [takeF]; simp [ih]
/-- the first I rows, one behind the other -/
def flatF (L : List (List Int)) : Nat → List Int
  | 0 => []
  | i + 1 => flatF L i ++ L.getD i []
theorem flatF_length {L : List (List Int)} {C : Nat} (h : ∀ i, i < L.length → (L.getD i []).length = C) (i : Nat) (hi : i ≤ L.length) : (flatF L i).length = i * C := by
  induction i with
  | zero => simp [flatF]
  | succ i ih => rw [flatF, List.length_append, ih (by omega), h i (by omega), Nat.add_mul, Nat.one_mul]

section
set_option maxHeartbeats 2000000
theorem fromRows_c (A : Option Addr) (L : List (List Int)) (k cap C : Nat) (cols : Int) (w : World) (hk : L.length = k) (hk2 : k ≤ 4000) (hC : C ≤ 4000) (hL : ∀ i, i < L.length → (L.getD i []).length = C) (ha : RdR RSI w A L) :
    Calls Tryz.prog 189 #[.slice A k cap, .int .i64 cols] w (Mat1 ⟨k, cols, flatF L k⟩ w) := by
  obtain ⟨w1, hw1⟩ : ∃ w1, w1 = w.alloc (.cells #[.int .i64 0, .int .i64 0, .slice none 0 0] 26) := ⟨_, rfl⟩
  have mr : MBox w1 w.heap.size 0 0 (.slice none 0 0) := by rw [hw1]; exact MBox.mk_ _ _ _ _ _
  have g01 : Grows w w1 := by rw [hw1]; exact bel0
  have hs1 : w1.heap.size = w.heap.size + 1 := by rw [hw1]; simp
  have ha1 : RdR RSI w1 A L := ha.grows RSI.good g01
  have HW1 := Lib.hid hw1
  have HS1 := Lib.hid hs1
  have HK := Lib.hid hk
  have HLC := Lib.hid hL
  have hkb : ∀ I, I ≤ k → I * C ≤ 16000000 := fun I hI => by have := Nat.mul_le_mul (Nat.le_trans hI hk2) hC; omega
  have HKB := Lib.hid hkb
  clear hw1 hs1 hk hL hkb
  have hrl := mr.lt
  go_enter Tryz.func189, Tryz.ntmps189
  go_wp2_with fail
  rw [← HW1.out]
  go_loopw [15] (fun i wr => ∃ (I : Nat) (v : Value), i = .int .i64 I ∧ I ≤ k ∧ Own wr w1.heap.size v (flatF L I) ∧ MBox wr (w.heap.size + 1 + 1) k cols v ∧ (∀ g, v.ownBlock = some g → g ≠ w.heap.size + 1 + 1) ∧ Below w1.heap.size w1 wr) (fun i _ => k - (intOf i).toNat)
  case atStart => exact ⟨0, _, rfl, Nat.zero_le _, (Own.new_ w1 HS1.out (by have := HS1.out; omega)).alloc _, MBox.new_ _ _ _ _ _ (by have := HS1.out; simp; omega), by intro g hg; simp [Value.ownBlock] at hg; omega, by exact bel0⟩
  case round =>
    obtain ⟨I, v, rfl, hI, ho, mb, hv, hg⟩ := hrel
    have bl0 := mb.lt
    have hsz := Below.size hg
    have HV := Lib.hid hv
    clear hv
    obtain ⟨A1, c1, rfl, _, _⟩ := ho.val
    obtain ⟨b0, b1, b2⟩ := mb.cells
    have bf := mb.fz
    have bl := mb.lt
    by_cases hlt : I < k
    · have hlt' : (I : Int) < (k : Int) := by omega
      obtain ⟨ab, off, u, rfl, hab, hcell, A2, c2, rfl, hr2, hc2⟩ := (ha1.grows RSI.good hg).at_ I (by rw [HK.out]; exact hlt)
      have HX := Lib.hid (show flatF L (I + 1) = flatF L I ++ L[I]'(by rw [HK.out]; exact hlt) by rw [flatF]; congr 1; simp [List.getD, HK.out, hlt])
      have hxl : (L[I]'(by rw [HK.out]; exact hlt)).length = C := by have := HLC.out I (by rw [HK.out]; exact hlt); simpa [List.getD, HK.out, hlt] using this
      have hfl : (flatF L I).length = I * C := flatF_length HLC.out I (by rw [HK.out]; omega)
      have hbd := HKB.out I hI
      generalize L[I]'(by rw [HK.out]; exact hlt) = row at *
      have HXL := Lib.hid hxl
      have HFL := Lib.hid hfl
      clear hxl hfl
      go_wp2_with (at_builtin; refine wpList_app rfl (.tmp 20) (.tmp 21) rfl _ w1.heap.size _ (flatF L I) (by rfl) ho A2 row row.length c2 (by rfl) rfl hr2 (by have := HXL.out; have := HFL.out; omega) (by omega) ?_; intro v7 w7 ho7 hg7 hv7; have hb7 := below_app ho (by omega) hg7; have mb7 := mb.own hg7 HV.out; obtain ⟨A7, c7, rfl, _, _⟩ := ho7.val; clear b0 b1 b2 bf bl; obtain ⟨b0, b1, b2⟩ := mb7.cells; have bf := mb7.fz; have bl := mb7.lt; clear hg7)
      go_round
      case rel =>
        have hs1 := HS1.out
        have hne : ∀ g, (Value.slice A7 (flatF L I ++ row).length c7).ownBlock = some g → g ≠ w.heap.size + 1 + 1 := fun g hg => by
          rcases hv7 with h | h
          · exact HV.out g (by rw [← h]; exact hg)
          · rw [h] at hg; cases hg; omega
        have ho8 := ho7.far (p := ⟨w.heap.size + 1 + 1, 2, none⟩) hne (.slice A7 (flatF L I ++ row).length c7)
        exact ⟨I + 1, _, by go_num, by omega, by rw [HX.out]; simpa using ho8, by simpa using mb7.put2 _, by simpa using hne, (Below.trans hg hb7).setCell (by simp; omega) _⟩
      case measure => simp [intOf]; omega
    · obtain rfl : I = k := by omega
      have mr2 := mr.keep hg (by omega)
      obtain ⟨zr0, zr1, zr2⟩ := mr2.cells; have zrf := mr2.fz; have zrl := mr2.lt
      have hs1 := HS1.out
      go_wp2_with fail
      refine bodyPost_ret (v := .agg #[.int .i64 I, .int .i64 cols, .slice A1 (flatF L I).length c1]) ?_ rfl ?_
      · simp [results, Tryz.results189, go_sem, zr0, zr1, zr2, zrf, zrl]
      · exact ⟨_, rfl, by exact ownl ho, by exact bel2 hg g01⟩
end
end Go.Proofs.YtfilbjbogggaoaaGreat

/- Contracts: the coordinates of the rows of a lattice in another. -/
namespace Go.Proofs.YtfilbjbogggaoaaGreat
set_option linter.unusedSimpArgs false
set_option linter.unusedVariables false
open Go.RowKit

def crmF (a : MX) (C : Nat) (l : List Int) : Nat → Option (List (List Int))
  | 0 => some []
  | i + 1 => (crmF a C l i).bind fun L => (crdO a (rowL C l i)).map fun x => L ++ [x]
def crmO (a b : MX) : Option MX :=
  if latB a.r a.c a.l && latB b.r b.c b.l && decide (a.c = b.c) then (crmF a b.c.toNat b.l b.r.toNat).map fun L => ⟨b.r, a.r, flatF L b.r.toNat⟩ else none
theorem crmF_none {a : MX} {C : Nat} {l : List Int} {i k : Nat} (h : crmF a C l i = none) (hk : i ≤ k) : crmF a C l k = none := by
  induction k with
  | zero => obtain rfl : i = 0 := by omega
            exact h
  | succ k ih =>
    by_cases e : i = k + 1
    · rw [← e]; exact h
    · rw [crmF, ih (by omega)]; rfl
theorem crmF_fail {a : MX} {C : Nat} {l : List Int} {i : Nat} {L : List (List Int)} (h : crmF a C l i = some L) (h2 : crdO a (rowL C l i) = none) : crmF a C l (i + 1) = none := by rw [crmF, h, Option.bind_some, h2]; rfl
theorem crmF_next {a : MX} {C : Nat} {l : List Int} {i : Nat} {L : List (List Int)} {x : List Int} (h : crmF a C l i = some L) (h2 : crdO a (rowL C l i) = some x) : crmF a C l (i + 1) = some (L ++ [x]) := by rw [crmF, h, Option.bind_some, h2]; rfl
theorem crmO_none {a b : MX} {i : Nat} (hi : i ≤ b.r.toNat) (h : crmF a b.c.toNat b.l i = none) : crmO a b = none := by
  unfold crmO
  rw [crmF_none h hi]
  split <;> rfl
theorem crmO_no {a b : MX} (h : latB a.r a.c a.l = false ∨ latB b.r b.c b.l = false ∨ a.c ≠ b.c) : crmO a b = none := by
  unfold crmO
  rw [if_neg]
  rcases h with h | h | h <;> simp [h]
theorem crmO_yes {a b : MX} {L : List (List Int)} (h1 : latB a.r a.c a.l = true) (h2 : latB b.r b.c b.l = true) (h3 : a.c = b.c) (h : crmF a b.c.toNat b.l b.r.toNat = some L) : crmO a b = some ⟨b.r, a.r, flatF L b.r.toNat⟩ := by
  unfold crmO
  rw [if_pos (by rw [h1, h2, decide_eq_true h3]; rfl), h]; rfl
/-- what is known of the numbers found for a vector -/
theorem crdO_lat {a : MX} {v x : List Int} (h : crdO a v = some x) : latB a.r a.c a.l = true ∧ x.length = a.r.toNat ∧ x.length ≤ 24 ∧ allNum x = true := by
  cases h1 : latB a.r a.c a.l
  · rw [crdO_no (.inl h1)] at h; cases h
  · obtain ⟨hm, _⟩ := latB_parts h1
    obtain ⟨R, C, e1, e2, hR, hC, _⟩ := isMat_nat hm
    obtain ⟨r, c, l⟩ := a
    simp only at e1 e2
    subst e1 e2
    obtain ⟨h2, h3⟩ := crdO_some h
    exact ⟨rfl, by simp [h2], by omega, h3⟩
structure CrmI (a : MX) (i : Nat) (L : List (List Int)) : Prop where
  len : L.length = i
  row : ∀ j, j < i → latB a.r a.c a.l = true ∧ (L.getD j []).length = a.r.toNat ∧ (L.getD j []).length ≤ 24 ∧ allNum (L.getD j []) = true
theorem getD_app_left {L M : List (List Int)} {j : Nat} (h : j < L.length) : (L ++ M).getD j [] = L.getD j [] := by
  simp only [List.getD_eq_getElem?_getD, List.getElem?_append_left h]
theorem getD_app_last {L : List (List Int)} {x : List Int} : (L ++ [x]).getD L.length [] = x := by
  simp only [List.getD_eq_getElem?_getD, List.getElem?_append_right (Nat.le_refl _), Nat.sub_self]; rfl
theorem crmF_inv {a : MX} {C : Nat} {l : List Int} {i : Nat} {L : List (List Int)} (h : crmF a C l i = some L) : CrmI a i L := by
  induction i generalizing L with
  | zero => cases h; exact ⟨rfl, fun j h => by omega⟩
  | succ i ih =>
    rw [crmF] at h
    obtain ⟨M, h1, h2⟩ := Option.bind_eq_some_iff.1 h
    obtain ⟨x, h3, rfl⟩ := Option.map_eq_some_iff.1 h2
    have hi := ih h1
    refine ⟨by simp [hi.len], fun j hj => ?_⟩
    by_cases e : j < i
    · rw [getD_app_left (by rw [hi.len]; exact e)]; exact hi.row j e
    · obtain rfl : j = M.length := by rw [hi.len]; omega
      rw [getD_app_last]; exact crdO_lat h3
theorem flatF_app {L M : List (List Int)} {i : Nat} (h : i ≤ L.length) : flatF (L ++ M) i = flatF L i := by
  induction i with
  | zero => rfl
  | succ i ih => rw [flatF, flatF, ih (by omega), getD_app_left (by omega)]
theorem flatF_snoc {L : List (List Int)} {x : List Int} {i : Nat} (h : L.length = i) : flatF (L ++ [x]) (i + 1) = flatF L i ++ x := by
  subst h
  rw [flatF, flatF_app (Nat.le_refl _), getD_app_last]
theorem flatF_bound {L : List (List Int)} {n : Nat} (h : ∀ j, j < n → (L.getD j []).length ≤ 24) (i : Nat) (hi : i ≤ n) : (flatF L i).length ≤ i * 24 := by
  induction i with
  | zero => simp [flatF]
  | succ i ih => rw [flatF, List.length_append]; have := ih (by omega); have := h i (by omega); omega
theorem flatF_num {L : List (List Int)} {n : Nat} (h : ∀ j, j < n → allNum (L.getD j []) = true) (i : Nat) (hi : i ≤ n) : allNum (flatF L i) = true := by
  induction i with
  | zero => rfl
  | succ i ih =>
    have h1 := ih (by omega); have h2 := h i (by omega)
    rw [flatF]; unfold allNum at *; rw [List.all_append, h1, h2]; rfl
theorem crm_mat {R R' C C' : Nat} {a l : List Int} {L : List (List Int)} (hR : R ≤ 24) (hR' : R' ≤ 24) (h : crmF ⟨R, C', a⟩ C l R' = some L) : isMat R' R (flatF L R') = true ∧ (flatF L R').length = R' * R ∧ ∀ i, i < L.length → (L.getD i []).length = R := by
  have hi := crmF_inv h
  have hrow : ∀ i, i < L.length → (L.getD i []).length = R := fun i h => by have := (hi.row i (by rw [← hi.len]; exact h)).2.1; simpa using this
  have hlen := flatF_length hrow R' (by rw [hi.len]; exact Nat.le_refl _)
  refine ⟨?_, hlen, hrow⟩
  rw [isMat_made hR' hR hlen]
  exact flatF_num (n := R') (fun j hj => (hi.row j hj).2.2.2) R' (Nat.le_refl _)
theorem crmO_ok {a b m : MX} (h : crmO a b = some m) : m.ok = true := by
  unfold crmO at h
  split at h
  · rename_i hc
    simp only [Bool.and_eq_true, decide_eq_true_eq] at hc
    obtain ⟨⟨h1, h2⟩, h3⟩ := hc
    obtain ⟨L, h4, rfl⟩ := Option.map_eq_some_iff.1 h
    obtain ⟨hm, _⟩ := latB_parts h1
    obtain ⟨R, C, e1, e2, hR, hC, _⟩ := isMat_nat hm
    obtain ⟨hm', _⟩ := latB_parts h2
    obtain ⟨R', C', e3, e4, hR', hC', _⟩ := isMat_nat hm'
    obtain ⟨r, c, l⟩ := a
    simp only at e1 e2
    subst e1 e2
    unfold MX.ok
    simp only [e3, e4, Int.toNat_natCast] at h4 ⊢
    exact (crm_mat hR hR' h4).1
  · cases h
theorem adR_own {v : Value} {g : Nat} (h : adR v = some g) : v.ownBlock = some g := by
  unfold adR at h
  split at h
  · split at h
    · cases h
    · cases h; rfl
  · cases h

section
set_option maxHeartbeats 2000000
set_option maxRecDepth 100000
end
end Go.Proofs.YtfilbjbogggaoaaGreat

/- What the coordinates of a lattice are, where there are any; two Matrix variables. -/
namespace Go.Proofs.YtfilbjbogggaoaaGreat
set_option linter.unusedSimpArgs false
set_option linter.unusedVariables false
open Go.RowKit

/-- what the coordinates are, where there are any -/
theorem crmO_shape {r c r' c' : Int} {a b : List Int} {m : MX} (h : crmO ⟨r, c, a⟩ ⟨r', c', b⟩ = some m) :
    ∃ (R R' : Nat) (l : List Int), m = ⟨R', R, l⟩ ∧ r = R ∧ r' = R' ∧ R ≤ 24 ∧ R' ≤ 24 ∧ isMat R' R l = true ∧ l.length = R' * R := by
  unfold crmO at h
  simp only at h
  split at h
  · rename_i hc
    simp only [Bool.and_eq_true, decide_eq_true_eq] at hc
    obtain ⟨R, C, rfl, rfl, hR, _⟩ := isMat_nat (latB_parts hc.1.1).1
    obtain ⟨R', C', rfl, rfl, hR', _⟩ := isMat_nat (latB_parts hc.1.2).1
    simp only [Int.toNat_natCast] at h
    obtain ⟨L, hL, h2⟩ := Option.map_eq_some_iff.1 h
    obtain ⟨h3, h4, _⟩ := crm_mat hR hR' hL
    exact ⟨R, R', flatF L R', h2.symm, rfl, rfl, hR, hR', h3, h4⟩
  · cases h
theorem two_box (w : World) (r c r' c' : Int) (u u' : Value) : ∃ w1, w1 = (w.alloc (.cells #[.int .i64 r, .int .i64 c, u] 26)).alloc (.cells #[.int .i64 r', .int .i64 c', u'] 26) ∧
    MBox w1 w.heap.size r c u ∧ MBox w1 (w.heap.size + 1) r' c' u' ∧ Grows w w1 :=
  ⟨_, rfl, (MBox.mk_ _ _ _ _ _).grows ((Below.refl _ _).alloc (Nat.le_refl _) _), MBox.new_ _ _ _ _ _ (by simp), by exact bel0⟩
end Go.Proofs.YtfilbjbogggaoaaGreat

/- Contracts: a basis of the rows, of what a matrix takes to 0. -/
namespace Go.Proofs.YtfilbjbogggaoaaGreat
set_option linter.unusedSimpArgs false
set_option linter.unusedVariables false
open Go.RowKit

/-! ### plain: which rows of a Hermite form are zeros -/
def upto (T n : Nat) : List Int := (List.range n).map fun k => ((T + k : Nat) : Int)
theorem upto_length (T n : Nat) : (upto T n).length = n := by simp [upto]
theorem upto_nth {T n i : Nat} (h : i < n) : nth (upto T n) i = ((T + i : Nat) : Int) := by
  rw [nth_get _ _ (by rw [upto_length]; exact h)]; simp [upto]
theorem upto_succ (T n : Nat) : upto T (n + 1) = upto T n ++ [((T + n : Nat) : Int)] := by simp [upto, List.range_succ]
/-- t rows that are not zeros, then zeros -/
structure Stair (R C t : Nat) (l : List Int) : Prop where
  len : l.length = R * C
  tR : t ≤ R
  full : ∀ i, i < t → pv C l i ≠ C
  zero : ∀ i, t ≤ i → i < R → pv C l i = C
theorem HI.stair {R C : Nat} {x : TS} (h : HI R C C x) : Stair R C x.1 x.2.1 := by
  refine ⟨h.ok.l1, h.tR, fun i hi e => ?_, fun i h1 h2 => ?_⟩
  · obtain ⟨c, hc, hne⟩ := h.full i hi
    exact hne (pv_zero hc (by rw [e]; exact hc))
  · have hle := pv_le (i := i) h.ok.l1 h2
    rcases Nat.lt_or_ge (pv C x.2.1 i) C with h3 | h3
    · exact absurd (h.zero i h1 h2 _ h3) (pv_ne h.ok.l1 h2 h3)
    · omega
theorem Stair.fullR {R C t : Nat} {l : List Int} (h : Stair R C t l) (i : Nat) (hi : i ≤ R) : Proofs.YtfilbjbogggaoaaGreat.fullR C l i = upto 0 (min i t) := by
  induction i with
  | zero => simp [Proofs.YtfilbjbogggaoaaGreat.fullR, upto]
  | succ i ih =>
    rw [Proofs.YtfilbjbogggaoaaGreat.fullR, ih (by omega)]
    by_cases e : i < t
    · rw [if_neg (h.full i e), show min (i + 1) t = i + 1 by omega, show min i t = i by omega, upto_succ, Nat.zero_add]
    · rw [if_pos (h.zero i (by omega) (by omega)), show min (i + 1) t = t by omega, show min i t = t by omega]
theorem Stair.zeroR {R C t : Nat} {l : List Int} (h : Stair R C t l) (i : Nat) (hi : i ≤ R) : Proofs.YtfilbjbogggaoaaGreat.zeroR C l i = upto t (i - t) := by
  induction i with
  | zero => simp [Proofs.YtfilbjbogggaoaaGreat.zeroR, upto]
  | succ i ih =>
    rw [Proofs.YtfilbjbogggaoaaGreat.zeroR, ih (by omega)]
    by_cases e : i < t
    · rw [if_neg (h.full i e), show i + 1 - t = 0 by omega, show i - t = 0 by omega]
    · rw [if_pos (h.zero i (by omega) (by omega)), show i + 1 - t = (i - t) + 1 by omega, upto_succ, show t + (i - t) = i by omega]
theorem Stair.nzN {R C t : Nat} {l : List Int} (h : Stair R C t l) (i : Nat) (hi : i ≤ R) : Proofs.YtfilbjbogggaoaaGreat.nzN C l i = min i t := by
  induction i with
  | zero => simp [Proofs.YtfilbjbogggaoaaGreat.nzN]
  | succ i ih =>
    rw [Proofs.YtfilbjbogggaoaaGreat.nzN]
    by_cases e : i < t
    · rw [if_neg (h.full i e)]; omega
    · rw [if_pos (h.zero i (by omega) (by omega)), ih (by omega)]; omega
/-- the rows from t on, one behind the other -/
theorem flat_upto {R C t : Nat} {l : List Int} (hl : l.length = R * C) (n : Nat) (h : t + n ≤ R) (k : Nat) (hk : k ≤ n) : flatF (takeF C l (upto t n) n) k = (l.drop (t * C)).take (k * C) := by
  induction k with
  | zero => simp [flatF]
  | succ k ih =>
    have e : (takeF C l (upto t n) n).getD k [] = rowL C l (t + k) := by
      have key : ∀ m, k < m → (takeF C l (upto t n) m).getD k [] = rowL C l (nth (upto t n) k).toNat := by
        intro m hm
        induction m with
        | zero => omega
        | succ m ihm =>
          rw [takeF]
          by_cases e : k = m
          · subst e
            simp only [List.getD_eq_getElem?_getD]
            rw [List.getElem?_append_right (by rw [takeF_length]; exact Nat.le_refl _), takeF_length, Nat.sub_self]; rfl
          · have := ihm (by omega)
            simp only [List.getD_eq_getElem?_getD] at this ⊢
            rw [List.getElem?_append_left (by rw [takeF_length]; omega)]; exact this
      rw [key n (by omega), upto_nth (by omega), Int.toNat_natCast]
    rw [flatF, ih (by omega), e]
    refine nth_ext ?_ fun i hi => ?_
    · have h1 : (t + (k + 1)) * C ≤ R * C := Nat.mul_le_mul_right C (by omega)
      rw [Nat.add_mul] at h1
      rw [List.length_append, rowL_length (by rw [hl]; exact Nat.mul_le_mul_right C (by omega)), List.length_take, List.length_take, List.length_drop, hl]
      rw [Nat.add_mul, Nat.one_mul] at h1 ⊢
      omega
    · have h1 : (t + (k + 1)) * C ≤ R * C := Nat.mul_le_mul_right C (by omega)
      rw [Nat.add_mul, Nat.add_mul, Nat.one_mul] at h1
      have hlen : ((l.drop (t * C)).take (k * C)).length = k * C := by rw [List.length_take, List.length_drop, hl]; omega
      have htk : ∀ j m, j < m → nth ((l.drop (t * C)).take m) j = nth l (t * C + j) := by
        intro j m hj
        unfold nth
        simp only [List.getD_eq_getElem?_getD, List.getElem?_take, if_pos hj, List.getElem?_drop]
      have hi' : i < k * C + C := by
        rw [List.length_append, hlen, rowL_length (by rw [hl]; exact Nat.mul_le_mul_right C (by omega))] at hi
        exact hi
      rw [htk i _ (by rw [Nat.add_mul, Nat.one_mul]; exact hi')]
      by_cases e2 : i < k * C
      · rw [nth_append_left _ _ _ (by rw [hlen]; exact e2), htk i _ e2]
      · rw [nth_append_right _ _ _ (by rw [hlen]; omega), hlen, rowL_nth (by omega), Nat.add_mul]
        congr 1; omega

/-- the rows of the Hermite form that are not zeros -/
def rankN (x : MX × MX) : Nat := nzN x.1.c.toNat x.1.l x.1.r.toNat
def basO (a : MX) : Option MX := (hermO a).map fun x => ⟨(rankN x : Nat), a.c, x.1.l.take (rankN x * a.c.toNat)⟩
def kerO (a : MX) : Option MX := (hermO a).bind fun x => basO ⟨((a.r.toNat - rankN x : Nat) : Int), a.r, x.2.l.drop (rankN x * a.r.toNat)⟩
/-- what is known where there is a Hermite form -/
theorem hermO_some {R C : Nat} {l : List Int} (h : isMat R C l = true) {x : MX × MX} (hx : hermO ⟨R, C, l⟩ = some x) :
    ∃ (T : Nat) (a u : List Int), x = (⟨R, C, a⟩, ⟨R, R, u⟩) ∧ Ok2 R C (a, u) ∧ Stair R C T a ∧ rankN x = T := by
  rw [hermO_nat h] at hx
  obtain ⟨⟨T, a, u⟩, h1, h2⟩ := Option.map_eq_some_iff.1 hx
  have H := hermF_HI (ok2_start h) (Nat.le_refl C) h1
  refine ⟨T, a, u, h2.symm, H.ok, H.stair, ?_⟩
  rw [← h2]
  show nzN (C : Int).toNat a (R : Int).toNat = T
  rw [Int.toNat_natCast, Int.toNat_natCast, H.stair.nzN R (Nat.le_refl _)]
  have := H.stair.tR
  simp only at this ⊢
  omega
theorem basO_ok {a m : MX} (h : basO a = some m) : m.ok = true := by
  unfold basO at h
  obtain ⟨x, h1, h2⟩ := Option.map_eq_some_iff.1 h
  cases hm : a.ok
  · rw [hermO_no hm] at h1; cases h1
  · obtain ⟨R, C, e1, e2, hR, hC, hl, hn⟩ := isMat_ok hm
    obtain ⟨r, c, l⟩ := a
    simp only at e1 e2
    subst e1 e2
    obtain ⟨T, b, u, rfl, ok, st, hT⟩ := hermO_some hm h1
    rw [hT] at h2
    rw [← h2]
    show isMat T C _ = true
    have h3 : T * C ≤ R * C := Nat.mul_le_mul_right C st.tR
    rw [isMat_made (Nat.le_trans st.tR hR) hC (by rw [Int.toNat_natCast, List.length_take, ok.l1]; omega)]
    rw [allNum_iff]
    intro i hi
    have hb : b.length = R * C := ok.l1
    change i < (b.take (T * (C : Int).toNat)).length at hi
    rw [Int.toNat_natCast, List.length_take] at hi
    rw [Int.toNat_natCast]
    have := (allNum_iff _).1 ok.n1 i (by show i < b.length; omega)
    have e : nth (List.take (T * C) b) i = nth b i := by
      unfold nth; simp only [List.getD_eq_getElem?_getD, List.getElem?_take, if_pos (show i < T * C by omega)]
    rw [e]; exact this
theorem kerO_ok {a m : MX} (h : kerO a = some m) : m.ok = true := by
  unfold kerO at h
  obtain ⟨x, _, h2⟩ := Option.bind_eq_some_iff.1 h
  exact basO_ok h2

theorem mat2_some {r1 c1 r2 c2 : Int} {l1 l2 : List Int} {w w' : World} {e : Ending} (h : Mat2Ret (some (⟨r1, c1, l1⟩, ⟨r2, c2, l2⟩)) w e w') :
    ∃ A1 k1 A2 k2, e = .returned (.tuple #[.agg #[.int .i64 r1, .int .i64 c1, .slice A1 l1.length k1], .agg #[.int .i64 r2, .int .i64 c2, .slice A2 l2.length k2], .bool true]) ∧ Own w' w.heap.size (.slice A1 l1.length k1) l1 ∧ Own w' w.heap.size (.slice A2 l2.length k2) l2 ∧ (∀ g, (Value.slice A1 l1.length k1).ownBlock = some g → (Value.slice A2 l2.length k2).ownBlock ≠ some g) ∧ Grows w w' := by
  obtain ⟨v1, v2, rfl, o1, o2, hne, g⟩ := mat2_out h
  obtain ⟨A1, k1, rfl, _, _⟩ := o1.val
  obtain ⟨A2, k2, rfl, _, _⟩ := o2.val
  exact ⟨A1, k1, A2, k2, rfl, o1, o2, hne, g⟩
theorem mat2_none {w w' : World} {e : Ending} (h : Mat2Ret none w e w') :
    ∃ A1 k1 A2 k2, e = .returned (.tuple #[.agg #[.int .i64 0, .int .i64 0, .slice A1 0 k1], .agg #[.int .i64 0, .int .i64 0, .slice A2 0 k2], .bool false]) ∧ Grows w w' := by
  obtain ⟨v1, v2, rfl, o1, o2, hne, g⟩ := mat2_out h
  obtain ⟨A1, k1, rfl, _, _⟩ := o1.val
  obtain ⟨A2, k2, rfl, _, _⟩ := o2.val
  exact ⟨A1, k1, A2, k2, rfl, g⟩
theorem matRet_some {r c : Int} {l : List Int} {w w' : World} {e : Ending} (h : MatRet (some ⟨r, c, l⟩) w e w') :
    ∃ A k, e = .returned (.tuple #[.agg #[.int .i64 r, .int .i64 c, .slice A l.length k], .bool true]) ∧ Own w' w.heap.size (.slice A l.length k) l ∧ Grows w w' := by
  obtain ⟨v1, rfl, o1, g⟩ := matRet_out h
  obtain ⟨A1, k1, rfl, _, _⟩ := o1.val
  exact ⟨A1, k1, rfl, o1, g⟩
theorem matRet_none {w w' : World} {e : Ending} (h : MatRet none w e w') :
    ∃ A k, e = .returned (.tuple #[.agg #[.int .i64 0, .int .i64 0, .slice A 0 k], .bool false]) ∧ Grows w w' := by
  obtain ⟨v1, rfl, o1, g⟩ := matRet_out h
  obtain ⟨A1, k1, rfl, _, _⟩ := o1.val
  exact ⟨A1, k1, rfl, g⟩
theorem MBox.c012 {w : World} {b : Nat} {r c : Int} {v : Value} (h : MBox w b r c v) : w.cell? ⟨b, 0, none⟩ = some (.int .i64 r) ∧ w.cell? ⟨b, 1, none⟩ = some (.int .i64 c) ∧ w.cell? ⟨b, 2, none⟩ = some v := h.cells
section
set_option maxHeartbeats 2000000
end
end Go.Proofs.YtfilbjbogggaoaaGreat
