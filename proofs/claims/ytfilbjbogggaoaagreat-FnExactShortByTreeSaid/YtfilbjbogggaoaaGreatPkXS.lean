/- Contracts and lemmas, put together. -/
import Derived.BigQuiet
import Derived.Deep.QuietTactic
import Derived.Test.YtfilbjbogggaoaaGreatPkA
import Derived.Test.YtfilbjbogggaoaaGreatPkCS
import Derived.Test.YtfilbjbogggaoaaGreatPkES
import Derived.Test.YtfilbjbogggaoaaGreatPkVS
/- Plain: vectors with a value, ordered by the value and then lexicographically; insertion; one sorted list; the box of all vectors. -/
namespace Go.Proofs.YtfilbjbogggaoaaGreat
set_option linter.unusedSimpArgs false
set_option linter.unusedVariables false
open Go.RowKit

/-- a is less than b: the first cells that differ decide -/
def lexB : List Int → List Int → Bool
  | [], [] => false
  | [], _ :: _ => true
  | _ :: _, [] => false
  | a :: x, b :: y => decide (a < b) || (decide (a = b) && lexB x y)
theorem lexB_irrefl (x : List Int) : lexB x x = false := by
  induction x with
  | nil => rfl
  | cons a x ih => simp [lexB, ih]
theorem lexB_trans {x y z : List Int} (h1 : lexB x y = true) (h2 : lexB y z = true) : lexB x z = true := by
  induction x generalizing y z with
  | nil =>
    cases y with
    | nil => cases h1
    | cons b y => cases z with
      | nil => cases h2
      | cons c z => rfl
  | cons a x ih =>
    cases y with
    | nil => cases h1
    | cons b y =>
      cases z with
      | nil => cases h2
      | cons c z =>
        simp only [lexB, Bool.or_eq_true, Bool.and_eq_true, decide_eq_true_eq] at *
        rcases h1 with h1 | ⟨e1, h1⟩ <;> rcases h2 with h2 | ⟨e2, h2⟩
        · left; omega
        · left; omega
        · left; omega
        · right; exact ⟨by omega, ih h1 h2⟩
theorem lexB_total {x y : List Int} (h1 : lexB x y = false) (h2 : lexB y x = false) : x = y := by
  induction x generalizing y with
  | nil => cases y with
    | nil => rfl
    | cons b y => cases h1
  | cons a x ih =>
    cases y with
    | nil => cases h2
    | cons b y =>
      simp only [lexB, Bool.or_eq_false_iff, Bool.and_eq_false_iff, decide_eq_false_iff_not] at *
      obtain ⟨h3, h4⟩ := h1
      obtain ⟨h5, h6⟩ := h2
      obtain rfl : a = b := by omega
      rw [ih (y := y)]
      · rcases h4 with h | h
        · exact absurd rfl h
        · exact h
      · rcases h6 with h | h
        · exact absurd rfl h
        · exact h
/-- alike so far, and then not -/
theorem lexB_at {x y : List Int} {i : Nat} (hx : i < x.length) (hy : i < y.length) (h : ∀ t, t < i → nth x t = nth y t) (hne : nth x i ≠ nth y i) : lexB x y = decide (nth x i < nth y i) := by
  induction i generalizing x y with
  | zero =>
    cases x with
    | nil => simp at hx
    | cons a x => cases y with
      | nil => simp at hy
      | cons b y =>
        have hne' : ¬ a = b := hne
        show (decide (a < b) || (decide (a = b) && lexB x y)) = decide (a < b)
        simp [hne']
  | succ i ih =>
    cases x with
    | nil => simp at hx
    | cons a x => cases y with
      | nil => simp at hy
      | cons b y =>
        have h0 : a = b := h 0 (by omega)
        have := ih (x := x) (y := y) (by simpa using hx) (by simpa using hy) (fun t ht => h (t + 1) (by omega)) hne
        show (decide (a < b) || (decide (a = b) && lexB x y)) = decide (nth x i < nth y i)
        rw [this]
        simp [h0]
theorem lexB_alike {x y : List Int} (hl : x.length = y.length) (h : ∀ t, t < x.length → nth x t = nth y t) : lexB x y = false := by
  have : x = y := List.ext_getElem hl fun i h1 h2 => by
    have := h i h1
    simpa [nth, h1, h2] using this
  rw [this, lexB_irrefl]

abbrev KV := Int × List Int
def ltK (a b : KV) : Bool := decide (a.1 < b.1) || (decide (a.1 = b.1) && lexB a.2 b.2)
theorem ltK_irrefl (a : KV) : ltK a a = false := by simp [ltK, lexB_irrefl]
theorem ltK_trans {a b c : KV} (h1 : ltK a b = true) (h2 : ltK b c = true) : ltK a c = true := by
  simp only [ltK, Bool.or_eq_true, Bool.and_eq_true, decide_eq_true_eq] at *
  rcases h1 with h1 | ⟨e1, h1⟩ <;> rcases h2 with h2 | ⟨e2, h2⟩
  · left; omega
  · left; omega
  · left; omega
  · right; exact ⟨by omega, lexB_trans h1 h2⟩
theorem ltK_total {a b : KV} (h1 : ltK a b = false) (h2 : ltK b a = false) : a = b := by
  simp only [ltK, Bool.or_eq_false_iff, Bool.and_eq_false_iff, decide_eq_false_iff_not] at *
  obtain ⟨h3, h4⟩ := h1
  obtain ⟨h5, h6⟩ := h2
  have e : a.1 = b.1 := by omega
  refine Prod.ext e (lexB_total ?_ ?_)
  · rcases h4 with h | h
    · exact absurd e h
    · exact h
  · rcases h6 with h | h
    · exact absurd e.symm h
    · exact h
theorem ltK_asymm {a b : KV} (h : ltK a b = true) : ltK b a = false := by
  cases e : ltK b a
  · rfl
  · have := ltK_trans h e; rw [ltK_irrefl] at this; cases this
theorem ltK_ntrans {a b c : KV} (h1 : ltK a b = false) (h2 : ltK b c = false) : ltK a c = false := by
  cases e : ltK a c
  · rfl
  · cases e2 : ltK c b
    · have := ltK_total h2 e2; subst this; rw [h1] at e; cases e
    · have := ltK_trans e e2; rw [h1] at this; cases this

/-- where a vector is put: behind the last one that it is not less than -/
def posK (l : List KV) (v : KV) : Nat → Nat
  | 0 => 0
  | n + 1 => if ltK v (l.getD n (0, [])) then posK l v n else n + 1
theorem posK_le (l : List KV) (v : KV) (n : Nat) : posK l v n ≤ n := by
  induction n with
  | zero => exact Nat.le_refl _
  | succ n ih => rw [posK]; split <;> omega
theorem posK_after {l : List KV} {v : KV} {n i : Nat} (h : posK l v n ≤ i) (hi : i < n) : ltK v (l.getD i (0, [])) = true := by
  induction n with
  | zero => omega
  | succ n ih =>
    rw [posK] at h
    split at h
    · rename_i hc
      by_cases e : i = n
      · rw [e]; exact hc
      · exact ih h (by omega)
    · omega
theorem posK_at {l : List KV} {v : KV} {n : Nat} (h : 0 < posK l v n) : ltK v (l.getD (posK l v n - 1) (0, [])) = false := by
  induction n with
  | zero => simp [posK] at h
  | succ n ih =>
    rw [posK] at h ⊢
    split
    · rename_i hc
      rw [if_pos hc] at h
      exact ih h
    · rename_i hc
      simpa using hc
def putK (l : List KV) (v : KV) : List KV := l.take (posK l v l.length) ++ v :: l.drop (posK l v l.length)
theorem putK_perm (l : List KV) (v : KV) : (putK l v).Perm (v :: l) := by
  unfold putK
  refine List.perm_middle.trans ?_
  rw [List.take_append_drop]
def SortK (l : List KV) : Prop := l.Pairwise fun a b => ltK b a = false
theorem putK_sort {l : List KV} {v : KV} (h : SortK l) : SortK (putK l v) := by
  unfold putK SortK
  have hle := posK_le l v l.length
  have hP := List.pairwise_iff_getElem.1 h
  rw [List.pairwise_append]
  refine ⟨List.Pairwise.sublist (List.take_sublist _ _) h, ?_, ?_⟩
  · rw [List.pairwise_cons]
    refine ⟨?_, List.Pairwise.sublist (List.drop_sublist _ _) h⟩
    intro b hb
    obtain ⟨i, hi, rfl⟩ := List.getElem_of_mem hb
    rw [List.getElem_drop]
    simp only [List.length_drop] at hi
    have := posK_after (l := l) (v := v) (n := l.length) (i := posK l v l.length + i) (by omega) (by omega)
    rw [List.getD_eq_getElem?_getD, List.getElem?_eq_getElem (by omega)] at this
    exact ltK_asymm this
  · intro a ha b hb
    obtain ⟨i, hi, rfl⟩ := List.getElem_of_mem ha
    simp only [List.length_take] at hi
    rw [List.getElem_take]
    have h1 : ltK v l[i] = false := by
      have hk : 0 < posK l v l.length := by omega
      have h2 := posK_at (l := l) (v := v) (n := l.length) hk
      rw [List.getD_eq_getElem?_getD, List.getElem?_eq_getElem (by omega)] at h2
      by_cases e : i = posK l v l.length - 1
      · subst e; exact h2
      · exact ltK_ntrans h2 (hP i (posK l v l.length - 1) (by omega) (by omega) (by omega))
    rw [List.mem_cons] at hb
    rcases hb with rfl | hb
    · exact h1
    · obtain ⟨j, hj, rfl⟩ := List.getElem_of_mem hb
      rw [List.getElem_drop]
      simp only [List.length_drop] at hj
      exact hP i (posK l v l.length + j) (by omega) (by omega) (by omega)
/-- all that are put, one behind another -/
def putsK (l : List KV) : List KV → List KV
  | [] => l
  | v :: r => putsK (putK l v) r
theorem putsK_sort {l r : List KV} (h : SortK l) : SortK (putsK l r) := by
  induction r generalizing l with
  | nil => exact h
  | cons v r ih => exact ih (putK_sort h)
theorem putsK_perm {l r : List KV} : (putsK l r).Perm (l ++ r) := by
  induction r generalizing l with
  | nil => rw [List.append_nil]; exact List.Perm.refl _
  | cons v r ih =>
    refine (ih (l := putK l v)).trans ?_
    refine ((putK_perm l v).append_right r).trans ?_
    exact List.perm_middle.symm
theorem sortK_unique {a b : List KV} (ha : SortK a) (hb : SortK b) (h : a.Perm b) : a = b :=
  List.Perm.eq_of_pairwise (le := fun x y => ltK y x = false) (fun x y _ _ h1 h2 => ltK_total h2 h1) ha hb h
theorem sorted_puts {a r : List KV} (ha : SortK a) (h : a.Perm r) : a = putsK [] r :=
  sortK_unique ha (putsK_sort List.Pairwise.nil) (h.trans (show r.Perm (putsK [] r) from (putsK_perm (l := []) (r := r)).symm))

/-- all vectors that go on with a cell from lo to hi -/
def width (lo hi : Int) : Nat := (hi - lo + 1).toNat
def grownBy (lo : Int) (n : Nat) (v : List Int) : List (List Int) := (List.range n).map fun (k : Nat) => v ++ [lo + (k : Int)]
def boxStep (lo hi : Int) (rows : List (List Int)) : List (List Int) := rows.flatMap (grownBy lo (width lo hi))
theorem grownBy_succ (lo : Int) (n : Nat) (v : List Int) : grownBy lo (n + 1) v = grownBy lo n v ++ [v ++ [lo + (n : Int)]] := by
  unfold grownBy
  rw [List.range_succ, List.map_append]
  rfl
theorem grownBy_length (lo : Int) (n : Nat) (v : List Int) : (grownBy lo n v).length = n := by unfold grownBy; simp
theorem boxStep_length (lo hi : Int) (rows : List (List Int)) : (boxStep lo hi rows).length = rows.length * width lo hi := by
  unfold boxStep
  induction rows with
  | nil => simp
  | cons v r ih => rw [List.flatMap_cons, List.length_append, ih, grownBy_length, List.length_cons, Nat.succ_mul, Nat.add_comm]
/-- the rows of the first r vectors -/
def boxUpto (lo hi : Int) (rows : List (List Int)) (r : Nat) : List (List Int) := boxStep lo hi (rows.take r)
theorem boxUpto_zero (lo hi : Int) (rows : List (List Int)) : boxUpto lo hi rows 0 = [] := rfl
theorem boxUpto_succ {lo hi : Int} {rows : List (List Int)} {r : Nat} (h : r < rows.length) : boxUpto lo hi rows (r + 1) = boxUpto lo hi rows r ++ grownBy lo (width lo hi) (rows.getD r []) := by
  unfold boxUpto boxStep
  rw [List.take_add_one, List.getElem?_eq_getElem h, List.flatMap_append]
  simp [List.getD, h]
theorem boxUpto_all (lo hi : Int) (rows : List (List Int)) : boxUpto lo hi rows rows.length = boxStep lo hi rows := by unfold boxUpto; rw [List.take_length]
def boxF (low high : List Int) : Nat → List (List Int)
  | 0 => [[]]
  | i + 1 => boxStep (nth low i) (nth high i) (boxF low high i)
/-- there are never more than 4000 beginnings -/
def boxB (low high : List Int) : Nat → Bool
  | 0 => true
  | i + 1 => boxB low high i && decide ((boxF low high (i + 1)).length ≤ 4000)
theorem boxB_le {low high : List Int} {i n : Nat} (h : boxB low high n = true) (hi : i ≤ n) : boxB low high i = true := by
  induction n with
  | zero => obtain rfl : i = 0 := by omega
            rfl
  | succ n ih =>
    by_cases e : i = n + 1
    · rw [e]; exact h
    · simp only [boxB, Bool.and_eq_true] at h
      exact ih h.1 (by omega)
theorem boxB_no {low high : List Int} {i n : Nat} (h : boxB low high i = false) (hi : i ≤ n) : boxB low high n = false := by
  cases e : boxB low high n
  · rfl
  · rw [boxB_le e hi] at h; cases h
theorem boxF_len {low high : List Int} {i : Nat} {v : List Int} (h : v ∈ boxF low high i) : v.length = i := by
  induction i generalizing v with
  | zero => simp [boxF] at h; rw [h]; rfl
  | succ i ih =>
    rw [boxF, boxStep, List.mem_flatMap] at h
    obtain ⟨u, hu, hv⟩ := h
    unfold grownBy at hv
    rw [List.mem_map] at hv
    obtain ⟨k, _, rfl⟩ := hv
    simp [ih hu]
end Go.Proofs.YtfilbjbogggaoaaGreat

/- Plain: the value of a vector is the form's. -/
namespace Go.Proofs.YtfilbjbogggaoaaGreat
set_option linter.unusedSimpArgs false
set_option linter.unusedVariables false
open Go.RowKit

theorem dotTo_sum (a b : List Int) (K C i j n : Nat) : dotTo a b K C i j n = sumN n fun t => nth a (i * K + t) * nth b (t * C + j) := by
  induction n with
  | zero => rfl
  | succ n ih => rw [dotTo, sumN, ih]
theorem vOk_parts {r c : Int} {g x : List Int} (h : vOk r c g x = true) : isGram r c g = true ∧ (x.length : Int) = r ∧ mulOk 1 x.length x r c g = true ∧ mulOk (vR r c g x) (vC r c g x) (vP r c g x) x.length 1 x = true := by
  unfold vOk at h
  simp only [Bool.and_eq_true, beq_iff_eq] at h
  exact ⟨h.1.1.1, h.1.1.2, h.1.2, h.2⟩
theorem vVal_qf {R : Nat} {g x : List Int} (h : vOk R R g x = true) : vVal R R g x = qf R (fnOf R g) (nth x) := by
  obtain ⟨_, hx, h1, h2⟩ := vOk_parts h
  have hx' : x.length = R := by omega
  have e1 : vR R R g x = 1 := by unfold vR mulR; rw [h1]; rfl
  have e2 : vC R R g x = R := by unfold vC mulC; rw [h1]; rfl
  have e3 : vP R R g x = mulL 1 R R x g := by unfold vP mulV; rw [h1, if_pos rfl, hx']; simp
  have e4 : vQ R R g x = mulL 1 R 1 (mulL 1 R R x g) x := by unfold vQ mulV; rw [h2, if_pos rfl, e1, e2, e3]; simp
  unfold vVal ifN
  rw [h, if_pos rfl, e4]
  have t1 : nth (mulL 1 R 1 (mulL 1 R R x g) x) 0 = dotTo (mulL 1 R R x g) x R 1 0 0 R := by
    have := tab_nth (R := 1) (C := 1) (i := 0) (j := 0) (fun i j => dotTo (mulL 1 R R x g) x R 1 i j R) (by omega) (by omega)
    simpa [mulL] using this
  rw [t1, dotTo_sum]
  unfold qf
  rw [sumN_swap]
  apply sumN_congr
  intro j hj
  have t2 : nth (mulL 1 R R x g) (0 * R + j) = dotTo x g R R 0 j R := tab_nth (fun i j => dotTo x g R R i j R) (by omega) hj
  rw [t2, dotTo_sum, Int.mul_comm, ← sumN_mul]
  apply sumN_congr
  intro i hi
  unfold fnOf
  rw [Nat.zero_mul, Nat.zero_add, Nat.mul_one, Nat.add_zero, Int.mul_comm]
end Go.Proofs.YtfilbjbogggaoaaGreat

/- Plain: the value of a vector is the form's; a definite form is positive; the short vectors, both ways. -/
namespace Go.Proofs.YtfilbjbogggaoaaGreat
set_option linter.unusedSimpArgs false
set_option linter.unusedVariables false
open Go.RowKit

theorem val_pos {r c : Int} {g x : List Int} (hd : isDef r c g = true) (h : vOk r c g x = true) (hx : ∃ i, i < x.length ∧ nth x i ≠ 0) : 1 ≤ vVal r c g x := by
  obtain ⟨_, R, rfl, rfl, hR, hlen, _⟩ := isSq_nat (isDef_sq hd)
  obtain ⟨hg, hxl, _, _⟩ := vOk_parts h
  obtain ⟨s, hs, hp⟩ := isDef_minors hd
  rw [vVal_qf h]
  have hsym : symB R g = true := by
    unfold isGram at hg
    simp only [Bool.and_eq_true, Int.toNat_natCast] at hg
    exact hg.2
  obtain ⟨i, hi, hv⟩ := hx
  have := sylvester hlen hsym hs hp (nth x) ⟨i, by omega, hv⟩
  omega

/-- the first cell that is not 0 is positive -/
def posV (v : List Int) : Bool := decide (fnz v < v.length) && decide (0 < nth v (fnz v))
theorem posV_at {v : List Int} {i : Nat} (h : ∀ t, t < i → nth v t = 0) (hi : i < v.length) (hne : nth v i ≠ 0) : posV v = decide (0 < nth v i) := by
  have := fnz_uniq h (fun _ => hne) (Nat.le_of_lt hi)
  unfold posV
  rw [← this]
  simp [hi]
theorem posV_zero {v : List Int} (h : ∀ t, t < v.length → nth v t = 0) : posV v = false := by
  have := fnz_uniq h (fun h => by omega) (Nat.le_refl _)
  unfold posV
  rw [← this]
  simp
theorem posV_fcI (v : List Int) : posV v = (decide (0 ≤ fcI v) && decide (0 < nth v (fcI v).toNat)) := by
  unfold posV fcI
  have := fnz_le v
  by_cases h : fnz v = v.length
  · rw [if_pos h]; simp [h]
  · rw [if_neg h, Int.toNat_natCast]
    have h1 : fnz v < v.length := by omega
    simp [h1]
theorem posV_some {v : List Int} (h : posV v = true) : ∃ i, i < v.length ∧ nth v i ≠ 0 := by
  unfold posV at h
  simp only [Bool.and_eq_true, decide_eq_true_eq] at h
  exact ⟨fnz v, h.1, by omega⟩
/-- what a vector is in the list: nothing, or itself with its value -/
def shK (g : MX) (b : Int) (v : List Int) : Option KV := if vOk g.r g.c g.l v && decide (vVal g.r g.c g.l v ≤ b) && posV v then some (vVal g.r g.c g.l v, v) else none
def shL (g : MX) (b : Int) (rows : List (List Int)) : List KV := rows.filterMap (shK g b)
def shU (g : MX) (b : Int) (rows : List (List Int)) (i : Nat) : List KV := putsK [] (shL g b (rows.take i))
theorem shL_zero (g : MX) (b : Int) (rows : List (List Int)) : shL g b (rows.take 0) = [] := rfl
theorem shL_succ {g : MX} {b : Int} {rows : List (List Int)} {i : Nat} (h : i < rows.length) : shL g b (rows.take (i + 1)) = shL g b (rows.take i) ++ (shK g b (rows.getD i [])).toList := by
  unfold shL
  rw [List.take_add_one, List.getElem?_eq_getElem h, List.filterMap_append]
  congr 1
  have : rows.getD i [] = rows[i] := by simp [List.getD, h]
  rw [this]
  cases e : shK g b rows[i] <;> simp [e]
theorem shL_all (g : MX) (b : Int) (rows : List (List Int)) : shL g b (rows.take rows.length) = shL g b rows := by rw [List.take_length]
theorem putsK_append (l r s : List KV) : putsK l (r ++ s) = putsK (putsK l r) s := by
  induction r generalizing l with
  | nil => rfl
  | cons v r ih => exact ih (putK l v)
theorem shU_zero (g : MX) (b : Int) (rows : List (List Int)) : shU g b rows 0 = [] := rfl
theorem shU_none {g : MX} {b : Int} {rows : List (List Int)} {i : Nat} (h : i < rows.length) (hk : shK g b (rows.getD i []) = none) : shU g b rows (i + 1) = shU g b rows i := by
  unfold shU
  rw [shL_succ h, hk]
  simp
theorem shU_some {g : MX} {b : Int} {rows : List (List Int)} {i : Nat} {k : KV} (h : i < rows.length) (hk : shK g b (rows.getD i []) = some k) : shU g b rows (i + 1) = putK (shU g b rows i) k := by
  unfold shU
  rw [shL_succ h, hk, putsK_append]
  rfl
/-- the program's test -/
theorem shK_pos {g : MX} {b : Int} {v : List Int} (hd : isDef g.r g.c g.l = true) : shK g b v = if posV v = true then (if (vOk g.r g.c g.l v && (decide (1 ≤ vVal g.r g.c g.l v) && decide (vVal g.r g.c g.l v ≤ b))) = true then some (vVal g.r g.c g.l v, v) else none) else none := by
  unfold shK
  cases hp : posV v
  · simp
  · cases ho : vOk g.r g.c g.l v
    · simp
    · have := val_pos hd ho (posV_some hp)
      simp [this]
theorem boxO_def {g : MX} {b : Int} {s : List Int} (h : boxO g b = some s) : isDef g.r g.c g.l = true := by
  unfold boxO at h
  split at h
  · rename_i hh
    simp only [Bool.and_eq_true] at hh
    exact hh.2.1
  · cases h
def negL (l : List Int) : List Int := l.map fun x => -x
def shvO (g : MX) (b : Int) : Option (List KV) :=
  (boxO g b).bind fun s => if boxB (negL s) s s.length then some (putsK [] (shL g b (boxF (negL s) s s.length))) else none
end Go.Proofs.YtfilbjbogggaoaaGreat

/- Plain: the least value, the shortest vectors, how many there are, the counts. -/
namespace Go.Proofs.YtfilbjbogggaoaaGreat
set_option linter.unusedSimpArgs false
set_option linter.unusedVariables false
open Go.RowKit

theorem shK_some {g : MX} {b : Int} {v : List Int} {k : KV} (h : shK g b v = some k) : k = (vVal g.r g.c g.l v, v) ∧ vOk g.r g.c g.l v = true ∧ vVal g.r g.c g.l v ≤ b ∧ posV v = true := by
  unfold shK at h
  split at h
  · rename_i hh
    simp only [Bool.and_eq_true, decide_eq_true_eq] at hh
    cases h
    exact ⟨rfl, hh.1.1, hh.1.2, hh.2⟩
  · cases h
theorem shL_mem {g : MX} {b : Int} {rows : List (List Int)} {k : KV} (h : k ∈ shL g b rows) : k.2 ∈ rows ∧ k.1 = vVal g.r g.c g.l k.2 ∧ vOk g.r g.c g.l k.2 = true ∧ k.1 ≤ b ∧ posV k.2 = true := by
  unfold shL at h
  obtain ⟨v, hv, hk⟩ := List.mem_filterMap.1 h
  obtain ⟨rfl, h1, h2, h3⟩ := shK_some hk
  exact ⟨hv, rfl, h1, h2, h3⟩
theorem shvO_mem {g : MX} {b : Int} {s : List KV} (h : shvO g b = some s) {k : KV} (hk : k ∈ s) : k.1 = vVal g.r g.c g.l k.2 ∧ vOk g.r g.c g.l k.2 = true ∧ 1 ≤ k.1 ∧ k.1 ≤ b := by
  unfold shvO at h
  obtain ⟨x, h1, h2⟩ := Option.bind_eq_some_iff.1 h
  split at h2
  · cases h2
    have hm : k ∈ shL g b (boxF (negL x) x x.length) := by simpa using (putsK_perm (l := []) (r := shL g b (boxF (negL x) x x.length))).mem_iff.1 hk
    obtain ⟨_, h3, h4, h5, h6⟩ := shL_mem hm
    refine ⟨h3, h4, ?_, h5⟩
    rw [h3]
    exact val_pos (boxO_def h1) h4 (posV_some h6)
  · cases h2
def rowsK (s : List KV) : List (List Int) := s.map fun k => k.2
def oRows (o : Option (List KV)) : List (List Int) := rowsK (o.getD [])
/-- the least cell of the diagonal -/
def mnD (R : Nat) (l : List Int) : Nat → Int
  | 0 => nth l 0
  | i + 1 => min (mnD R l i) (nth l (i * R + i))
theorem mnD_one (R : Nat) (l : List Int) : mnD R l 1 = nth l 0 := by
  rw [mnD, mnD, Nat.zero_mul, Nat.zero_add]; omega
def minL (g : MX) (s : List KV) : Option Int := match s with
  | [] => none
  | k :: _ => some (vVal g.r g.c g.l k.2)
def minO (g : MX) : Option Int := if isDef g.r g.c g.l && (g.r != 0) then (shvO g (mnD g.r.toNat g.l g.r.toNat)).bind (minL g) else none
def shtO (g : MX) : Option (List KV) := (minO g).bind (shvO g)
def kisO (g : MX) : Option Int := (shtO g).map fun s => 2 * (s.length : Int)
/-- the counts: of 0 one, two for each vector -/
def thF (n : Nat) (s : List KV) : Nat → List Int
  | 0 => (List.replicate (n + 1) 0).set 0 1
  | i + 1 => let k := ((s.getD i (0, [])).1).toNat; (thF n s i).set k (nth (thF n s i) k + 2)
theorem thF_length (n : Nat) (s : List KV) (i : Nat) : (thF n s i).length = n + 1 := by
  induction i with
  | zero => simp [thF]
  | succ i ih => simp [thF, ih]
def thO (g : MX) (b : Int) : Option (List Int) := (shvO g b).map fun s => thF b.toNat s s.length
theorem boxO_bound {g : MX} {b : Int} {s : List Int} (h : boxO g b = some s) : 0 ≤ b ∧ b ≤ 10000 := by
  unfold boxO at h
  split at h
  · rename_i hh
    simp only [Bool.and_eq_true] at hh
    have := hh.2.2
    simp only [inB_iff] at this
    exact this
  · cases h
end Go.Proofs.YtfilbjbogggaoaaGreat
