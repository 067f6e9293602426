/- Contracts and lemmas, put together. -/
import Derived.Shelf.SlSortCmp.NoneTotal
import Derived.Test.YtbfkpfdkndnhkaaGreatPkCS
import Derived.Test.YtbfkpfdkndnhkaaGreatPkVS
import Derived.Test.YtbfkpfdkndnhkaaGreatPkXF
/- The cells of the box of a form; a row of owned rows. -/
namespace Go.Proofs.YtbfkpfdkndnhkaaGreat
set_option linter.unusedSimpArgs false
set_option linter.unusedVariables false
open Go.RowKit

theorem rootN_bd {n : Nat} (h : n ≤ 400000000) : rootN n ≤ 20000 := by
  have h1 := (rootN_spec n).1
  rcases Nat.lt_or_ge 20000 (rootN n) with h2 | h2
  · have := Nat.mul_le_mul (show 20001 ≤ rootN n by omega) (show 20001 ≤ rootN n by omega)
    omega
  · exact h2
theorem bxP_cells {a : List Int} {R : Nat} {d b : Int} {k : Nat} {s : List Int} (h : bxP a R d b k = some s) : ∀ i, i < k → 0 ≤ nth s i ∧ nth s i ≤ 20000 := by
  induction k generalizing s with
  | zero => intro i hi; omega
  | succ k ih =>
    have hl := bxP_length h
    rw [bxP] at h
    obtain ⟨s', h1, h2⟩ := Option.bind_eq_some_iff.1 h
    have hl' := bxP_length h1
    split at h2
    · rename_i hn
      cases h2
      intro i hi
      by_cases e : i = k
      · subst e
        rw [show nth (s' ++ [rootI ((b * nth a (i * R + i)).tdiv d)]) i = rootI ((b * nth a (i * R + i)).tdiv d) from by simp [nth, ← hl']]
        have hx := (isNum_iff _).1 hn
        have h3 : ((b * nth a (i * R + i)).tdiv d).natAbs ≤ (b * nth a (i * R + i)).natAbs := by rw [Int.natAbs_tdiv]; exact Nat.div_le_self _ _
        have h4 : ((b * nth a (i * R + i)).tdiv d).toNat ≤ 400000000 := by omega
        have := rootN_bd h4
        unfold rootI
        omega
      · rw [show nth (s' ++ [rootI ((b * nth a (k * R + k)).tdiv d)]) i = nth s' i from by (have h5 : i < s'.length := by omega); unfold nth; rw [List.getD_eq_getElem?_getD, List.getElem?_append_left h5, ← List.getD_eq_getElem?_getD]]
        exact ih h1 i (by omega)
    · cases h2
theorem boxO_cells {m : MX} {b : Int} {s : List Int} (h : boxO m b = some s) : ∀ i, i < s.length → 0 ≤ nth s i ∧ nth s i ≤ 20000 := by
  unfold boxO at h
  split at h
  · rw [bxP_length h]; exact bxP_cells h
  · cases h
theorem rowsD_mem {L : List (List Int)} {i : Nat} (hi : i < L.length) : L.getD i [] ∈ L := by simp [List.getD, hi]
theorem RowsO.cellAt {w : World} {B n c : Nat} {A : Option Addr} {vs : List Value} {L : List (List Int)} (h : RowsO w B (.slice A n c) vs L) {j : Nat} (hj : j < L.length) :
    ∃ b off A' c', A = some ⟨b, off, none⟩ ∧ b < w.heap.size ∧ w.cell? ⟨b, off + j, none⟩ = some (.slice A' (L.getD j []).length c') ∧ Rd w A' (L.getD j []) ∧ vs.getD j (.slice none 0 0) = .slice A' (L.getD j []).length c' ∧ Own w B (.slice A' (L.getD j []).length c') (L.getD j []) := by
  have hvl : j < vs.length := by rw [h.len]; exact hj
  have hu : vs[j]? = some (vs.getD j (.slice none 0 0)) := by simp [List.getD, hvl]
  have hL : L[j]? = some (L.getD j []) := by simp [List.getD, hj]
  have how := h.row j _ _ hu hL
  obtain ⟨A', c', e, hr, hc⟩ := how.val
  obtain ⟨b, off, rfl, hbs, hcell⟩ := h.own.rd j _ hu
  rw [e] at how hcell
  exact ⟨b, off, A', c', rfl, hbs, hcell, hr, e, how⟩

end Go.Proofs.YtbfkpfdkndnhkaaGreat

/- Plain: a library sort of numbers of a list by their keys gives the list of the insertion. -/
namespace Go.Proofs.YtbfkpfdkndnhkaaGreat
set_option linter.unusedSimpArgs false
set_option linter.unusedVariables false
open Go.RowKit Go.Sort Go.Shelf

/-- which of two vectors comes first: -1, 0, 1 -/
def cmpV (x y : List Int) : Int := if lexB x y then -1 else if lexB y x then 1 else 0
theorem cmpV_neg (x y : List Int) : decide (cmpV x y < 0) = lexB x y := by
  unfold cmpV
  cases h : lexB x y
  · rw [if_neg (by simp)]
    split <;> simp
  · simp
def cmpK (a b : KV) : Int := if a.1 = b.1 then cmpV a.2 b.2 else a.1 - b.1
theorem cmpK_neg (a b : KV) : decide (cmpK a b < 0) = ltK a b := by
  unfold cmpK ltK
  by_cases h : a.1 = b.1
  · rw [if_pos h, cmpV_neg]
    simp [h]
  · rw [if_neg h]
    by_cases h2 : a.1 < b.1
    · have : a.1 - b.1 < 0 := by omega
      simp [h2, this]
    · have : ¬ a.1 - b.1 < 0 := by omega
      simp [h, h2, this]
def cfK (f : Nat → KV) (i j : Nat) : Int := cmpK (f i) (f j)
theorem ltOf_cfK (f : Nat → KV) (i j : Nat) : ltOf (cfK f) i j = ltK (f i) (f j) := cmpK_neg _ _
theorem swo_cfK (f : Nat → KV) : SWO (ltOf (cfK f)) where
  irrefl x := by rw [ltOf_cfK]; exact ltK_irrefl _
  trans x y z h1 h2 := by rw [ltOf_cfK] at *; exact ltK_trans h1 h2
  ntrans x y z h1 h2 := by rw [ltOf_cfK] at *; exact ltK_ntrans h1 h2
theorem sort_keys {f : Nat → KV} {d d' : Array Nat} (hp : PermIn 0 d.size d d') (hs : SortedIn (ltOf (cfK f)) 0 d.size d') : d'.size = d.size ∧ d'.toList.Perm d.toList ∧ d'.toList.map f = putsK [] (d.toList.map f) := by
  obtain ⟨hsz, _, hperm⟩ := hp
  have e1 : d'.extract 0 d.size = d' := by rw [← hsz]; exact Array.extract_size
  rw [e1, Array.extract_size] at hperm
  refine ⟨hsz, hperm, sorted_puts ?_ (hperm.map f)⟩
  unfold SortK
  rw [List.pairwise_map, List.pairwise_iff_getElem]
  intro i j hi hj hij
  have hi' : i < d'.size := by simpa using hi
  have hj' : j < d'.size := by simpa using hj
  have := hs i j (Nat.zero_le _) hij (by omega)
  rw [ltOf_cfK, getElem!_pos d' j hj', getElem!_pos d' i hi'] at this
  simpa using this
end Go.Proofs.YtbfkpfdkndnhkaaGreat

/- Slices of vectors with values: owned, read, and as the library's sort holds them. -/
namespace Go.Proofs.YtbfkpfdkndnhkaaGreat
set_option linter.unusedSimpArgs false
set_option linter.unusedVariables false
open Go.RowKit

abbrev VN := Value × Int
def flatS : List VN → List Value
  | [] => []
  | q :: l => q.1 :: .int .i64 q.2 :: flatS l
theorem flatS_length (l : List VN) : (flatS l).length = l.length * 2 := by
  induction l with
  | nil => rfl
  | cons q l ih => simp [flatS, ih]; omega
theorem flatS_append (a b : List VN) : flatS (a ++ b) = flatS a ++ flatS b := by
  induction a with
  | nil => rfl
  | cons q a ih => simp [flatS, ih]
def nthS (l : List VN) (i : Nat) : VN := l.getD i (.slice none 0 0, 0)
theorem nthS_get (l : List VN) (i : Nat) (h : i < l.length) : nthS l i = l[i] := by simp [nthS, h]
theorem flatS_get (l : List VN) (i : Nat) (h : i < l.length) : (flatS l)[i * 2]? = some (nthS l i).1 ∧ (flatS l)[i * 2 + 1]? = some (.int .i64 (nthS l i).2) := by
  induction l generalizing i with
  | nil => simp at h
  | cons q l ih =>
    cases i with
    | zero => exact ⟨rfl, rfl⟩
    | succ i =>
      rw [show nthS (q :: l) (i + 1) = nthS l i from by simp [nthS], show (i + 1) * 2 = i * 2 + 2 by omega]
      have := ih i (by simp at h; omega)
      simpa [flatS] using this
def OwnS (w : World) (B : Nat) (v : Value) (l : List VN) : Prop := w.ownsRow B 43 2 v l.length (flatS l)
section
variable {w w' : World} {B B' : Nat} {v : Value} {l : List VN}
theorem OwnS.grows (h : OwnS w B v l) (k : Grows w w') : OwnS w' B v l := ownsRow_grows h k
theorem OwnS.less (h : OwnS w B v l) (hB : B' ≤ B) : OwnS w B' v l := ownsRow_less h hB
theorem OwnS.new_ (w : World) {B b : Nat} (hb : w.heap.size = b) (hB : B ≤ b) : OwnS (w.alloc (.cells #[] 43)) B (.slice (some ⟨b, 0, none⟩) 0 0) [] := by
  subst hb
  exact World.ownsRow_lit (w := w) (base := B) (e := 43) (size := 2) #[] 0 hB (by simp [maxLen]) (by simp)
theorem OwnS.form (h : OwnS w B v l) (hl : 0 < l.length) : ∃ g cap, v = .slice (some ⟨g, 0, none⟩) l.length cap ∧ B ≤ g ∧ g < w.heap.size := ownsRow_form h hl
theorem OwnS.val (h : OwnS w B v l) : ∃ A cap, v = .slice A l.length cap := by
  rcases h.2 with ⟨rfl, h0⟩ | ⟨g, cap, cur, rfl, _⟩
  · exact ⟨none, 0, by rw [h0]⟩
  · exact ⟨_, cap, rfl⟩
end
theorem info_valued : (Tryz.prog.info? 43).map (fun i => (i.zero, i.size, i.bytes)) = some (some (.agg #[.slice none 0 0, .int .i64 0]), 2, 32) := by kernel_rfl
/-- list = append(list, valued{u, n}) -/
theorem wpList_appS1 {ops : Array Oper} {rest : List Oper} {o : Oper} {a : Act} {Q : Exit → Act → World → Prop} (hgd : o.guard = none) (s x : Operand)
    (ho : o.op = .call { callee := .builtin .append, args := #[s, x], argTypes := #[40, 40] }) (w : World) (u : Value) (z : Int) (hu1 : u.oneCell' = true)
    (B : Nat) (v : Value) (l : List VN) (hs : a.eval s = v) (hown : OwnS w B v l) (hx : a.eval x = .slice (some ⟨w.heap.size, 0, none⟩) 1 1)
    (hl : l.length + 1 ≤ 1099511627776) (hB : B ≤ w.heap.size)
    (h : ∀ v' w', OwnS w' B v' (l ++ [(u, z)]) → w.grownBy w' v.ownBlock → (v'.ownBlock = v.ownBlock ∨ ∃ g, v'.ownBlock = some g ∧ w.heap.size ≤ g) → wpList Tryz.prog ops Q rest (a.put o.dst v') w') :
    wpList Tryz.prog ops Q (o :: rest) a (w.alloc (.cells #[u, .int .i64 z] 43)) := by
  obtain ⟨i0, hi0, hz0, hz1, hz2⟩ := info_parts info_valued
  obtain ⟨v', w', hrun, h2, h3, _, h5⟩ := run_append_own_at (P := Tryz.prog) (w.alloc (.cells #[u, .int .i64 z] 43)) B 40 o.type 43 i0 (.agg #[.slice none 0 0, .int .i64 0]) 2 32 Tryz.underlying40 hi0 hz0 hz1 hz2 rfl (by omega) v l.length (flatS l) (ownsRow_grows hown ((Below.refl _ _).alloc (Nat.le_refl _) _))
    ⟨w.heap.size, 0, none⟩ 1 1 [u, .int .i64 z] (by simp) (by
      intro j y hy
      match j with
      | 0 => simp at hy; subst hy; simp [Addr.add, go_sem]
      | 1 => simp at hy; subst hy; simp [Addr.add, go_sem]
      | j + 2 => simp at hy) (by intro y hy; simp at hy; rcases hy with rfl | rfl; exact hu1; rfl) (by simp [maxLen]; omega) (by omega) (by simp; omega)
  refine wpList_plain hgd fun _ hK => ?_
  unfold Oper.wp execOp
  simp only [ho, resolve, invoke, builtin, Sem.run_bind, Sem.run_pure, Result.andThen_ok, List.map_toArray, List.map_cons, List.map_nil, hs, hx, hrun]
  refine hK _ _ (h v' w' ?_ ?_ ?_)
  · unfold OwnS
    rw [List.length_append, flatS_append]
    exact h2
  · exact ⟨h3.os, h3.tape, h3.output, Nat.le_trans (by simp) h3.size, fun k hk hne => (h3.block k (by simp; omega) hne).trans (Below.heap_alloc w _ k hk)⟩
  · rcases h5 with h5 | h5
    · exact .inl h5
    · exact .inr ⟨_, h5, by simp⟩

/-! ### as the sort holds it: the numbers of the list, in order -/
open Go.Sort Go.Shelf
def encS (l : List VN) (i : Nat) : List Value := [(nthS l i).1, .int .i64 (nthS l i).2]
theorem OwnS.holds {w : World} {B g cap : Nat} {l : List VN} (h : OwnS w B (.slice (some ⟨g, 0, none⟩) l.length cap) l) : HoldsK (encS l) 2 w g 0 (Array.range l.length) := by
  intro j hj
  rw [size_flatK, Array.size_range] at hj
  have hd : j / 2 < l.length := by omega
  have hc := World.ownsRow.cellAt (w := w) (base := B) (e := 43) (size := 2) (g := g) (n := l.length) (cap := cap) (xs := flatS l) h j (by omega)
  rw [get_flatK _ _ _ _ (by rw [Array.size_range]; exact hj), Nat.zero_add]
  refine ⟨?_, ownsRow_free h j⟩
  rw [hc]
  have e : (Array.range l.length)[j / 2]! = j / 2 := by rw [getElem!_pos _ _ (by rw [Array.size_range]; exact hd)]; simp
  rw [e]
  obtain ⟨h1, h2⟩ := flatS_get l (j / 2) hd
  rcases Nat.mod_two_eq_zero_or_one j with hm | hm
  · rw [show j / 2 * 2 = j by omega] at h1
    rw [h1, hm]; rfl
  · rw [show j / 2 * 2 + 1 = j by omega] at h2
    rw [h2, hm]; rfl
theorem sortWorld_grown {enc : Nat → List Value} {w : World} {g : Nat} {m : Nat} {d : Array Nat} {os : Array Obj} : w.grownBy (sortWorldK enc 2 w g 0 m d os) (some g) := by
  refine ⟨rfl, rfl, rfl, ?_, fun i hi hne => ?_⟩
  · unfold sortWorldK; rw [size_grow, size_putRowK]; show w.heap.size ≤ w.heap.size + _; omega
  · have hig : i ≠ g := fun e => hne (by rw [e])
    unfold sortWorldK Sort.grow putRowK putRow mapBlock
    simp only
    rw [Array.getElem?_append_left (by simpa using hi)]
    simp only [Sort.ahead]
    rw [Array.getElem?_modify, if_neg (fun e => hig e.symm)]
end Go.Proofs.YtbfkpfdkndnhkaaGreat

/- Contracts: cmp.Compare and slices.Compare at integers, the closure of the sort. -/
namespace Go.Proofs.YtbfkpfdkndnhkaaGreat
set_option linter.unusedSimpArgs false
set_option linter.unusedVariables false
open Go.RowKit

section
set_option maxHeartbeats 2000000
theorem isNaN_c (x : Int) (w : World) : Calls Tryz.prog 109 #[.int .i64 x] w fun e w' => e = .returned (.bool false) ∧ w = w' := by
  have hx : (x != x) = false := by simp
  go_enter Tryz.func109, Tryz.ntmps109
  go_wp2_with fail
  go_ret
  exact ⟨by simp, rfl⟩
def cmpI (x y : Int) : Int := if x < y then -1 else if y < x then 1 else 0
theorem cmpI_c (x y : Int) (w : World) : Calls Tryz.prog 82 #[.int .i64 x, .int .i64 y] w fun e w' => e = .returned (.int .i64 (cmpI x y)) ∧ w = w' := by
  obtain ⟨r, hr⟩ : ∃ r, r = cmpI x y := ⟨_, rfl⟩
  rw [← hr]
  unfold cmpI at hr
  have HX := Lib.hid fun W => isNaN_c x W
  have HY := Lib.hid fun W => isNaN_c y W
  by_cases h1 : x < y
  · rw [if_pos h1] at hr
    have HR := Lib.hid hr
    clear hr
    go_enter Tryz.func82, Tryz.ntmps82
    go_wp2_with (first | (go_at_call 109; (with_reducible refine (HX.out _).mono ?_); rintro e w' ⟨rfl, rfl⟩) | (go_at_call 109; (with_reducible refine (HY.out _).mono ?_); rintro e w' ⟨rfl, rfl⟩))
    go_ret
    exact ⟨by (rw [HR.out]; try rfl), rfl⟩
  · rw [if_neg h1] at hr
    by_cases h2 : y < x
    · rw [if_pos h2] at hr
      have HR := Lib.hid hr
      clear hr
      go_enter Tryz.func82, Tryz.ntmps82
      go_wp2_with (first | (go_at_call 109; (with_reducible refine (HX.out _).mono ?_); rintro e w' ⟨rfl, rfl⟩) | (go_at_call 109; (with_reducible refine (HY.out _).mono ?_); rintro e w' ⟨rfl, rfl⟩))
      go_ret
      exact ⟨by (rw [HR.out]; try rfl), rfl⟩
    · rw [if_neg h2] at hr
      have HR := Lib.hid hr
      clear hr
      go_enter Tryz.func82, Tryz.ntmps82
      go_wp2_with (first | (go_at_call 109; (with_reducible refine (HX.out _).mono ?_); rintro e w' ⟨rfl, rfl⟩) | (go_at_call 109; (with_reducible refine (HY.out _).mono ?_); rintro e w' ⟨rfl, rfl⟩))
      go_ret
      exact ⟨by (rw [HR.out]; try rfl), rfl⟩
theorem cmpV_less {x y : List Int} {i : Nat} (hx : i < x.length) (hy : i < y.length) (h : ∀ t, t < i → nth x t = nth y t) (hne : nth x i ≠ nth y i) : cmpV x y = cmpI (nth x i) (nth y i) := by
  unfold cmpV cmpI
  rw [lexB_at hx hy h hne, lexB_at hy hx (fun t ht => (h t ht).symm) (fun e => hne e.symm)]
  simp only [decide_eq_true_eq]
theorem lexB_short {x y : List Int} (h : ∀ t, t < x.length → nth x t = nth y t) (hl : x.length ≤ y.length) : lexB x y = decide (x.length < y.length) ∧ lexB y x = false := by
  induction x generalizing y with
  | nil => cases y with
    | nil => exact ⟨rfl, rfl⟩
    | cons b y => exact ⟨by simp [lexB], rfl⟩
  | cons a x ih => cases y with
    | nil => simp at hl
    | cons b y =>
      have h0 : a = b := h 0 (by simp)
      obtain ⟨h1, h2⟩ := ih (y := y) (fun t ht => h (t + 1) (by simpa using ht)) (by simpa using hl)
      subst h0
      simp [lexB, h1, h2]
theorem cmpV_end {x y : List Int} (h : ∀ t, t < x.length → nth x t = nth y t) (hl : x.length ≤ y.length) : cmpV x y = if x.length < y.length then -1 else 0 := by
  obtain ⟨h1, h2⟩ := lexB_short h hl
  unfold cmpV
  rw [h1, h2]
  simp
theorem cmpV_long {x y : List Int} (h : ∀ t, t < y.length → nth x t = nth y t) (hl : y.length < x.length) : cmpV x y = 1 := by
  obtain ⟨h1, h2⟩ := lexB_short (x := y) (y := x) (fun t ht => (h t ht).symm) (Nat.le_of_lt hl)
  unfold cmpV
  rw [h1, h2]
  simp [hl]
theorem cmpV_c (A B : Option Addr) (x y : List Int) (n m ca cb : Nat) (w : World) (hn : x.length = n) (hm : y.length = m) (ha : Rd w A x) (hb : Rd w B y) (hl : n ≤ 1099511627776) (hl2 : m ≤ 1099511627776) :
    Calls Tryz.prog 45 #[.slice A n ca, .slice B m cb] w fun e w' => e = .returned (.int .i64 (cmpV x y)) ∧ w = w' := by
  subst hn hm
  obtain ⟨RES, hRES⟩ : ∃ r, r = cmpV x y := ⟨_, rfl⟩
  rw [← hRES]
  have HR := Lib.hid hRES
  clear hRES
  go_enter Tryz.func45, Tryz.ntmps45
  go_wp2_with fail
  go_loop [11] (fun i => ∃ I : Nat, i = .int .i64 I ∧ I ≤ x.length ∧ I ≤ y.length ∧ ∀ t, t < I → nth x t = nth y t) (fun i => x.length - (intOf i).toNat)
  case atStart => exact ⟨0, rfl, Nat.zero_le _, Nat.zero_le _, fun t h => by omega⟩
  case round =>
    obtain ⟨I, rfl, hI, hI2, hz⟩ := hrel
    have HZ := Lib.hid hz
    clear hz
    by_cases hlt : I < x.length
    · obtain ⟨b, o, rfl, hbs, hc⟩ := ha.at_ I hlt
      have i1 : (I : Int) < (x.length : Int) := by omega
      by_cases hlt2 : I < y.length
      · obtain ⟨b', o', rfl, hbs', hc'⟩ := hb.at_ I hlt2
        have i2 : (I : Int) < (y.length : Int) := by omega
        have i3 : ¬ (y.length : Int) ≤ (I : Int) := by omega
        have CI := Lib.hid fun W => cmpI_c (nth x I) (nth y I) W
        by_cases hx : nth x I = nth y I
        · have HX := Lib.hid hx
          have e0 : cmpI (nth x I) (nth y I) = 0 := by unfold cmpI; rw [hx]; simp
          rw [e0] at CI
          clear hx e0
          go_wp2_with fail
          refine (CI.out _).mono ?_; rintro e w' ⟨rfl, rfl⟩
          go_wp2_with fail
          go_round
          case rel => exact ⟨I + 1, by go_num, by omega, by omega, fun t ht => by (by_cases e : t = I); (· subst e; exact HX.out); (· exact HZ.out t (by omega))⟩
          case measure => simp [intOf]; omega
        · have HX := Lib.hid (cmpV_less hlt hlt2 HZ.out hx)
          have e0 : cmpI (nth x I) (nth y I) ≠ 0 := by unfold cmpI; (repeat' split) <;> omega
          have e1 : (cmpI (nth x I) (nth y I) != 0) = true := by simpa using e0
          obtain ⟨z, hz⟩ : ∃ z, z = cmpI (nth x I) (nth y I) := ⟨_, rfl⟩
          rw [← hz] at CI HX e0 e1
          clear hx hz
          go_wp2_with fail
          refine (CI.out _).mono ?_; rintro e w' ⟨rfl, rfl⟩
          go_wp2_with fail
          go_ret
          exact ⟨by (rw [HR.out, HX.out]; try rfl), rfl⟩
      · have i3 : (y.length : Int) ≤ (I : Int) := by omega
        have HX := Lib.hid (cmpV_long (x := x) (y := y) (fun t ht => HZ.out t (by omega)) (by omega))
        go_wp2_with fail
        go_ret
        exact ⟨by (rw [HR.out, HX.out]; try rfl), rfl⟩
    · obtain rfl : I = x.length := by omega
      have HX := Lib.hid (cmpV_end (x := x) (y := y) HZ.out hI2)
      by_cases hlt2 : x.length < y.length
      · have i3 : (x.length : Int) < (y.length : Int) := by omega
        have HY := Lib.hid (HX.out.trans (if_pos hlt2))
        go_wp2_with fail
        go_ret
        exact ⟨by (rw [HR.out, HY.out]; try rfl), rfl⟩
      · have i3 : ¬ (x.length : Int) < (y.length : Int) := by omega
        have HY := Lib.hid (HX.out.trans (if_neg hlt2))
        go_wp2_with fail
        go_ret
        exact ⟨by (rw [HR.out, HY.out]; try rfl), rfl⟩
theorem byValue_c (u v : Value) (a b : Int) (x y : List Int) (W : World) (hu : RSI W u x) (hv : RSI W v y) (ha : -1000000 ≤ a ∧ a ≤ 1000000) (hb : -1000000 ≤ b ∧ b ≤ 1000000) (hx : x.length ≤ 1024) (hy : y.length ≤ 1024) :
    Calls Tryz.prog 44 #[.agg #[u, .int .i64 a], .agg #[v, .int .i64 b]] W fun e w' => e = .returned (.int .i64 (cmpK (a, x) (b, y))) ∧ ∃ q os', w' = Sort.grow (W.drewN q) os' := by
  obtain ⟨A, c, rfl, hra, _⟩ := hu
  obtain ⟨B, d, rfl, hrb, _⟩ := hv
  obtain ⟨RES, hRES⟩ : ∃ r, r = cmpK (a, x) (b, y) := ⟨_, rfl⟩
  rw [← hRES]
  unfold cmpK at hRES
  simp only at hRES
  have CV := Lib.hid fun W h h' => cmpV_c A B x y x.length y.length c d W rfl rfl h h' (by omega) (by omega)
  by_cases h : a = b
  · rw [if_pos h] at hRES
    have HR := Lib.hid hRES
    have hn : (a != b) = false := by simpa using h
    subst h
    clear hRES
    go_enter Tryz.func44, Tryz.ntmps44
    go_wp2_with fail
    refine (CV.out _ (by exact (Rd.grows hra (by exact bel0))) (by exact (Rd.grows hrb (by exact bel0)))).mono ?_; rintro e w' ⟨rfl, rfl⟩
    go_wp2_with fail
    go_ret
    exact ⟨by (rw [HR.out]; try rfl), 0, _, by rw [Sort.alloc_eq_grow, Sort.alloc_eq_grow, Sort.grow_grow]; rfl⟩
  · rw [if_neg h] at hRES
    have HR := Lib.hid hRES
    have hn : (a != b) = true := by simpa using h
    have k1 : IntKind.i64.wrap (a - b) = a - b := IntWalk.i64_in _ (by omega)
    clear hRES
    go_enter Tryz.func44, Tryz.ntmps44
    go_wp2_with fail
    go_ret
    exact ⟨by (rw [HR.out]; try rfl), 0, _, by rw [Sort.alloc_eq_grow, Sort.alloc_eq_grow, Sort.grow_grow]; rfl⟩
end
end Go.Proofs.YtbfkpfdkndnhkaaGreat

/- slices.SortFunc at []impl.valued: the laying of the library's contract. -/
namespace Go.Proofs.YtbfkpfdkndnhkaaGreat
set_option linter.unusedSimpArgs false
set_option linter.unusedVariables false
open Go.Shelf

def sortLay_ren : Go.Shelf.Ren := ⟨fun | 6 => 43 | 15 => 81 | 14 => 80 | 28 => 107 | 29 => 108 | 20 => 99 | 21 => 100 | 22 => 101 | 23 => 102 | 24 => 103 | 25 => 104 | 26 => 105 | 27 => 106 | 46 => 115 | 47 => 116 | 48 => 117 | 49 => 118 | 50 => 119 | 57 => 122 | n => n, fun | 22 => 40 | 24 => 43 | 25 => 78 | 3 => 3 | 39 => 100 | 0 => 0 | 53 => 112 | 55 => 114 | 4 => 4 | 46 => 106 | 45 => 105 | 50 => 33 | 5 => 5 | 9 => 9 | 66 => 120 | 70 => 124 | 76 => 127 | 77 => 128 | n => n, fun | n => n⟩
theorem sortLay : Go.Proofs.SlLaysF0.n6 Tryz.prog sortLay_ren := {
  mixed := by kernel_rfl
  f6 := ⟨Tryz.f43.name, by decide, Tryz.func43.trans (congrArg some (by kernel_rfl))⟩
  f14 := ⟨Tryz.f80.name, by decide, Tryz.func80.trans (congrArg some (by kernel_rfl))⟩
  f15 := Tryz.func81.trans (congrArg some (by kernel_rfl))
  f20 := ⟨Tryz.f99.name, by decide, Tryz.func99.trans (congrArg some (by kernel_rfl))⟩
  f21 := ⟨Tryz.f100.name, by decide, Tryz.func100.trans (congrArg some (by kernel_rfl))⟩
  f22 := ⟨Tryz.f101.name, by decide, Tryz.func101.trans (congrArg some (by kernel_rfl))⟩
  f23 := ⟨Tryz.f102.name, by decide, Tryz.func102.trans (congrArg some (by kernel_rfl))⟩
  f24 := ⟨Tryz.f103.name, by decide, Tryz.func103.trans (congrArg some (by kernel_rfl))⟩
  f25 := ⟨Tryz.f104.name, by decide, Tryz.func104.trans (congrArg some (by kernel_rfl))⟩
  f26 := ⟨Tryz.f105.name, by decide, Tryz.func105.trans (congrArg some (by kernel_rfl))⟩
  f27 := ⟨Tryz.f106.name, by decide, Tryz.func106.trans (congrArg some (by kernel_rfl))⟩
  f28 := Tryz.func107.trans (congrArg some (by kernel_rfl))
  f29 := Tryz.func108.trans (congrArg some (by kernel_rfl))
  f46 := ⟨Tryz.f115.name, by decide, Tryz.func115.trans (congrArg some (by kernel_rfl))⟩
  f47 := Tryz.func116.trans (congrArg some (by kernel_rfl))
  f48 := Tryz.func117.trans (congrArg some (by kernel_rfl))
  f49 := ⟨Tryz.f118.name, by decide, Tryz.func118.trans (congrArg some (by kernel_rfl))⟩
  f50 := ⟨Tryz.f119.name, by decide, Tryz.func119.trans (congrArg some (by kernel_rfl))⟩
  f57 := ⟨Tryz.f122.name, by decide, Tryz.func122.trans (congrArg some (by kernel_rfl))⟩
  t0 := Tryz.underlying0
  a0 := Tryz.isAgg0
  z0 := Tryz.sizeOf0
  v0 := Tryz.zeroValue0
  t3 := Tryz.underlying3
  a3 := Tryz.isAgg3
  z3 := Tryz.sizeOf3
  v3 := Tryz.zeroValue3
  t4 := Tryz.underlying4
  a4 := Tryz.isAgg4
  z4 := Tryz.sizeOf4
  v4 := Tryz.zeroValue4
  t5 := Tryz.underlying5
  a5 := Tryz.isAgg5
  z5 := Tryz.sizeOf5
  v5 := Tryz.zeroValue5
  t9 := Tryz.underlying9
  a9 := Tryz.isAgg9
  z9 := Tryz.sizeOf9
  v9 := Tryz.zeroValue9
  t22 := Tryz.underlying40
  a22 := Tryz.isAgg40
  z22 := Tryz.sizeOf40
  v22 := Tryz.zeroValue40
  t25 := Tryz.underlying78
  a25 := Tryz.isAgg78
  z25 := Tryz.sizeOf78
  v25 := Tryz.zeroValue78
  t39 := Tryz.underlying100
  a39 := Tryz.isAgg100
  z39 := Tryz.sizeOf100
  v39 := Tryz.zeroValue100
  t45 := Tryz.underlying105
  a45 := Tryz.isAgg105
  z45 := Tryz.sizeOf105
  v45 := Tryz.zeroValue105
  t46 := Tryz.underlying106
  a46 := Tryz.isAgg106
  z46 := Tryz.sizeOf106
  v46 := Tryz.zeroValue106
  t50 := Tryz.underlying33
  a50 := Tryz.isAgg33
  z50 := Tryz.sizeOf33
  v50 := Tryz.zeroValue33
  t53 := Tryz.underlying112
  a53 := Tryz.isAgg112
  z53 := Tryz.sizeOf112
  v53 := Tryz.zeroValue112
  t55 := Tryz.underlying114
  a55 := Tryz.isAgg114
  z55 := Tryz.sizeOf114
  v55 := Tryz.zeroValue114
  t66 := Tryz.underlying120
  a66 := Tryz.isAgg120
  z66 := Tryz.sizeOf120
  v66 := Tryz.zeroValue120
  t70 := Tryz.underlying124
  a70 := Tryz.isAgg124
  z70 := Tryz.sizeOf124
  v70 := Tryz.zeroValue124
  t76 := Tryz.underlying127
  a76 := Tryz.isAgg127
  z76 := Tryz.sizeOf127
  v76 := Tryz.zeroValue127
  t77 := Tryz.underlying128
  a77 := Tryz.isAgg128
  z77 := Tryz.sizeOf128
  v77 := Tryz.zeroValue128 }
end Go.Proofs.YtbfkpfdkndnhkaaGreat

/- Contracts: the library's sort of vectors with values; the vectors in the order of their values. -/
namespace Go.Proofs.YtbfkpfdkndnhkaaGreat
set_option linter.unusedSimpArgs false
set_option linter.unusedVariables false
open Go.RowKit

def keyF (l : List VN) (L : List (List Int)) (i : Nat) : KV := ((nthS l i).2, L.getD i [])
theorem nthS_out (l : List VN) (i : Nat) (h : l.length ≤ i) : nthS l i = (.slice none 0 0, 0) := by simp [nthS, h]
theorem rsi_nil (w : World) : RSI w (.slice none 0 0) [] := ⟨none, 0, rfl, Rd.nil _ _, Nat.le_refl _⟩
theorem adR_none : adR (.slice none 0 0) = none := rfl
/-- the values vs own the rows L, from block B on, no two in one block -/
structure RowsV (w : World) (B : Nat) (vs : List Value) (L : List (List Int)) : Prop where
  len : vs.length = L.length
  row : ∀ (i : Nat) (u : Value) (x : List Int), vs[i]? = some u → L[i]? = some x → Own w B u x
  nod : ∀ (i j : Nat) (u u' : Value), vs[i]? = some u → vs[j]? = some u' → i ≠ j → ∀ g, u.ownBlock = some g → u'.ownBlock ≠ some g
theorem RowsO.rowsV {w : World} {B : Nat} {v : Value} {vs : List Value} {L : List (List Int)} (h : RowsO w B v vs L) : RowsV w B vs L := ⟨h.len, h.row, h.nod⟩
theorem map_fst_get {l : List VN} {i : Nat} (h : i < l.length) : (l.map fun q => q.1)[i]? = some (nthS l i).1 := by
  rw [nthS_get _ _ h]; simp [h]
theorem getD_get {L : List (List Int)} {i : Nat} (h : i < L.length) : L[i]? = some (L.getD i []) := by simp [List.getD, h]
section
variable {w : World} {B : Nat} {l : List VN} {L : List (List Int)}
theorem RowsV.at_ (h : RowsV w B (l.map fun q => q.1) L) {i : Nat} (hi : i < l.length) : Own w B (nthS l i).1 (L.getD i []) :=
  h.row i _ _ (map_fst_get hi) (getD_get (by rw [← h.len]; simpa using hi))
theorem RowsV.rsi (h : RowsV w B (l.map fun q => q.1) L) (i : Nat) : RSI w (nthS l i).1 (L.getD i []) := by
  by_cases hi : i < l.length
  · obtain ⟨A, c, e, hr, hc⟩ := (h.at_ hi).val
    exact ⟨A, c, e, hr, hc⟩
  · have hl := h.len
    rw [List.length_map] at hl
    rw [nthS_out _ _ (by omega), show L.getD i [] = [] from by simp [List.getD, show L.length ≤ i by omega]]
    exact rsi_nil w
theorem adR_own3 {v : Value} {g : Nat} (h : adR v = some g) : v.ownBlock = some g := by
  cases v with
  | slice A n c =>
    cases A with
    | none => simp [adR] at h
    | some a =>
      obtain ⟨_, rfl⟩ := adR_some h
      rfl
  | _ => simp [adR] at h
end

section
set_option maxHeartbeats 4000000
open Go.Sort Go.Shelf
set_option maxRecDepth 10000 in
theorem sortF_c (l : List VN) (L : List (List Int)) (g cap B : Nat) (w : World) (ho : OwnS w B (.slice (some ⟨g, 0, none⟩) l.length cap) l) (hr : ∀ i, RSI w (nthS l i).1 (L.getD i [])) (hfar : ∀ i b, adR (nthS l i).1 = some b → b ≠ g)
    (hn : ∀ i, -1000000 ≤ (nthS l i).2 ∧ (nthS l i).2 ≤ 1000000) (hx : ∀ i, (L.getD i []).length ≤ 1024) (hl : l.length ≤ 1048576) :
    Calls Tryz.prog 43 #[.slice (some ⟨g, 0, none⟩) l.length cap, .func (.func 44) #[] #[]] w fun e w' => e = .returned (.tuple #[]) ∧ ∃ p : List Nat, p.Perm (List.range l.length) ∧ p.map (keyF l L) = putsK [] ((List.range l.length).map (keyF l L)) ∧ w.grownBy w' (some g) ∧
      ∀ i, i < l.length → w'.cell? ⟨g, i * 2, none⟩ = some (nthS l (p.getD i 0)).1 ∧ w'.cell? ⟨g, i * 2 + 1, none⟩ = some (.int .i64 (nthS l (p.getD i 0)).2) := by
  have eg : ∀ args w, (callFunc 44 args).run Tryz.prog w = .ok (.enter 44 args) w := enters_of Tryz.func44 (by kernel_rfl) rfl
  have hblk : g < w.heap.size := (World.ownsRow.lt ho g rfl).2
  have hH := ho.holds
  have hcmp : CmpLays Tryz.prog 44 #[] (encS l) 2 (cfK (keyF l L)) g 0 (Array.range l.length).size w := fun m os dk hs i j =>
    byValue_c (nthS l i).1 (nthS l j).1 (nthS l i).2 (nthS l j).2 (L.getD i []) (L.getD j []) _ (RSI.good.keep _ _ (some g) _ _ sortWorld_grown (fun b hb e => hfar i b hb (Option.some.inj e).symm) (hr i)) (RSI.good.keep _ _ (some g) _ _ sortWorld_grown (fun b hb e => hfar j b hb (Option.some.inj e).symm) (hr j)) (hn i) (hn j) (hx i) (hx j)
  have hcon := AnyQ.slices_SortFunc sortLay 2 Tryz.isAgg43 Tryz.sizeOf43 (encS l) (fun _ => rfl) (fun x v hv => by
    simp [encS] at hv
    rcases hv with rfl | rfl
    · obtain ⟨A, c, e, _⟩ := hr x; rw [e]; rfl
    · rfl) (cfK (keyF l L)) (swo_cfK _) 44 #[] g 0 cap (Array.range l.length) w eg hcmp hH hblk (by rw [Array.size_range]; omega)
  change Calls Tryz.prog 43 _ _ _ at hcon
  have e0 : (Array.range l.length).size = l.length := Array.size_range
  rw [e0] at hcon
  refine hcon.mono ?_
  rintro e w' ⟨rfl, d', n, os, hp, hs, rfl⟩
  obtain ⟨h1, h2, h3⟩ := sort_keys (d := Array.range l.length) (d' := d') (by rw [e0]; exact hp) (by rw [e0]; exact hs)
  rw [Array.toList_range] at h2 h3
  rw [e0] at h1
  have hH' := holdsK_sortWorldK_c (encS l) 2 w g 0 (Array.range l.length) d' n os hH hblk (by rw [e0]; exact h1)
  refine ⟨rfl, d'.toList, h2, h3, sortWorld_grown, fun i hi => ?_⟩
  have hd : d'[i]! = d'.toList.getD i 0 := by
    rw [getElem!_pos d' i (by omega)]
    simp [List.getD, show i < d'.size by omega]
  have c0 := (hH'.cell (i := i) (c := 0) (by omega) (by omega)).1
  have c1 := (hH'.cell (i := i) (c := 1) (by omega) (by omega)).1
  rw [Nat.zero_add, Nat.add_zero] at c0
  rw [Nat.zero_add] at c1
  rw [hd] at c0 c1
  exact ⟨c0, c1⟩
/-- whatever the length -/
theorem sortV_c (A : Option Addr) (l : List VN) (L : List (List Int)) (cap B : Nat) (w : World) (ho : OwnS w B (.slice A l.length cap) l) (hr : ∀ i, RSI w (nthS l i).1 (L.getD i [])) (hfar : ∀ i b, adR (nthS l i).1 = some b → (Value.slice A l.length cap).ownBlock ≠ some b)
    (hn : ∀ i, -1000000 ≤ (nthS l i).2 ∧ (nthS l i).2 ≤ 1000000) (hx : ∀ i, (L.getD i []).length ≤ 1024) (hl : l.length ≤ 1048576) :
    Calls Tryz.prog 43 #[.slice A l.length cap, .func (.func 44) #[] #[]] w fun e w' => e = .returned (.tuple #[]) ∧ ∃ p : List Nat, p.Perm (List.range l.length) ∧ p.map (keyF l L) = putsK [] ((List.range l.length).map (keyF l L)) ∧ w.grownBy w' (Value.slice A l.length cap).ownBlock ∧
      ∀ i, i < l.length → ∃ g, A = some ⟨g, 0, none⟩ ∧ g < w'.heap.size ∧ w'.cell? ⟨g, i * 2, none⟩ = some (nthS l (p.getD i 0)).1 ∧ w'.cell? ⟨g, i * 2 + 1, none⟩ = some (.int .i64 (nthS l (p.getD i 0)).2) := by
  by_cases h0 : l.length = 0
  · obtain rfl : l = [] := List.eq_nil_of_length_eq_zero h0
    have hcon := AnyF.slices_SortFunc_none sortLay A cap (.func (.func 44) #[] #[]) w
    change Calls Tryz.prog 43 _ _ _ at hcon
    refine hcon.mono ?_
    rintro e w' ⟨rfl, rfl⟩
    exact ⟨rfl, [], List.Perm.refl _, rfl, World.grownBy.refl _ _, fun i hi => by simp at hi⟩
  · obtain ⟨g, c, e, hB, hg⟩ := ho.form (by omega)
    injection e with e1 _ e2
    subst e1 e2
    refine (sortF_c l L g cap B w ho hr (fun i b hb e => hfar i b hb (by rw [e]; rfl)) hn hx hl).mono ?_
    rintro e w' ⟨rfl, p, h1, h2, h3, h4⟩
    exact ⟨rfl, p, h1, h2, h3, fun i hi => ⟨g, rfl, Nat.lt_of_lt_of_le hg h3.size, h4 i hi⟩⟩
theorem perm_nodup {p : List Nat} {n : Nat} (h : p.Perm (List.range n)) : p.length = n ∧ (∀ i, i < n → p.getD i 0 < n) ∧ ∀ i j, i < n → j < n → i ≠ j → p.getD i 0 ≠ p.getD j 0 := by
  have hl : p.length = n := by rw [h.length_eq, List.length_range]
  have hnd : p.Nodup := h.nodup_iff.2 List.nodup_range
  refine ⟨hl, fun i hi => ?_, fun i j hi hj hne e => ?_⟩
  · have : p.getD i 0 ∈ p := by simp [List.getD, show i < p.length by omega]
    exact List.mem_range.1 (h.mem_iff.1 this)
  · simp only [List.getD_eq_getElem?_getD, List.getElem?_eq_getElem (show i < p.length by omega), List.getElem?_eq_getElem (show j < p.length by omega), Option.getD_some] at e
    exact hne ((List.getElem_inj hnd).1 e)
/-- the rows taken so far -/
def tkV (l : List VN) (p : List Nat) (k : Nat) : List Value := (p.take k).map fun i => (nthS l i).1
def tkL (L : List (List Int)) (p : List Nat) (k : Nat) : List (List Int) := (p.take k).map fun i => L.getD i []
theorem tkV_succ {l : List VN} {p : List Nat} {k : Nat} (h : k < p.length) : tkV l p (k + 1) = tkV l p k ++ [(nthS l (p.getD k 0)).1] := by
  unfold tkV; rw [List.take_add_one, List.getElem?_eq_getElem h, List.map_append]; simp [List.getD, h]
theorem tkL_succ {L : List (List Int)} {p : List Nat} {k : Nat} (h : k < p.length) : tkL L p (k + 1) = tkL L p k ++ [L.getD (p.getD k 0) []] := by
  unfold tkL; rw [List.take_add_one, List.getElem?_eq_getElem h, List.map_append]; simp [List.getD, h]
theorem tkV_get {l : List VN} {p : List Nat} {k i : Nat} {u : Value} (h : (tkV l p k)[i]? = some u) : i < k ∧ i < p.length ∧ u = (nthS l (p.getD i 0)).1 := by
  unfold tkV at h
  rw [List.getElem?_map] at h
  obtain ⟨x, h1, rfl⟩ := Option.map_eq_some_iff.1 h
  rw [List.getElem?_take] at h1
  split at h1
  · rename_i hk
    obtain ⟨h2, h3⟩ := List.getElem?_eq_some_iff.1 h1
    exact ⟨hk, h2, by simp [List.getD, h2, h3]⟩
  · cases h1
theorem tkL_length {L : List (List Int)} {p : List Nat} {k : Nat} (h : k ≤ p.length) : (tkL L p k).length = k := by unfold tkL; rw [List.length_map, List.length_take]; omega
theorem tkL_all {l : List VN} {L : List (List Int)} {p : List Nat} {s : List KV} (h : p.map (keyF l L) = s) : tkL L p p.length = rowsK s := by
  unfold tkL rowsK; rw [← h, List.take_length, List.map_map]; rfl
theorem ivo_c (v : Value) (l : List VN) (L : List (List Int)) (B : Nat) (w : World) (ho : OwnS w B v l) (hr : RowsV w B (l.map fun q => q.1) L) (hfar : ∀ i, i < l.length → ∀ b, (nthS l i).1.ownBlock = some b → v.ownBlock ≠ some b)
    (hn : ∀ i, i < l.length → -1000000 ≤ (nthS l i).2 ∧ (nthS l i).2 ≤ 1000000) (hx : ∀ x ∈ L, x.length ≤ 1024) (hl : l.length ≤ 1048576) (hB : B ≤ w.heap.size) :
    Calls Tryz.prog 17 #[v] w fun e w' => ∃ v' vs', e = .returned v' ∧ RowsO w' B v' vs' (rowsK (putsK [] ((List.range l.length).map (keyF l L)))) ∧ Below B w w' := by
  have hll : L.length = l.length := by have := hr.len; rw [List.length_map] at this; omega
  have hxx : ∀ i, (L.getD i []).length ≤ 1024 := fun i => by
    by_cases hi : i < L.length
    · exact hx _ (by simp [List.getD, hi])
    · simp [List.getD, show L.length ≤ i by omega]
  have hnn : ∀ i, -1000000 ≤ (nthS l i).2 ∧ (nthS l i).2 ≤ 1000000 := fun i => by
    by_cases hi : i < l.length
    · exact hn i hi
    · rw [nthS_out _ _ (by omega)]; simp
  obtain ⟨A, cap, rfl⟩ := ho.val
  have CS := sortV_c A l L cap B w ho hr.rsi (fun i b hb => by
    by_cases hi : i < l.length
    · exact hfar i hi b (adR_own3 hb)
    · rw [nthS_out _ _ (by omega)] at hb; simp [adR] at hb) hnn hxx hl
  have HO := Lib.hid ho
  have HR := Lib.hid hr
  have HF := Lib.hid hfar
  have HX := Lib.hid hxx
  have CS' := Lib.hid CS
  generalize putsK [] ((List.range l.length).map (keyF l L)) = RES at *
  clear ho hr hfar hn hx hnn hxx CS
  go_enter Tryz.func17, Tryz.ntmps17
  go_wp2_with fail
  refine CS'.out.mono ?_; rintro e w1 ⟨rfl, p, hp, hk, hg1, hc⟩
  obtain ⟨hpl, hpn, hpd⟩ := perm_nodup hp
  have hs1 := hg1.size
  have hb1 : Below B w w1 := (Below.refl _ _).grown hg1 hB fun k hk => (World.ownsRow.lt HO.out k hk).1
  have hrow : ∀ i, i < l.length → Own w1 B (nthS l i).1 (L.getD i []) ∧ ∀ g, (nthS l i).1.ownBlock = some g → g < w1.heap.size := fun i hi => by
    have h1 := HR.out.at_ hi
    refine ⟨World.ownsRow.kept h1 hg1 ?_, fun g hg => by have := (World.ownsRow.lt h1 g hg).2; omega⟩
    cases e : (nthS l i).1.ownBlock with
    | none => exact .inl rfl
    | some g => exact .inr fun e2 => HF.out i hi g e e2.symm
  have HROW := Lib.hid hrow
  have HC := Lib.hid hc
  have HPN := Lib.hid hpn
  have HPD := Lib.hid hpd
  have HPL := Lib.hid hpl
  have HK := Lib.hid hk
  have HNOD := Lib.hid (show ∀ i j, i < l.length → j < l.length → i ≠ j → ∀ g, (nthS l i).1.ownBlock = some g → (nthS l j).1.ownBlock ≠ some g from fun i j hi hj hne g hg => HR.out.nod i j _ _ (map_fst_get hi) (map_fst_get hj) hne g hg)
  clear hrow hc hpn hpd hpl hk hp hg1
  go_wp2_with fail
  go_loopw [3, 11] (fun o i wr => ∃ (I : Nat), i = .int .i64 I ∧ I ≤ l.length ∧ RowsO wr B o (tkV l p I) (tkL L p I) ∧ (∀ g, o.ownBlock = some g → w1.heap.size ≤ g) ∧ Below w1.heap.size w1 wr) (fun _ i _ => l.length - (intOf i).toNat)
  case atStart => exact ⟨0, rfl, Nat.zero_le _, RowsO.new_ _ rfl (by omega), fun g hg => by simp [Value.ownBlock] at hg; omega, by exact bel0⟩
  case round =>
    obtain ⟨I, rfl, hI, hor, hob, hg⟩ := hrel
    obtain ⟨A4, c4, rfl, _, _⟩ := hor.val
    have hsw := Below.size hg
    have HOB := Lib.hid hob
    clear hob
    by_cases hlt : I < l.length
    · obtain ⟨ga, rfl, hga, hc0, hc1⟩ := HC.out I hlt
      have h0 : wr.cell? ⟨ga, I * 2, none⟩ = some (nthS l (p.getD I 0)).1 := (hg.cell (p := ⟨ga, I * 2, none⟩) hga).trans hc0
      have h1 : wr.cell? ⟨ga, I * 2 + 1, none⟩ = some (.int .i64 (nthS l (p.getD I 0)).2) := (hg.cell (p := ⟨ga, I * 2 + 1, none⟩) hga).trans hc1
      have hgr : ga < wr.heap.size := by omega
      have i1 : (I : Int) < (l.length : Int) := by omega
      have hpi := HPN.out I hlt
      obtain ⟨how, hob2⟩ := HROW.out _ hpi
      have how2 : Own wr B (nthS l (p.getD I 0)).1 (L.getD (p.getD I 0) []) := how.grows hg
      have HVX := Lib.hid (tkV_succ (l := l) (p := p) (k := I) (by rw [HPL.out]; exact hlt))
      have HLX := Lib.hid (tkL_succ (L := L) (p := p) (k := I) (by rw [HPL.out]; exact hlt))
      have HLL := Lib.hid (tkL_length (L := L) (p := p) (k := I) (by rw [HPL.out]; exact hI))
      have HSEP : RowKit.Hid (∀ g, (nthS l (p.getD I 0)).1.ownBlock = some g → ∀ (i : Nat) (u' : Value), (tkV l p I)[i]? = some u' → u'.ownBlock ≠ some g) := Lib.hid fun g hg i u' hu => by
        obtain ⟨h2, h3, rfl⟩ := tkV_get hu
        exact fun e => HNOD.out _ _ (HPN.out i (by omega)) hpi (HPD.out i I (by omega) hlt (by omega)) g e hg
      obtain ⟨Au, cu, eu, _, _⟩ := how2.val
      have HB2 := Lib.hid hob2
      have HH := Lib.hid how2
      have HX2 := HX.out (p.getD I 0)
      generalize (nthS l (p.getD I 0)).1 = u at *
      generalize (nthS l (p.getD I 0)).2 = z at *
      generalize L.getD (p.getD I 0) [] = U at *
      generalize tkV l p I = V0 at *
      generalize tkL L p I = L0 at *
      subst eu
      clear hc0 hc1 how how2 hob2
      have hLL : L0.length + 1 ≤ 1099511627776 := by have := HLL.out; omega
      have HAP := Lib.hid (show ∀ g, (Value.slice Au U.length cu).ownBlock = some g → (Value.slice A4 L0.length c4).ownBlock ≠ some g ∧ ∀ (i : Nat) (u' : Value), V0[i]? = some u' → u'.ownBlock ≠ some g from fun g hg => ⟨fun e => by have := HOB.out g e; have := HB2.out g hg; omega, HSEP.out g hg⟩)
      go_wp2_with (at_builtin; refine wpList_appO1 rfl (.tmp 15) (.tmp 18) rfl _ _ U B _ V0 L0 (by rfl) (hor.alloc _) (HH.out.alloc _) HAP.out rfl (by first | rfl | (simp [go_sem]; done) | (simp; rfl)) hLL (by simp; omega) ?_; intro v4 w4 ho4 hg4' hv4)
      obtain ⟨A5, c5, rfl, _, _⟩ := ho4.val
      have hb4 : Below w1.heap.size w1 w4 := by
        refine Below.trans hg ?_
        refine Below.trans (show Below w1.heap.size wr (wr.alloc (.cells #[.slice Au U.length cu, .int .i64 z] 43)) by exact bel0) ?_
        exact (Below.refl _ _).grown hg4' (by simp; omega) fun k hk => HOB.out k hk
      have hob4 : ∀ g, (Value.slice A5 (L0 ++ [U]).length c5).ownBlock = some g → w1.heap.size ≤ g := fun g hgx => by
        rcases hv4 with e | ⟨g', e, hg'⟩
        · rw [hgx] at e; exact HOB.out g e.symm
        · rw [hgx] at e; cases e; simp at hg'; omega
      have HOB4 := Lib.hid hob4
      clear hg4' hv4 hob4
      go_wp2_with fail
      go_round
      case rel => exact ⟨I + 1, by go_num, by omega, by rw [HVX.out, HLX.out]; exact ho4, HOB4.out, hb4⟩
      case measure => simp [intOf]; omega
    · obtain rfl : I = l.length := by omega
      go_wp2_with fail
      go_ret
      have e1 : rowsK RES = tkL L p l.length := by rw [← tkL_all HK.out, HPL.out]
      exact ⟨.slice A4 (tkL L p l.length).length c4, tkV l p l.length, rfl, by rw [e1]; exact hor, Below.trans hb1 (Below.mono hg (by omega))⟩
end
end Go.Proofs.YtbfkpfdkndnhkaaGreat

/- Contracts: all vectors of a box, both; all cells negated. -/
namespace Go.Proofs.YtbfkpfdkndnhkaaGreat
set_option linter.unusedSimpArgs false
set_option linter.unusedVariables false
open Go.RowKit

def boxR (lo hi : List Int) (n : Nat) : List (List Int) := if boxB lo hi n then boxF lo hi n else []
theorem boxR_yes {lo hi : List Int} {n : Nat} (h : boxB lo hi n = true) : boxR lo hi n = boxF lo hi n := by unfold boxR; rw [h]; rfl
theorem boxR_no {lo hi : List Int} {n : Nat} (h : boxB lo hi n = false) : boxR lo hi n = [] := by unfold boxR; rw [h]; rfl
theorem boxF_length (lo hi : List Int) (i : Nat) : (boxF lo hi (i + 1)).length = (boxF lo hi i).length * width (nth lo i) (nth hi i) := by rw [boxF, boxStep_length]
theorem boxUpto_length {lo hi : Int} {rows : List (List Int)} {r : Nat} (h : r ≤ rows.length) : (boxUpto lo hi rows r).length = r * width lo hi := by
  unfold boxUpto; rw [boxStep_length, List.length_take, Nat.min_eq_left h]
theorem boxB_step {lo hi : List Int} {i : Nat} (h : boxB lo hi i = true) : boxB lo hi (i + 1) = decide ((boxF lo hi (i + 1)).length ≤ 4000) := by rw [boxB, h]; rfl
theorem boxB_len {lo hi : List Int} {i : Nat} (h : boxB lo hi i = true) : (boxF lo hi i).length ≤ 4000 := by
  cases i with
  | zero => simp [boxF]
  | succ i => simp only [boxB, Bool.and_eq_true, decide_eq_true_eq] at h; exact h.2
theorem boxF_pos {lo hi : List Int} {n i : Nat} (hw : ∀ i, i < n → nth lo i ≤ nth hi i) (hin : i ≤ n) : 1 ≤ (boxF lo hi i).length := by
  induction i with
  | zero => simp [boxF]
  | succ i ih =>
    rw [boxF_length]
    have h1 := ih (by omega)
    have h2 := hw i (by omega)
    exact Nat.mul_pos h1 (by unfold width; omega)
theorem width_eq {x y : Int} (h : x ≤ y) : (width x y : Int) = y - x + 1 := by unfold width; omega
theorem RowsO.one (w : World) {B b : Nat} (hb : w.heap.size = b) (hB : B ≤ b) : RowsO ((w.alloc (.cells #[] 3)).alloc (.cells #[.slice (some ⟨b, 0, none⟩) 0 0] 24)) B (.slice (some ⟨b + 1, 0, none⟩) 1 1) [.slice (some ⟨b, 0, none⟩) 0 0] [[]] := by
  subst hb
  have ho : Own ((w.alloc (.cells #[] 3)).alloc (.cells #[.slice (some ⟨w.heap.size, 0, none⟩) 0 0] 24)) B (.slice (some ⟨w.heap.size, 0, none⟩) 0 0) [] := (Own.mk_empty w B hB).alloc _
  have key : ∀ (i : Nat) (u : Value), [Value.slice (some ⟨w.heap.size, 0, none⟩) 0 0][i]? = some u → i = 0 ∧ u = .slice (some ⟨w.heap.size, 0, none⟩) 0 0 := fun i u h => by
    cases i with
    | zero => simp at h; exact ⟨rfl, h.symm⟩
    | succ i => simp at h
  refine ⟨rfl, ?_, fun i u x h1 h2 => ?_, fun i u h1 g hg => ?_, fun i j u u' h1 h2 hne => ?_⟩
  · have := World.ownsRow_lit (w := w.alloc (.cells #[] 3)) (base := B) (e := 24) (size := 1) #[.slice (some ⟨w.heap.size, 0, none⟩) 0 0] 1 (by simp; omega) (by simp [maxLen]) (by simp)
    simpa [OwnV] using this
  · obtain ⟨rfl, rfl⟩ := key i u h1
    simp at h2
    subst h2
    exact ho
  · obtain ⟨rfl, rfl⟩ := key i u h1
    simp [Value.ownBlock] at hg ⊢
    omega
  · obtain ⟨rfl, rfl⟩ := key i u h1
    obtain ⟨rfl, rfl⟩ := key j u' h2
    omega
/-- a row that is new lies apart from rows that were there -/
theorem RowsO.apart {w w' : World} {B : Nat} {v : Value} {vs : List Value} {L : List (List Int)} {u : Value} {z : List Int} (h : RowsO w B v vs L) (ho : Own w' w.heap.size u z) : ∀ g, u.ownBlock = some g → v.ownBlock ≠ some g ∧ ∀ (i : Nat) (u' : Value), vs[i]? = some u' → u'.ownBlock ≠ some g := by
  intro g hg
  have h1 := (World.ownsRow.lt ho g hg).1
  exact ⟨fun e => by have := (h.own.lt e).2; omega, fun i u' hi e => by have := (h.lt hi e).2; omega⟩

section
set_option maxHeartbeats 4000000
theorem negated_c (A : Option Addr) (l : List Int) (n c : Nat) (w : World) (hn : l.length = n) (ha : Rd w A l) (hl : n ≤ 1048576) (hb : ∀ i, i < n → -1099511627776 ≤ nth l i ∧ nth l i ≤ 1099511627776) :
    Calls Tryz.prog 15 #[.slice A n c] w fun e w' => ∃ v, e = .returned v ∧ Own w' w.heap.size v (l.map fun x => -x) ∧ Grows w w' := by
  subst hn
  have HB := Lib.hid hb
  clear hb
  go_enter Tryz.func15, Tryz.ntmps15
  go_wp2_with fail
  go_loopw [3, 9] (fun o i wr => ∃ (I : Nat), i = .int .i64 I ∧ I ≤ l.length ∧ Own wr w.heap.size o ((l.take I).map fun x => -x) ∧ Grows w wr) (fun _ i _ => l.length - (intOf i).toNat)
  case atStart => exact ⟨0, rfl, Nat.zero_le _, Own.new_ _ rfl (Nat.le_refl _), by exact bel0⟩
  case round =>
    obtain ⟨I, rfl, hI, ho, hg⟩ := hrel
    obtain ⟨A4, c4, rfl, _, _⟩ := ho.val
    have hsl : ((l.take I).map fun x => -x).length = I := by rw [List.length_map, List.length_take]; omega
    have hsw := Below.size hg
    by_cases hlt : I < l.length
    · obtain ⟨ab, off, rfl, hbs, hc⟩ := (ha.grows hg).at_ I hlt
      have i1 : (I : Int) < (l.length : Int) := by omega
      have hbi := HB.out I hlt
      have HNX := Lib.hid (show ((l.take (I + 1)).map fun x => -x) = ((l.take I).map fun x => -x) ++ [-(nth l I)] by
        rw [List.take_add_one, List.getElem?_eq_getElem hlt, List.map_append]; simp [nth_get _ _ hlt])
      have k1 : IntKind.i64.wrap (-(nth l I)) = -(nth l I) := IntWalk.i64_in _ (by omega)
      generalize nth l I = q at *
      generalize ((l.take I).map fun x => -x) = F at *
      have HSL := Lib.hid hsl
      clear hsl
      go_wp2_with (at_builtin; refine wpList_app1 rfl (.tmp 13) (.tmp 16) rfl _ (-q) w.heap.size _ F (by rfl) ho (by rfl) (by have := HSL.out; omega) (by omega) ?_; intro v7 w7 ho7 hg7 _)
      obtain ⟨A7, c7, rfl, _, _⟩ := ho7.val
      have hb7 : Below w.heap.size wr w7 := below_app ho (by omega) hg7
      go_round
      case rel => exact ⟨I + 1, by go_num, by omega, by rw [HNX.out]; exact ho7, Below.trans hg hb7⟩
      case measure => simp [intOf]; omega
    · obtain rfl : I = l.length := by omega
      have HE := Lib.hid (show ((l.take l.length).map fun x => -x) = l.map fun x => -x by rw [List.take_length])
      go_wp2_with fail
      go_ret
      exact ⟨_, rfl, by rw [← HE.out]; exact ho, hg⟩
theorem boxed_c (A B : Option Addr) (lo hi : List Int) (n ca cb : Nat) (w : World) (hn : lo.length = n) (hm : hi.length = n) (ha : Rd w A lo) (hb : Rd w B hi) (hn24 : n ≤ 24) (hw : ∀ i, i < n → nth lo i ≤ nth hi i ∧ -1000000000 ≤ nth lo i ∧ nth hi i ≤ 1000000000) :
    Calls Tryz.prog 14 #[.slice A n ca, .slice B n cb] w fun e w' => ∃ v vs, e = .returned (.tuple #[v, .bool (boxB lo hi n)]) ∧ RowsO w' w.heap.size v vs (boxR lo hi n) ∧ Grows w w' := by
  have HW := Lib.hid hw
  have HN := Lib.hid hn
  have HM := Lib.hid hm
  obtain ⟨OK, hOK⟩ : ∃ x, x = boxB lo hi n := ⟨_, rfl⟩
  obtain ⟨RES, hRES⟩ : ∃ x, x = boxR lo hi n := ⟨_, rfl⟩
  rw [← hOK, ← hRES]
  have HOK := Lib.hid hOK
  have HR := Lib.hid hRES
  clear hw hn hm hOK hRES
  go_enter Tryz.func14, Tryz.ntmps14
  go_wp2_with fail
  go_loopw [6, 16] (fun q i wr => ∃ (I : Nat), i = .int .i64 I ∧ q = .int .i64 ((boxF lo hi I).length : Nat) ∧ I ≤ n ∧ boxB lo hi I = true ∧ Grows w wr) (fun _ i _ => n - (intOf i).toNat)
  case atStart => exact ⟨0, rfl, rfl, Nat.zero_le _, rfl, by exact bel0⟩
  case round =>
    obtain ⟨I, rfl, rfl, hI, hB, hg⟩ := hrel
    by_cases hlt : I < n
    · obtain ⟨b1, o1, rfl, _, hc1⟩ := (ha.grows hg).at_ I (by rw [HN.out]; exact hlt)
      obtain ⟨b2, o2, rfl, _, hc2⟩ := (hb.grows hg).at_ I (by rw [HM.out]; exact hlt)
      have i1 : (I : Int) < (n : Int) := by omega
      obtain ⟨hxy, hx, hy⟩ := HW.out I hlt
      have hlen := boxB_len hB
      have hwd := width_eq hxy
      have HL := Lib.hid (boxF_length lo hi I)
      have HBS := Lib.hid (boxB_step hB)
      have hz : (((boxF lo hi (I + 1)).length : Nat) : Int) = ((boxF lo hi I).length : Int) * (nth hi I - nth lo I + 1) := by rw [HL.out, ← hwd, Int.natCast_mul]
      obtain ⟨N1, hN1⟩ : ∃ x, x = (boxF lo hi (I + 1)).length := ⟨_, rfl⟩
      rw [← hN1] at hz HBS
      have HN1 := Lib.hid hN1
      have hz0 : 0 ≤ ((boxF lo hi I).length : Int) * (nth hi I - nth lo I + 1) := by rw [← hz]; omega
      have hz1 : ((boxF lo hi I).length : Int) * (nth hi I - nth lo I + 1) ≤ 4000 * 2000000001 := Int.mul_le_mul (by omega) (by omega) (by omega) (by omega)
      have k1 : IntKind.i64.wrap (nth hi I - nth lo I) = nth hi I - nth lo I := IntWalk.i64_in _ (by omega)
      have k2 : IntKind.i64.wrap (nth hi I - nth lo I + 1) = nth hi I - nth lo I + 1 := IntWalk.i64_in _ (by omega)
      have k3 : IntKind.i64.wrap (((boxF lo hi I).length : Int) * (nth hi I - nth lo I + 1)) = (N1 : Int) := by rw [hz]; exact IntWalk.i64_in _ (by omega)
      generalize nth hi I = y at *
      generalize nth lo I = x at *
      generalize (boxF lo hi I).length = N0 at *
      clear hz hz0 hz1 hwd hN1 HL
      by_cases hbig : N1 ≤ 4000
      · have hb' : ¬ (4000 : Int) < (N1 : Int) := by omega
        have HB1 : RowKit.Hid (boxB lo hi (I + 1) = true) := Lib.hid (by rw [HBS.out]; simpa using hbig)
        go_wp2_with fail
        go_quiet (fail)
        go_wp2_with fail
        go_round
        case rel => exact ⟨I + 1, by go_num, by rw [← HN1.out], by omega, HB1.out, by exact bel1 hg⟩
        case measure => simp [intOf]; omega
      · have hb' : (4000 : Int) < (N1 : Int) := by omega
        have hno : boxB lo hi n = false := boxB_no (i := I + 1) (by rw [HBS.out]; simpa using hbig) (by omega)
        obtain rfl : OK = false := by rw [HOK.out, hno]
        obtain rfl : RES = [] := by rw [HR.out, boxR_no hno]
        clear hno
        go_wp2_with fail
        go_quiet (fail)
        go_wp2_with fail
        go_ret2
        exact ⟨_, [], rfl, RowsO.nil _ _, by exact bel1 hg⟩
    · obtain rfl : I = n := by omega
      obtain rfl : OK = true := by rw [HOK.out, hB]
      obtain rfl : RES = boxF lo hi I := by rw [HR.out, boxR_yes hB]
      have HB := Lib.hid hB
      clear hB HOK HR
      obtain ⟨wo, rfl⟩ : ∃ wo : World, wo = wr := ⟨_, rfl⟩
      have hs0 := Below.size hg
      go_wp2_with fail
      go_loopw [8, 38] (fun o i wr => ∃ (J : Nat) (vs : List Value), i = .int .i64 J ∧ J ≤ I ∧ RowsO wr w.heap.size o vs (boxF lo hi J) ∧ Grows wo wr) (fun _ i _ => I - (intOf i).toNat)
      case atStart => exact ⟨0, _, rfl, Nat.zero_le _, (RowsO.one wo rfl (Nat.le_refl _)).less (by omega), by exact bel0⟩
      case round =>
        obtain ⟨J, vs, rfl, hJ, hor, hg2⟩ := hrel
        obtain ⟨A8, c8, rfl, hrd8, _⟩ := hor.val
        obtain ⟨wi, rfl⟩ : ∃ wi : World, wi = wr := ⟨_, rfl⟩
        have hs2 := Below.size hg2
        by_cases hlt : J < I
        · have hx1 := (ha.grows hg).grows hg2
          have hx2 := (hb.grows hg).grows hg2
          have i1 : (J : Int) < (I : Int) := by omega
          obtain ⟨hxy, hx, hy⟩ := HW.out J hlt
          have hwd := width_eq hxy
          have HB4 := Lib.hid (boxB_len (boxB_le HB.out (show J + 1 ≤ I by omega)))
          have hrl4 : (boxF lo hi J).length ≤ 4000 := boxB_len (boxB_le HB.out (show J ≤ I by omega))
          have HFL := Lib.hid (fun (v : List Int) (h : v ∈ boxF lo hi J) => boxF_len h)
          have HNX := Lib.hid (show boxF lo hi (J + 1) = boxStep (nth lo J) (nth hi J) (boxF lo hi J) from rfl)
          have HLN := Lib.hid (boxF_length lo hi J)
          obtain ⟨bx, ox, rfl, hbx, hcx⟩ := hx1.at_ J (by rw [HN.out]; exact hlt)
          obtain ⟨by_, oy, rfl, hby, hcy⟩ := hx2.at_ J (by rw [HM.out]; exact hlt)
          generalize nth lo J = x at *
          generalize nth hi J = y at *
          generalize boxF lo hi J = rows at *
          go_wp2_with fail
          go_loopw [10, 44] (fun o i wr => ∃ (r : Nat) (vn : List Value), i = .int .i64 r ∧ r ≤ rows.length ∧ RowsO wr wi.heap.size o vn (boxUpto x y rows r) ∧ Grows wi wr) (fun _ i _ => rows.length - (intOf i).toNat)
          case atStart => exact ⟨0, [], rfl, Nat.zero_le _, RowsO.new_ _ rfl (Nat.le_refl _), by exact bel0⟩
          case round =>
            obtain ⟨r, vn, rfl, hr, horn, hg3⟩ := hrel
            obtain ⟨A10, c10, rfl, _, _⟩ := horn.val
            obtain ⟨wj, rfl⟩ : ∃ wj : World, wj = wr := ⟨_, rfl⟩
            have hs3 := Below.size hg3
            by_cases hltr : r < rows.length
            · obtain ⟨b8, off8, u8, rfl, hb8i, hc8i, Au, cu, rfl, hru, _⟩ := hrd8.at_ r hltr
              have hc8 : wj.cell? ⟨b8, off8 + r, none⟩ = some (.slice Au rows[r].length cu) := (hg3.cell (p := ⟨b8, off8 + r, none⟩) hb8i).trans hc8i
              have hb8 : b8 < wj.heap.size := by omega
              clear hc8i
              have i2 : (r : Int) < (rows.length : Int) := by omega
              have HRX := Lib.hid (boxUpto_succ (lo := x) (hi := y) hltr)
              have HUL := Lib.hid (boxUpto_length (lo := x) (hi := y) (Nat.le_of_lt hltr))
              have HML : RowKit.Hid ((r + 1) * width x y ≤ 4000) := Lib.hid (by have h1 := HB4.out; rw [HLN.out] at h1; exact Nat.le_trans (Nat.mul_le_mul_right _ (show r + 1 ≤ rows.length by omega)) h1)
              have HU : RowKit.Hid (rows[r].length ≤ 24) := Lib.hid (by have := HFL.out rows[r] (List.getElem_mem _); omega)
              have eU : rows.getD r [] = rows[r] := by simp [List.getD, hltr]
              rw [eU] at HRX
              generalize rows[r] = U at *
              generalize boxUpto x y rows r = L0 at *
              have hcxj : wj.cell? ⟨bx, ox + J, none⟩ = some (.int .i64 x) := (hg3.cell (p := ⟨bx, ox + J, none⟩) hbx).trans hcx
              go_wp2_with fail
              go_loopw [10, 13] (fun o z wr => ∃ (k : Nat) (vn : List Value), z = .int .i64 (x + (k : Int)) ∧ k ≤ width x y ∧ RowsO wr wi.heap.size o vn (L0 ++ grownBy x k U) ∧ Below wi.heap.size wj wr) (fun _ z _ => (y + 1 - intOf z).toNat)
              case atStart => exact ⟨0, vn, by simp, Nat.zero_le _, by simpa [grownBy] using horn, by exact bel0⟩
              case round =>
                obtain ⟨k, vk, rfl, hk, hork, hg4⟩ := hrel
                obtain ⟨A11, c11, rfl, _, _⟩ := hork.val
                have hs4 := Below.size hg4
                have hgi4 : Grows wi wr := Below.trans hg3 hg4
                have hcyk : wr.cell? ⟨by_, oy + J, none⟩ = some (.int .i64 y) := (hgi4.cell (p := ⟨by_, oy + J, none⟩) hby).trans hcy
                by_cases hltk : k < width x y
                · have i3 : x + (k : Int) ≤ y := by omega
                  have hruk := hru.grows hgi4
                  have HGX := Lib.hid (grownBy_succ x k U)
                  have HGL := Lib.hid (grownBy_length x k U)
                  have hLL : (L0 ++ grownBy x k U).length + 1 ≤ 1099511627776 := by
                    rw [List.length_append, HUL.out, HGL.out]
                    have := HML.out
                    rw [Nat.succ_mul] at this
                    omega
                  have hUl := HU.out
                  have k4 : IntKind.i64.wrap (x + (k : Int) + 1) = x + (k : Int) + 1 := IntWalk.i64_in _ (by omega)
                  obtain ⟨z, hz⟩ : ∃ z, z = x + (k : Int) := ⟨_, rfl⟩
                  rw [← hz] at i3 k4 ⊢
                  have HZ := Lib.hid hz
                  generalize hLK : L0 ++ grownBy x k U = LK at *
                  have HLK := Lib.hid hLK
                  have HEL := Lib.hid (show (U ++ [z]).length = U.length + 1 by simp)
                  clear hLK hz
                  go_wp2_with (first
                    | (at_builtin; refine wpList_appO1 rfl (.tmp 60) (.tmp 67) rfl _ _ (U ++ [z]) wi.heap.size _ vk LK (by rfl) hor3 (ho3.less (by omega)) hap3 rfl (by rfl) hLL (by omega) ?_; intro v4 w4 ho4 hg4' hv4)
                    | (at_builtin; refine wpList_app1 rfl (.tmp 63) (.tmp 65) rfl _ z wr.heap.size _ U (by rfl) ho2 (by rfl) (by omega) (by omega) ?_; intro v3 w3 ho3 hg3' hv3; have g3 : Grows wr w3 := Below.trans g2 (below_app ho2 (by omega) hg3'); have hor3 := hork.grows g3; have hap3 := hork.apart ho3; have sw3 := Below.size g3; obtain ⟨A3, c3, rfl, _, _⟩ := ho3.val; rw [HEL.out] at ho3 hap3; clear hg3')
                    | (at_builtin; refine wpList_app rfl (.tmp 61) (.tmp 62) rfl _ wr.heap.size _ [] (by rfl) (Own.new_ _ rfl (Nat.le_refl _)) Au U U.length cu (by rfl) rfl (by exact (Rd.grows hruk (by exact bel0))) (by simp; omega) (by simp) ?_; intro v2 w2 ho2 hg2' hv2; have g2 : Grows wr w2 := Below.trans (show Below _ wr (wr.alloc (.cells #[] 3)) by exact bel0) ((below_app (Own.new_ wr rfl (Nat.le_refl _)) (by simp) hg2')); rw [List.nil_append] at ho2; obtain ⟨A2, c2, rfl, _, _⟩ := ho2.val; have sw2 := Below.size g2; clear hg2'))
                  obtain ⟨A4, c4, rfl, _, _⟩ := ho4.val
                  have hb4 : Below wi.heap.size w3 w4 := below_appO hor3 (by omega) hg4'
                  clear hg4'
                  go_wp2_with fail
                  go_round
                  case rel => exact ⟨k + 1, _, by rw [HZ.out]; simp [Int.add_assoc], by omega, by rw [HGX.out, ← List.append_assoc, HLK.out, ← HZ.out]; exact ho4, Below.trans hg4 (Below.trans (Below.mono g3 (by omega)) hb4)⟩
                  case measure => simp [intOf]; omega
                · have i3 : ¬ x + (k : Int) ≤ y := by omega
                  obtain rfl : k = width x y := by omega
                  go_wp2_with fail
                  go_round
                  case rel => exact ⟨r + 1, vk, by go_num, by omega, by rw [HRX.out]; exact hork, hgi4⟩
                  case measure => simp [intOf]; omega
            · obtain rfl : r = rows.length := by omega
              go_wp2_with fail
              go_round
              case rel => exact ⟨J + 1, vn, by go_num, by omega, by rw [HNX.out, ← boxUpto_all]; exact horn.less (by omega), by exact bel2 hg3 hg2⟩
              case measure => simp [intOf]; omega
        · obtain rfl : J = I := by omega
          go_wp2_with fail
          go_ret2
          exact ⟨_, vs, rfl, hor, by exact bel2 hg2 hg⟩
end
end Go.Proofs.YtbfkpfdkndnhkaaGreat

/- Contract: all vectors of a box, the reference's. -/
namespace Go.Proofs.YtbfkpfdkndnhkaaGreat
set_option linter.unusedSimpArgs false
set_option linter.unusedVariables false
open Go.RowKit

section
set_option maxHeartbeats 4000000
theorem l20Box_c (A B : Option Addr) (lo hi : List Int) (n ca cb : Nat) (w : World) (hn : lo.length = n) (hm : hi.length = n) (ha : Rd w A lo) (hb : Rd w B hi) (hn24 : n ≤ 24) (hw : ∀ i, i < n → nth lo i ≤ nth hi i ∧ -1000000000 ≤ nth lo i ∧ nth hi i ≤ 1000000000) :
    Calls Tryz.prog 19 #[.slice A n ca, .slice B n cb] w fun e w' => ∃ v vs, e = .returned (.tuple #[v, .bool (boxB lo hi n)]) ∧ RowsO w' w.heap.size v vs (boxR lo hi n) ∧ Grows w w' := by
  have HW := Lib.hid hw
  have HN := Lib.hid hn
  have HM := Lib.hid hm
  have HPOS := Lib.hid fun (i : Nat) (h : i ≤ n) => boxF_pos (fun i hi => (hw i hi).1) h
  obtain ⟨OK, hOK⟩ : ∃ x, x = boxB lo hi n := ⟨_, rfl⟩
  obtain ⟨RES, hRES⟩ : ∃ x, x = boxR lo hi n := ⟨_, rfl⟩
  rw [← hOK, ← hRES]
  have HOK := Lib.hid hOK
  have HR := Lib.hid hRES
  clear hw hn hm hOK hRES
  go_enter Tryz.func19, Tryz.ntmps19
  go_wp2_with fail
  go_loopw [6, 7] (fun o i wr => ∃ (J : Nat) (vs : List Value), i = .int .i64 J ∧ J ≤ n ∧ boxB lo hi J = true ∧ RowsO wr w.heap.size o vs (boxF lo hi J) ∧ Grows w wr) (fun _ i _ => n - (intOf i).toNat)
  case atStart => exact ⟨0, _, rfl, Nat.zero_le _, rfl, RowsO.one w rfl (Nat.le_refl _), by exact bel0⟩
  case round =>
    obtain ⟨J, vs, rfl, hJ, hB, hor, hg2⟩ := hrel
    obtain ⟨A8, c8, rfl, hrd8, _⟩ := hor.val
    obtain ⟨wi, rfl⟩ : ∃ wi : World, wi = wr := ⟨_, rfl⟩
    have hs2 := Below.size hg2
    by_cases hlt : J < n
    · have hx1 := ha.grows hg2
      have hx2 := hb.grows hg2
      have i1 : (J : Int) < (n : Int) := by omega
      obtain ⟨hxy, hx, hy⟩ := HW.out J hlt
      have hwd := width_eq hxy
      have hL4 := boxB_len hB
      have HBS := Lib.hid (boxB_step hB)
      have HP := Lib.hid (HPOS.out J (by omega))
      have HFL := Lib.hid (fun (v : List Int) (h : v ∈ boxF lo hi J) => boxF_len h)
      have HNX := Lib.hid (show boxF lo hi (J + 1) = boxStep (nth lo J) (nth hi J) (boxF lo hi J) from rfl)
      have HLN := Lib.hid (boxF_length lo hi J)
      obtain ⟨bx, ox, rfl, hbx, hcx⟩ := hx1.at_ J (by rw [HN.out]; exact hlt)
      obtain ⟨by_, oy, rfl, hby, hcy⟩ := hx2.at_ J (by rw [HM.out]; exact hlt)
      generalize nth lo J = x at *
      generalize nth hi J = y at *
      generalize boxF lo hi J = rows at *
      clear hB
      go_wp2_with fail
      go_loopw [8, 9] (fun o i wr => ∃ (r : Nat) (vn : List Value), i = .int .i64 r ∧ r ≤ rows.length ∧ r * width x y ≤ 4000 ∧ RowsO wr wi.heap.size o vn (boxUpto x y rows r) ∧ Grows wi wr) (fun _ i _ => rows.length - (intOf i).toNat)
      case atStart => exact ⟨0, [], rfl, Nat.zero_le _, by simp, RowsO.new_ _ rfl (Nat.le_refl _), by exact bel0⟩
      case round =>
        obtain ⟨r, vn, rfl, hr, hr4, horn, hg3⟩ := hrel
        obtain ⟨A10, c10, rfl, _, _⟩ := horn.val
        obtain ⟨wj, rfl⟩ : ∃ wj : World, wj = wr := ⟨_, rfl⟩
        have hs3 := Below.size hg3
        have HUL := Lib.hid (boxUpto_length (lo := x) (hi := y) hr)
        by_cases hltr : r < rows.length
        · have i2 : (r : Int) < (rows.length : Int) := by omega
          have HRX := Lib.hid (boxUpto_succ (lo := x) (hi := y) hltr)
          have HU : RowKit.Hid (rows[r].length ≤ 24) := Lib.hid (by have := HFL.out rows[r] (List.getElem_mem _); omega)
          have eU : rows.getD r [] = rows[r] := by simp [List.getD, hltr]
          rw [eU] at HRX
          have hcxj : wj.cell? ⟨bx, ox + J, none⟩ = some (.int .i64 x) := (hg3.cell (p := ⟨bx, ox + J, none⟩) hbx).trans hcx
          have hcyj : wj.cell? ⟨by_, oy + J, none⟩ = some (.int .i64 y) := (hg3.cell (p := ⟨by_, oy + J, none⟩) hby).trans hcy
          have hmul : (r + 1) * width x y = r * width x y + width x y := Nat.succ_mul _ _
          have hulen : (boxUpto x y rows r).length ≤ 4000 := by rw [HUL.out]; exact hr4
          have k1 : IntKind.i64.wrap (((boxUpto x y rows r).length : Int) + y) = ((boxUpto x y rows r).length : Int) + y := IntWalk.i64_in _ (by omega)
          have k2 : IntKind.i64.wrap (((boxUpto x y rows r).length : Int) + y - x) = ((boxUpto x y rows r).length : Int) + y - x := IntWalk.i64_in _ (by omega)
          have k3 : IntKind.i64.wrap (((boxUpto x y rows r).length : Int) + y - x + 1) = ((boxUpto x y rows r).length : Int) + y - x + 1 := IntWalk.i64_in _ (by omega)
          have HSM : RowKit.Hid (((boxUpto x y rows r).length : Int) + y - x + 1 = (((r + 1) * width x y : Nat) : Int)) := Lib.hid (by rw [HUL.out, hmul]; omega)
          generalize hu0 : boxUpto x y rows r = L0 at *
          clear hu0 hmul
          by_cases hbig : (r + 1) * width x y ≤ 4000
          · have i4 : ¬ (4000 : Int) < (L0.length : Int) + y - x + 1 := by rw [HSM.out]; omega
            have HBG := Lib.hid hbig
            clear hbig
            go_wp2_with fail
            go_quiet (fail)
            go_wp2_with fail
            clear k1 k2 k3 i4
            go_loopw [8, 10] (fun o z wr => ∃ (k : Nat) (vn : List Value), z = .int .i64 (x + (k : Int)) ∧ k ≤ width x y ∧ RowsO wr wi.heap.size o vn (L0 ++ grownBy x k rows[r]) ∧ Below wi.heap.size wj wr) (fun _ z _ => (y + 1 - intOf z).toNat)
            case atStart => exact ⟨0, vn, by simp, Nat.zero_le _, (by rw [show L0 ++ grownBy x 0 rows[r] = L0 from by simp [grownBy]]; exact horn.drewN_), by exact bel0⟩
            case round =>
              obtain ⟨k, vk, rfl, hk, hork, hg4⟩ := hrel
              obtain ⟨A11, c11, rfl, _, _⟩ := hork.val
              have hs4 := Below.size hg4
              have hgi4 : Grows wi wr := Below.trans hg3 hg4
              have hcyk : wr.cell? ⟨by_, oy + J, none⟩ = some (.int .i64 y) := (hgi4.cell (p := ⟨by_, oy + J, none⟩) hby).trans hcy
              have hbyk : by_ < wr.heap.size := by omega
              obtain ⟨b8, off8, u8, rfl, hb8, hc8, Au, cu, rfl, hruk, _⟩ := (hrd8.grows RSI.good hgi4).at_ r hltr
              generalize rows[r] = U at *
              by_cases hltk : k < width x y
              · have i3 : x + (k : Int) ≤ y := by omega
                have HGX := Lib.hid (grownBy_succ x k U)
                have HGL := Lib.hid (grownBy_length x k U)
                have hLL : (L0 ++ grownBy x k U).length + 1 ≤ 1099511627776 := by
                  rw [List.length_append, HGL.out]
                  have := HBG.out
                  rw [Nat.succ_mul] at this
                  omega
                have hUl := HU.out
                have k4 : IntKind.i64.wrap (x + (k : Int) + 1) = x + (k : Int) + 1 := IntWalk.i64_in _ (by omega)
                obtain ⟨z, hz⟩ : ∃ z, z = x + (k : Int) := ⟨_, rfl⟩
                rw [← hz] at i3 k4 ⊢
                have HZ := Lib.hid hz
                generalize hLK : L0 ++ grownBy x k U = LK at *
                have HLK := Lib.hid hLK
                have HEL := Lib.hid (show (U ++ [z]).length = U.length + 1 by simp)
                clear hLK hz
                go_wp2_with (first
                  | (at_builtin; refine wpList_appO1 rfl (.tmp 53) (.tmp 63) rfl _ _ (U ++ [z]) wi.heap.size _ vk LK (by rfl) hor3 (ho3.less (by omega)) hap3 rfl (by rfl) hLL (by omega) ?_; intro v4 w4 ho4 hg4' hv4)
                  | (at_builtin; refine wpList_app1 rfl (.tmp 59) (.tmp 61) rfl _ z wr.heap.size _ U (by rfl) ho2 (by rfl) (by omega) (by omega) ?_; intro v3 w3 ho3 hg3' hv3; have g3 : Grows wr w3 := Below.trans g2 (below_app ho2 (by omega) hg3'); have hor3 := hork.grows g3; have hap3 := hork.apart ho3; have sw3 := Below.size g3; obtain ⟨A3, c3, rfl, _, _⟩ := ho3.val; rw [HEL.out] at ho3 hap3; clear hg3')
                  | (at_builtin; refine wpList_app rfl (.tmp 54) (.tmp 58) rfl _ wr.heap.size _ [] (by rfl) (Own.new_ _ rfl (Nat.le_refl _)) Au U U.length cu (by rfl) rfl (by exact (Rd.grows hruk (by exact bel0))) (by simp; omega) (by simp) ?_; intro v2 w2 ho2 hg2' hv2; have g2 : Grows wr w2 := Below.trans (show Below _ wr (wr.alloc (.cells #[] 3)) by exact bel0) ((below_app (Own.new_ wr rfl (Nat.le_refl _)) (by simp) hg2')); rw [List.nil_append] at ho2; obtain ⟨A2, c2, rfl, _, _⟩ := ho2.val; have sw2 := Below.size g2; clear hg2'))
                obtain ⟨A4, c4, rfl, _, _⟩ := ho4.val
                have hb4 : Below wi.heap.size w3 w4 := below_appO hor3 (by omega) hg4'
                clear hg4'
                go_wp2_with fail
                go_round
                case rel => exact ⟨k + 1, _, by rw [HZ.out]; simp [Int.add_assoc], by omega, by rw [HGX.out, ← List.append_assoc, HLK.out, ← HZ.out]; exact ho4, Below.trans hg4 (Below.trans (Below.mono g3 (by omega)) hb4)⟩
                case measure => simp [intOf]; omega
              · have i3 : ¬ x + (k : Int) ≤ y := by omega
                obtain rfl : k = width x y := by omega
                go_wp2_with fail
                go_round
                case rel => exact ⟨r + 1, vk, by go_num, by omega, HBG.out, by rw [HRX.out]; exact hork, hgi4⟩
                case measure => simp [intOf]; omega
          · have i4 : (4000 : Int) < (L0.length : Int) + y - x + 1 := by rw [HSM.out]; omega
            have hno : boxB lo hi n = false := boxB_no (i := J + 1) (by
              rw [HBS.out, HLN.out]
              have := Nat.mul_le_mul_right (width x y) (show r + 1 ≤ rows.length by omega)
              simp; omega) (by omega)
            obtain rfl : OK = false := by rw [HOK.out, hno]
            obtain rfl : RES = [] := by rw [HR.out, boxR_no hno]
            clear hno hbig
            go_wp2_with fail
            go_quiet (fail)
            go_wp2_with fail
            go_ret2
            exact ⟨_, [], rfl, RowsO.new_ _ rfl (by omega), by exact bel2 hg3 hg2⟩
        · obtain rfl : r = rows.length := by omega
          have HB1 : RowKit.Hid (boxB lo hi (J + 1) = true) := Lib.hid (by rw [HBS.out, HLN.out]; simpa using hr4)
          go_wp2_with fail
          go_round
          case rel => exact ⟨J + 1, vn, by go_num, by omega, HB1.out, by rw [HNX.out, ← boxUpto_all]; exact horn.less (by omega), by exact bel2 hg3 hg2⟩
          case measure => simp [intOf]; omega
    · obtain rfl : J = n := by omega
      obtain rfl : OK = true := by rw [HOK.out, hB]
      obtain rfl : RES = boxF lo hi J := by rw [HR.out, boxR_yes hB]
      clear hB HOK HR
      go_wp2_with fail
      go_ret2
      exact ⟨_, vs, rfl, hor, by exact bel1 hg2⟩
end
end Go.Proofs.YtbfkpfdkndnhkaaGreat

/- Vectors chosen out of rows, with their values; the cells of the box of a form. -/
namespace Go.Proofs.YtbfkpfdkndnhkaaGreat
set_option linter.unusedSimpArgs false
set_option linter.unusedVariables false
open Go.RowKit

theorem negL_length (s : List Int) : (negL s).length = s.length := by simp [negL]
theorem negL_nth {s : List Int} {i : Nat} (h : i < s.length) : nth (negL s) i = - nth s i := by simp [nth, negL, h]

/-! ### the chosen ones -/
def selS (u : Value) (S : List VN) : Option KV → List VN
  | some k => S ++ [(u, k.1)]
  | none => S
def selV (g : MX) (b : Int) (vs : List Value) (rows : List (List Int)) : Nat → List VN
  | 0 => []
  | i + 1 => selS (vs.getD i (.slice none 0 0)) (selV g b vs rows i) (shK g b (rows.getD i []))
section
variable {g : MX} {b : Int} {vs : List Value} {rows : List (List Int)} {i : Nat}
theorem selV_none (hk : shK g b (rows.getD i []) = none) : selV g b vs rows (i + 1) = selV g b vs rows i := by rw [selV, hk]; rfl
theorem selV_some {k : KV} (hk : shK g b (rows.getD i []) = some k) : selV g b vs rows (i + 1) = selV g b vs rows i ++ [(vs.getD i (.slice none 0 0), k.1)] := by rw [selV, hk]; rfl
theorem selV_len : (selV g b vs rows i).length ≤ i := by
  induction i with
  | zero => exact Nat.le_refl _
  | succ i ih =>
    cases e : shK g b (rows.getD i []) with
    | none => rw [selV_none e]; omega
    | some k => rw [selV_some e, List.length_append]; simp; omega
theorem selV_snd (hi : i ≤ rows.length) : ((selV g b vs rows i).map fun q => q.2) = (shL g b (rows.take i)).map fun k => k.1 := by
  induction i with
  | zero => rfl
  | succ i ih =>
    rw [shL_succ (by omega), List.map_append, ← ih (by omega)]
    cases e : shK g b (rows.getD i []) with
    | none => rw [selV_none e]; simp
    | some k => rw [selV_some e]; simp
theorem selV_mem {q : VN} (hq : q ∈ selV g b vs rows i) : ∃ j, j < i ∧ q.1 = vs.getD j (.slice none 0 0) ∧ ∃ k, shK g b (rows.getD j []) = some k ∧ q.2 = k.1 := by
  induction i with
  | zero => simp [selV] at hq
  | succ i ih =>
    cases e : shK g b (rows.getD i []) with
    | none =>
      rw [selV_none e] at hq
      obtain ⟨j, h1, h2⟩ := ih hq
      exact ⟨j, by omega, h2⟩
    | some k =>
      rw [selV_some e, List.mem_append] at hq
      rcases hq with hq | hq
      · obtain ⟨j, h1, h2⟩ := ih hq
        exact ⟨j, by omega, h2⟩
      · simp at hq
        subst hq
        exact ⟨i, by omega, rfl, k, e, rfl⟩
theorem RowsV.snoc {w : World} {B : Nat} {us : List Value} {xs : List (List Int)} {u : Value} {x : List Int} (h : RowsV w B us xs) (ho : Own w B u x) (hn : ∀ u', u' ∈ us → ∀ g, u.ownBlock = some g → u'.ownBlock ≠ some g) : RowsV w B (us ++ [u]) (xs ++ [x]) := by
  have hl := h.len
  have key : ∀ (i : Nat) (u' : Value), (us ++ [u])[i]? = some u' → (us[i]? = some u' ∧ i < us.length) ∨ (i = us.length ∧ u' = u) := fun i u' hi => by
    by_cases e : i < us.length
    · rw [List.getElem?_append_left e] at hi; exact .inl ⟨hi, e⟩
    · rw [List.getElem?_append_right (by omega)] at hi
      cases hj : i - us.length with
      | zero => rw [hj] at hi; simp at hi; exact .inr ⟨by omega, hi.symm⟩
      | succ j => rw [hj] at hi; simp at hi
  refine ⟨by simp [hl], fun i u' x' h1 h2 => ?_, fun i j a c ha hc hne g hg => ?_⟩
  · rcases key i u' h1 with ⟨h3, h4⟩ | ⟨rfl, rfl⟩
    · rw [List.getElem?_append_left (by omega)] at h2
      exact h.row i u' x' h3 h2
    · rw [hl] at h2
      simp at h2
      subst h2
      exact ho
  · rcases key i a ha with ⟨h3, h4⟩ | ⟨rfl, rfl⟩ <;> rcases key j c hc with ⟨h5, h6⟩ | ⟨rfl, rfl⟩
    · exact h.nod i j a c h3 h5 hne g hg
    · intro e
      exact hn a (List.mem_iff_getElem?.2 ⟨i, h3⟩) g e hg
    · exact hn c (List.mem_iff_getElem?.2 ⟨j, h5⟩) g hg
    · omega
theorem selV_rows {w : World} {B : Nat} {v : Value} (h : RowsO w B v vs rows) (hi : i ≤ rows.length) : RowsV w B ((selV g b vs rows i).map fun q => q.1) (rowsK (shL g b (rows.take i))) := by
  induction i with
  | zero => exact ⟨rfl, fun i u x h => by simp [selV] at h, fun i j u u' h => by simp [selV] at h⟩
  | succ i ih =>
    have hlt : i < vs.length := by rw [h.len]; omega
    have hvi : vs[i]? = some (vs.getD i (.slice none 0 0)) := by simp [List.getD, hlt]
    have hxi : rows[i]? = some (rows.getD i []) := by simp [List.getD, show i < rows.length by omega]
    rw [shL_succ (by omega)]
    cases e : shK g b (rows.getD i []) with
    | none =>
      rw [selV_none e, show (none : Option KV).toList = [] from rfl, List.append_nil]
      exact ih (by omega)
    | some k =>
      obtain ⟨rfl, _⟩ := shK_some e
      rw [selV_some e, List.map_append]
      unfold rowsK
      rw [List.map_append]
      refine (ih (by omega)).snoc (h.row i _ _ hvi hxi) fun u' hu' g' hg' => ?_
      obtain ⟨q, hq, rfl⟩ := List.mem_map.1 hu'
      obtain ⟨j, hj, hqe, _⟩ := selV_mem hq
      have hvj : vs[j]? = some q.1 := by rw [hqe]; simp [List.getD, show j < vs.length by omega]
      exact h.nod i j _ _ hvi hvj (by omega) g' hg'
theorem selV_own {w : World} {B : Nat} {v : Value} (h : RowsO w B v vs rows) (hi : i ≤ rows.length) {q : VN} (hq : q ∈ selV g b vs rows i) {gg : Nat} (hg : q.1.ownBlock = some gg) : gg < w.heap.size := by
  obtain ⟨j, hj, hqe, _⟩ := selV_mem hq
  have hvj : vs[j]? = some q.1 := by rw [hqe]; simp [List.getD, show j < vs.length by rw [h.len]; omega]
  exact (h.lt hvj hg).2
end
theorem keys_of {l : List VN} {s : List KV} (h : (l.map fun q => q.2) = s.map fun k => k.1) : (List.range l.length).map (keyF l (rowsK s)) = s := by
  have hl : l.length = s.length := by simpa using congrArg List.length h
  refine List.ext_getElem? fun i => ?_
  by_cases hi : i < s.length
  · have h2 := congrArg (fun x => x[i]?) h
    simp only [List.getElem?_map, List.getElem?_eq_getElem hi, List.getElem?_eq_getElem (show i < l.length by omega), Option.map_some, Option.some.injEq] at h2
    rw [List.getElem?_map, List.getElem?_range (by omega), Option.map_some, List.getElem?_eq_getElem hi]
    congr 1
    unfold keyF rowsK
    rw [nthS_get _ _ (by omega), h2]
    simp [List.getD, hi]
  · rw [List.getElem?_eq_none (by simp; omega), List.getElem?_eq_none (by omega)]
end Go.Proofs.YtbfkpfdkndnhkaaGreat

/- Contracts: is a vector's first cell positive; which of two vectors is less; all cells negated. -/
namespace Go.Proofs.YtbfkpfdkndnhkaaGreat
set_option linter.unusedSimpArgs false
set_option linter.unusedVariables false
open Go.RowKit

section
set_option maxHeartbeats 2000000
theorem posFirst_c (A : Option Addr) (l : List Int) (n c : Nat) (w : World) (hn : l.length = n) (ha : Rd w A l) (hl : n ≤ 1099511627776) :
    Calls Tryz.prog 16 #[.slice A n c] w fun e w' => e = .returned (.bool (posV l)) ∧ w = w' := by
  subst hn
  have HF := fun W h => firstCell_c A l l.length c W rfl h hl
  have hle := fnz_le l
  by_cases h : fnz l < l.length
  · have e : fcI l = (fnz l : Int) := by unfold fcI; rw [if_neg (by omega)]
    have hp : posV l = decide (0 < nth l (fnz l)) := by unfold posV; simp [h]
    rw [e] at HF
    rw [hp]
    obtain ⟨b, off, rfl, hbs, hcell⟩ := ha.at_ (fnz l) h
    generalize fnz l = k at *
    have i1 : (k : Int) < (l.length : Int) := by omega
    have i2 : (0 : Int) ≤ (k : Int) := by omega
    obtain ⟨x, hx⟩ : ∃ x, x = nth l k := ⟨_, rfl⟩
    rw [← hx] at hcell ⊢
    have HF' := Lib.hid HF
    clear HF e hp hx
    by_cases hx : 0 < x
    all_goals
      go_enter Tryz.func16, Tryz.ntmps16
      go_wp2_with fail
      refine (HF'.out _ ha).mono ?_; rintro e w' ⟨rfl, rfl⟩
      go_wp2_with fail
      go_ret
      exact ⟨by simp [hx], rfl⟩
  · have e : fcI l = -1 := by unfold fcI; rw [if_pos (by omega)]
    have hp : posV l = false := by unfold posV; simp [h]
    rw [e] at HF
    rw [hp]
    have HF' := Lib.hid HF
    clear HF e hp
    go_enter Tryz.func16, Tryz.ntmps16
    go_wp2_with fail
    refine (HF'.out _ ha).mono ?_; rintro e w' ⟨rfl, rfl⟩
    go_wp2_with fail
    go_ret
    exact ⟨by simp, rfl⟩
theorem l20Pos_c (A : Option Addr) (l : List Int) (n c : Nat) (w : World) (hn : l.length = n) (ha : Rd w A l) (hl : n ≤ 1099511627776) :
    Calls Tryz.prog 21 #[.slice A n c] w fun e w' => e = .returned (.bool (posV l)) ∧ w = w' := by
  subst hn
  go_enter Tryz.func21, Tryz.ntmps21
  go_wp2_with fail
  go_loop [3] (fun i => ∃ I : Nat, i = .int .i64 I ∧ I ≤ l.length ∧ ∀ t, t < I → nth l t = 0) (fun i => l.length - (intOf i).toNat)
  case atStart => exact ⟨0, rfl, Nat.zero_le _, fun t h => by omega⟩
  case round =>
    obtain ⟨I, rfl, hI, hz⟩ := hrel
    have HZ := Lib.hid hz
    clear hz
    by_cases hlt : I < l.length
    · obtain ⟨b, o, rfl, hbs, hc⟩ := ha.at_ I hlt
      have i1 : (I : Int) < (l.length : Int) := by omega
      by_cases hx : nth l I = 0
      · have HX := Lib.hid hx
        have hxb : (nth l I != 0) = false := by simpa using hx
        clear hx
        go_wp2_with fail
        go_round
        case rel => exact ⟨I + 1, by go_num, by omega, fun t ht => by (by_cases e : t = I); (· subst e; exact HX.out); (· exact HZ.out t (by omega))⟩
        case measure => simp [intOf]; omega
      · have HX := Lib.hid (posV_at HZ.out hlt hx)
        by_cases hp : 0 < nth l I
        all_goals
          have HP := Lib.hid hp
          go_wp2_with fail
          go_ret
          exact ⟨by rw [HX.out]; simp [HP.out], rfl⟩
    · obtain rfl : I = l.length := by omega
      have HX := Lib.hid (posV_zero HZ.out)
      go_wp2_with fail
      go_ret
      exact ⟨by rw [HX.out]; rfl, rfl⟩
theorem l20Less_c (A B : Option Addr) (x y : List Int) (n c c' : Nat) (w : World) (hn : x.length = n) (hm : y.length = n) (ha : Rd w A x) (hb : Rd w B y) (hl : n ≤ 1099511627776) :
    Calls Tryz.prog 55 #[.slice A n c, .slice B n c'] w fun e w' => e = .returned (.bool (lexB x y)) ∧ Grows w w' := by
  subst hn
  go_enter Tryz.func55, Tryz.ntmps55
  go_wp2_with fail
  go_loopw [5] (fun i wr => ∃ I : Nat, i = .int .i64 I ∧ I ≤ x.length ∧ (∀ t, t < I → nth x t = nth y t) ∧ Grows w wr) (fun i _ => x.length - (intOf i).toNat)
  case atStart => exact ⟨0, rfl, Nat.zero_le _, fun t h => by omega, by exact bel0⟩
  case round =>
    obtain ⟨I, rfl, hI, hz, hg⟩ := hrel
    have HZ := Lib.hid hz
    clear hz
    by_cases hlt : I < x.length
    · obtain ⟨b, o, rfl, hbs, hc⟩ := (ha.grows hg).at_ I hlt
      obtain ⟨b', o', rfl, hbs', hc'⟩ := (hb.grows hg).at_ I (by omega)
      have i1 : (I : Int) < (x.length : Int) := by omega
      by_cases hx : nth x I = nth y I
      · have HX := Lib.hid hx
        have hxb : (nth x I != nth y I) = false := by simpa using hx
        clear hx
        go_wp2_with fail
        go_quiet (fail)
        go_wp2_with fail
        go_round
        case rel => exact ⟨I + 1, by go_num, by omega, fun t ht => by (by_cases e : t = I); (· subst e; exact HX.out); (· exact HZ.out t (by omega)), by exact bel1 hg⟩
        case measure => simp [intOf]; omega
      · have HX := Lib.hid (lexB_at hlt (by omega) HZ.out hx)
        have hxb : (nth x I != nth y I) = true := by simpa using hx
        go_wp2_with fail
        go_quiet (fail)
        go_wp2_with fail
        go_quiet (fail)
        go_wp2_with fail
        go_ret
        exact ⟨by rw [HX.out]; rfl, by exact bel1 hg⟩
    · obtain rfl : I = x.length := by omega
      have HX := Lib.hid (lexB_alike hm.symm HZ.out)
      go_wp2_with fail
      go_ret
      exact ⟨by rw [HX.out]; rfl, by exact bel1 hg⟩
end
end Go.Proofs.YtbfkpfdkndnhkaaGreat
