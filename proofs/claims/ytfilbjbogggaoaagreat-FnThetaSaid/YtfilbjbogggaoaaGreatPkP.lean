/- Contracts and lemmas, put together. -/
import Derived.Deep.LoopGhost
import Derived.Test.YtfilbjbogggaoaaGreatPkA
import Derived.Test.YtfilbjbogggaoaaGreatPkB
import Derived.Test.YtfilbjbogggaoaaGreatPkO
import Derived.Test.YtfilbjbogggaoaaGreatPkT
/- Plain: no basis changes how many vectors have which value. -/
namespace Go.Proofs.YtfilbjbogggaoaaGreat
set_option linter.unusedSimpArgs false
set_option linter.unusedVariables false
open Go.RowKit

/-- how many of the list have a value -/
def cntK (s : List KV) (j : Int) : Nat := (s.filter fun k => decide (k.1 = j)).length
theorem cntK_snoc (s : List KV) (k : KV) (j : Int) : cntK (s ++ [k]) j = cntK s j + if k.1 = j then 1 else 0 := by
  unfold cntK
  rw [List.filter_append, List.length_append]
  by_cases h : k.1 = j
  · rw [if_pos h]; simp [h]
  · rw [if_neg h]; simp [h]
theorem thF_cnt {n : Nat} {s : List KV} (h : ∀ k ∈ s, 1 ≤ k.1 ∧ k.1 ≤ n) {i : Nat} (hi : i ≤ s.length) {j : Nat} (hj : j ≤ n) : nth (thF n s i) j = (if j = 0 then 1 else 0) + 2 * (cntK (s.take i) j : Int) := by
  induction i with
  | zero =>
    rw [thF, nth_set _ _ _ _ (by simp)]
    have e : cntK (s.take 0) j = 0 := by rw [List.take_zero]; rfl
    rw [e]
    by_cases h0 : j = 0
    · rw [if_pos h0, if_pos h0]; simp
    · rw [if_neg h0, if_neg h0]
      unfold nth; simp only [List.getD_eq_getElem?_getD, List.getElem?_replicate]; split <;> rfl
  | succ i ih =>
    have i1 := ih (by omega)
    have hk := h _ (List.getElem_mem (show i < s.length by omega))
    have eg : s.getD i (0, []) = s[i] := by simp [List.getD, show i < s.length by omega]
    rw [thF]
    simp only [eg]
    rw [nth_set _ _ _ _ (by rw [thF_length]; omega)]
    have et : s.take (i + 1) = s.take i ++ [s[i]] := by rw [List.take_add_one, List.getElem?_eq_getElem (by omega)]; rfl
    rw [et, cntK_snoc]
    by_cases e : j = (s[i]).1.toNat
    · subst e
      rw [if_pos rfl, i1, if_pos (show (s[i]).1 = (((s[i]).1.toNat : Nat) : Int) by omega)]
      generalize (if (s[i]).1.toNat = 0 then (1 : Int) else 0) = z
      omega
    · rw [if_neg e, i1, if_neg (show ¬ (s[i]).1 = (j : Int) by omega)]
      rfl
theorem neg_neg_vec (R : Nat) (v : Nat → Int) : (vecL R fun i => - - v i) = vecL R v := by
  have : (fun i => - - v i) = v := by funext i; exact Int.neg_neg _
  rw [this]
/-- vectors go to vectors of the same value -/
structure VMap (R : Nat) (f g : Nat → Nat → Int) (T : (Nat → Int) → Nat → Int) : Prop where
  ne : ∀ v, (∃ i, i < R ∧ v i ≠ 0) → ∃ i, i < R ∧ T v i ≠ 0
  val : ∀ v, qf R g (T v) = qf R f v
  inj : ∀ v w, (∀ i, i < R → T v i = T w i) → ∀ i, i < R → v i = w i
  opp : ∀ v w, (∀ i, i < R → T v i = - T w i) → ∀ i, i < R → v i = - w i
theorem cnt_map {R : Nat} {l l' : List Int} {b : Int} {s s' : List KV} (h : shvO ⟨R, R, l⟩ b = some s) (h' : shvO ⟨R, R, l'⟩ b = some s') {T : (Nat → Int) → Nat → Int} (M : VMap R (fnOf R l) (fnOf R l') T) (j : Int) : cntK s j ≤ cntK s' j := by
  unfold cntK
  have list_eq : ∀ {k k' : KV}, k ∈ s → k' ∈ s → (∀ i, i < R → nth k.2 i = nth k'.2 i) → k.1 = k'.1 → k = k' := fun hk hk' he h1 => by
    have a := shvO_in h hk
    have a' := shvO_in h hk'
    exact Prod.ext h1 (nth_ext (by rw [a.1, a'.1]) fun i hi => he i (by rw [← a.1]; exact hi))
  have vec_eq : ∀ {k : KV}, k ∈ s → vecL R (nth k.2) = k.2 := fun hk => by
    have a := shvO_in h hk
    exact nth_ext (by rw [vecL_length, a.1]) fun i hi => by rw [vecL_length] at hi; exact vecL_nth hi
  have no_opp : ∀ {k k' : KV}, k ∈ s → k' ∈ s → (∀ i, i < R → nth k.2 i = - nth k'.2 i) → False := fun {k k'} hk hk' he => by
    have p := (shvO_in h hk).2.1
    have p' := (shvO_in h hk').2.1
    rw [← vec_eq hk'] at p'
    have q := posV_not p'
    have e : (vecL R fun i => - nth k'.2 i) = k.2 := nth_ext (by rw [vecL_length, (shvO_in h hk).1]) fun i hi => by
      rw [vecL_length] at hi; rw [vecL_nth hi, he i hi]
    rw [e, p] at q
    cases q
  refine count_le (fun k => if posV (vecL R (T (nth k.2))) = true then (k.1, vecL R (T (nth k.2))) else (k.1, vecL R fun i => - T (nth k.2) i)) ((shvO_nodup h).filter _) (fun k hk => ?_) fun k k' hk hk' he => ?_
  · obtain ⟨hk, hj⟩ := List.mem_filter.1 hk
    obtain ⟨kl, kp, kok, kv, k1, kb⟩ := shvO_in h hk
    have hne := M.ne (nth k.2) (posV_ne kp kl)
    have hv : qf R (fnOf R l') (T (nth k.2)) = k.1 := by rw [M.val, ← kv]
    have hr := sh_rep h' hne (by rw [hv]; exact kb)
    rw [hv] at hr
    refine List.mem_filter.2 ⟨?_, ?_⟩
    · rcases hr with e | e
      · have p := (shvO_in h' e).2.1
        rw [if_pos p]; exact e
      · have p := (shvO_in h' e).2.1
        have q := posV_not p
        rw [neg_neg_vec] at q
        rw [if_neg (by rw [q]; decide)]; exact e
    · split <;> exact hj
  · obtain ⟨hk, _⟩ := List.mem_filter.1 hk
    obtain ⟨hk', _⟩ := List.mem_filter.1 hk'
    have e1 : k.1 = k'.1 := by
      have := congrArg Prod.fst he
      split at this <;> split at this <;> exact this
    have cell : ∀ (v w : Nat → Int), vecL R v = vecL R w → ∀ i, i < R → v i = w i := fun v w e i hi => by
      have := congrArg (fun x => nth x i) e
      simp only [vecL_nth hi] at this
      exact this
    have e2 := congrArg Prod.snd he
    split at e2 <;> split at e2
    · exact list_eq hk hk' (M.inj _ _ (cell _ _ e2)) e1
    · exact (no_opp hk hk' (M.opp _ _ (cell _ _ e2))).elim
    · exact (no_opp hk hk' (M.opp _ _ fun i hi => by have := cell _ _ e2 i hi; omega)).elim
    · exact list_eq hk hk' (M.inj _ _ fun i hi => by have := cell _ _ e2 i hi; omega) e1
theorem unim_maps {R : Nat} {f g u : Nat → Nat → Int} (U : Unim R u) (hq : ∀ x, qf R g x = qf R f (lc R u x)) : VMap R g f (lc R u) ∧ ∃ T, VMap R f g T := by
  have nz : ∀ x, (∃ i, i < R ∧ x i ≠ 0) → ∃ i, i < R ∧ lc R u x i ≠ 0 := fun x ⟨i, hi, hne⟩ =>
    Classical.byContradiction fun hn => hne (U.ind x (fun j hj => Classical.byContradiction fun hc => hn ⟨j, hj, hc⟩) i hi)
  have sub : ∀ x y, (∀ i, i < R → lc R u x i = lc R u y i) → ∀ i, i < R → x i = y i := fun x y h i hi => by
    have := U.ind (fun k => x k + (-1) * y k) (fun j hj => by
      rw [lc_add R u x fun k => (-1) * y k, lc_mul R u (-1) y, h j hj]; omega) i hi
    omega
  have add : ∀ x y, (∀ i, i < R → lc R u x i = - lc R u y i) → ∀ i, i < R → x i = - y i := fun x y h i hi => by
    have := U.ind (fun k => x k + y k) (fun j hj => by rw [lc_add R u x y, h j hj]; omega) i hi
    omega
  refine ⟨⟨nz, fun v => (hq v).symm, sub, add⟩, fun v => Classical.choose (U.span v), ?_⟩
  have sp : ∀ v j, j < R → v j = lc R u (Classical.choose (U.span v)) j := fun v => Classical.choose_spec (U.span v)
  refine ⟨fun v ⟨i, hi, hne⟩ => Classical.byContradiction fun hn => ?_, fun v => ?_, fun v w h i hi => ?_, fun v w h i hi => ?_⟩
  · rw [sp v i hi] at hne
    exact hne (lc_zero fun k hk => .inl (Classical.byContradiction fun hc => hn ⟨k, hk, hc⟩))
  · rw [hq]
    exact qf_congr fun i hi => (sp v i hi).symm
  · rw [sp v i hi, sp w i hi]
    exact lc_congr fun k hk => by rw [h k hk]
  · rw [sp v i hi, sp w i hi]
    have e : lc R u (Classical.choose (U.span v)) i = lc R u (fun k => (-1) * Classical.choose (U.span w) k) i := lc_congr fun k hk => by rw [h k hk]; rw [Int.neg_one_mul]
    rw [e, lc_mul R u (-1)]
    omega
theorem thO_list {g : MX} {b : Int} {a : List Int} (h : thO g b = some a) : ∃ s, shvO g b = some s ∧ a = thF b.toNat s s.length ∧ 0 ≤ b := by
  unfold thO at h
  obtain ⟨s, h1, rfl⟩ := Option.map_eq_some_iff.1 h
  refine ⟨s, h1, rfl, ?_⟩
  unfold shvO at h1
  obtain ⟨x, h2, _⟩ := Option.bind_eq_some_iff.1 h1
  exact (boxO_bound h2).1
theorem shvO_nat {g : MX} {b : Int} {s : List KV} (h : shvO g b = some s) : ∃ R : Nat, g = ⟨R, R, g.l⟩ ∧ isDef R R g.l = true := by
  unfold shvO at h
  obtain ⟨x, h2, _⟩ := Option.bind_eq_some_iff.1 h
  have hd := boxO_def h2
  obtain ⟨_, R, e1, e2, _⟩ := isSq_nat (isDef_sq hd)
  obtain ⟨r, c, l⟩ := g
  simp only at e1 e2 hd
  subst e1 e2
  exact ⟨R, rfl, hd⟩
/-- the counts of a list -/
theorem thF_eq {n : Nat} {s s' : List KV} (h : ∀ k ∈ s, 1 ≤ k.1 ∧ k.1 ≤ n) (h' : ∀ k ∈ s', 1 ≤ k.1 ∧ k.1 ≤ n) (hc : ∀ j : Nat, j ≤ n → cntK s j = cntK s' j) : thF n s s.length = thF n s' s'.length :=
  nth_ext (by rw [thF_length, thF_length]) fun j hj => by
    rw [thF_length] at hj
    rw [thF_cnt h (Nat.le_refl _) (by omega), thF_cnt h' (Nat.le_refl _) (by omega), List.take_length, List.take_length, hc j (by omega)]
/-- no basis changes the counts -/
theorem th_change {g u h : MX} {b : Int} {a a' : List Int} (hg : thO g b = some a) (hu : MixR g.r.toNat u) (hh : cbO g u = some h) (hm : thO h b = some a') : a = a' := by
  obtain ⟨s, hs, rfl, hb⟩ := thO_list hg
  obtain ⟨s', hs', rfl, _⟩ := thO_list hm
  obtain ⟨R, eg, hd⟩ := shvO_nat hs
  obtain ⟨r, c, l⟩ := g
  have e1 : r = R := congrArg MX.r eg
  have e2 : c = R := congrArg MX.c eg
  subst e1 e2
  simp only [Int.toNat_natCast] at hu hd
  obtain ⟨N, eu, eh, hul, hcell⟩ := cbO_cells hh
  rw [eh] at hs'
  have bd : ∀ k ∈ s, 1 ≤ k.1 ∧ k.1 ≤ (b.toNat : Int) := fun k hk => by have := shvO_mem hs hk; omega
  have bd' : ∀ k ∈ s', 1 ≤ k.1 ∧ k.1 ≤ (b.toNat : Int) := fun k hk => by have := shvO_mem hs' hk; omega
  have hN : N = R := by
    rcases hu with rfl | ⟨lu, rfl, _⟩
    · have a1 : (0 : Int) = N := congrArg MX.r eu
      have a2 : (0 : Int) = R := congrArg MX.c eu
      omega
    · have : (R : Int) = N := congrArg MX.r eu
      omega
  subst hN
  refine thF_eq bd bd' fun j hj => ?_
  have hU : Unim N (mt N u.l) := by
    rcases hu with rfl | ⟨lu, rfl, hel⟩
    · have a1 : (0 : Int) = N := congrArg MX.r eu
      obtain rfl : N = 0 := by omega
      exact ⟨fun v => ⟨v, fun j hj => absurd hj (Nat.not_lt_zero _)⟩, fun _ _ i hi => absurd hi (Nat.not_lt_zero _)⟩
    · exact hel.unim
  obtain ⟨M1, T, M2⟩ := unim_maps (f := fnOf N l) (g := fnOf N h.l) hU fun x => qf_change (u := fun i a => nth u.l (i * N + a)) hcell
  exact Nat.le_antisymm (cnt_map hs hs' M2 j) (cnt_map hs' hs M1 j)
end Go.Proofs.YtfilbjbogggaoaaGreat

/- Plain: the counts of two forms side by side, the second one twice a square. -/
namespace Go.Proofs.YtfilbjbogggaoaaGreat
set_option linter.unusedSimpArgs false
set_option linter.unusedVariables false
open Go.RowKit

/-- sums of values, with both signs of the second vector -/
def twoK (k : KV) (s2 : List KV) : List KV := s2.flatMap fun k2 => [(k.1 + k2.1, k.2 ++ k2.2), (k.1 + k2.1, k.2 ++ negL k2.2)]
def pairsK (s s2 : List KV) : List KV := s.flatMap fun k => twoK k s2
theorem cntK_append (s s' : List KV) (j : Int) : cntK (s ++ s') j = cntK s j + cntK s' j := by
  unfold cntK; rw [List.filter_append, List.length_append]
theorem cntK_cons (k : KV) (s : List KV) (j : Int) : cntK (k :: s) j = (if k.1 = j then 1 else 0) + cntK s j := by
  have := cntK_append [k] s j
  have e : cntK [k] j = if k.1 = j then 1 else 0 := by
    have := cntK_snoc [] k j
    rw [List.nil_append] at this
    rw [this]
    have : cntK [] j = 0 := rfl
    omega
  rw [e] at this
  exact this
theorem cnt_twoK (k : KV) (s2 : List KV) (j : Int) : cntK (twoK k s2) j = 2 * cntK s2 (j - k.1) := by
  induction s2 with
  | nil => rfl
  | cons k2 s2 ih =>
    have e : twoK k (k2 :: s2) = (k.1 + k2.1, k.2 ++ k2.2) :: (k.1 + k2.1, k.2 ++ negL k2.2) :: twoK k s2 := rfl
    rw [e, cntK_cons, cntK_cons, ih, cntK_cons]
    by_cases h : k2.1 = j - k.1
    · rw [if_pos h, if_pos (show k.1 + k2.1 = j by omega)]; omega
    · rw [if_neg h, if_neg (show ¬ k.1 + k2.1 = j by omega)]; omega
theorem cnt_neg {s : List KV} (h : ∀ k ∈ s, 1 ≤ k.1) {j : Int} (hj : j < 1) : cntK s j = 0 := by
  unfold cntK
  rw [List.length_eq_zero_iff, List.filter_eq_nil_iff]
  intro k hk
  have := h k hk
  simp
  omega
theorem cnt_pairsK {s s2 : List KV} (h : ∀ k ∈ s, 1 ≤ k.1) (h2 : ∀ k ∈ s2, 1 ≤ k.1) (j : Nat) : (cntK (pairsK s s2) j : Int) = 2 * sumN (j + 1) fun i => (cntK s i : Int) * (cntK s2 ((j : Int) - i) : Int) := by
  induction s with
  | nil =>
    have e : (cntK (pairsK [] s2) j : Int) = 0 := rfl
    rw [e, sumN_zero fun i _ => by show ((0 : Nat) : Int) * _ = 0; simp]; rfl
  | cons k s ih =>
    have e : pairsK (k :: s) s2 = twoK k s2 ++ pairsK s s2 := rfl
    have i1 := ih fun k' hk' => h k' (List.mem_cons_of_mem _ hk')
    have hk := h k (List.mem_cons_self)
    rw [e, cntK_append, cnt_twoK]
    have e2 : (sumN (j + 1) fun i => (cntK (k :: s) i : Int) * (cntK s2 ((j : Int) - i) : Int)) = (sumN (j + 1) fun i => (if i = k.1.toNat then 1 else 0) * (cntK s2 ((j : Int) - i) : Int)) + sumN (j + 1) fun i => (cntK s i : Int) * (cntK s2 ((j : Int) - i) : Int) := by
      rw [← sumN_add]
      refine sumN_congr fun i _ => ?_
      rw [cntK_cons]
      by_cases hi : k.1 = i
      · rw [if_pos hi, if_pos (by omega), Int.natCast_add, Int.add_mul]; rfl
      · rw [if_neg hi, if_neg (by omega), Int.natCast_add, Int.add_mul]; rfl
    rw [e2]
    by_cases hle : k.1.toNat < j + 1
    · rw [sumN_one hle]
      have e3 : (j : Int) - k.1 = (j : Int) - (k.1.toNat : Int) := by omega
      rw [e3]
      omega
    · rw [sumN_zero fun i hi => by rw [if_neg (by omega), Int.zero_mul]]
      have e3 : cntK s2 ((j : Int) - k.1) = 0 := cnt_neg h2 (by omega)
      rw [e3]
      omega
/-- all of the list side by side -/
def sideK (R : Nat) (s s2 : List KV) : List KV := s.map (fun k => (k.1, k.2 ++ [0])) ++ (s2.map (fun k => (k.1, List.replicate R 0 ++ k.2)) ++ pairsK s s2)
theorem cntK_map {s : List KV} {f : KV → KV} (h : ∀ k, (f k).1 = k.1) (j : Int) : cntK (s.map f) j = cntK s j := by
  unfold cntK
  rw [List.filter_map, List.length_map]
  congr 1
  refine List.filter_congr fun k _ => ?_
  show decide ((f k).1 = j) = decide (k.1 = j)
  rw [h k]
/-- the counts of both, joined -/
theorem side_join {R n : Nat} {s s2 s3 : List KV} (h : ∀ k ∈ s, 1 ≤ k.1 ∧ k.1 ≤ n) (h2 : ∀ k ∈ s2, 1 ≤ k.1 ∧ k.1 ≤ n) (h3 : ∀ k ∈ s3, 1 ≤ k.1 ∧ k.1 ≤ n) (hc : ∀ j : Nat, j ≤ n → cntK s3 j = cntK (sideK R s s2) j) {j : Nat} (hj : j ≤ n) :
    nth (thF n s3 s3.length) j = sumN (j + 1) fun i => nth (thF n s s.length) i * nth (thF n s2 s2.length) (j - i) := by
  have e0 : (sumN (j + 1) fun i => nth (thF n s s.length) i * nth (thF n s2 s2.length) (j - i)) = sumN (j + 1) fun i => ((if i = 0 then 1 else 0) + 2 * (cntK s i : Int)) * ((if j - i = 0 then 1 else 0) + 2 * (cntK s2 ((j : Int) - i) : Int)) := sumN_congr fun i hi => by
    rw [thF_cnt h (Nat.le_refl _) (by omega), thF_cnt h2 (Nat.le_refl _) (by omega), List.take_length, List.take_length]
    have : (((j - i : Nat)) : Int) = (j : Int) - i := by omega
    rw [this]
  rw [e0, thF_cnt h3 (Nat.le_refl _) hj, List.take_length, hc j hj]
  unfold sideK
  rw [cntK_append, cntK_append, cntK_map (f := fun k => (k.1, k.2 ++ [0])) (fun _ => rfl), cntK_map (f := fun k => (k.1, List.replicate R 0 ++ k.2)) (fun _ => rfl)]
  have hp := cnt_pairsK (fun k hk => (h k hk).1) (fun k hk => (h2 k hk).1) j
  have e1 : (sumN (j + 1) fun i => ((if i = 0 then 1 else 0) + 2 * (cntK s i : Int)) * ((if j - i = 0 then 1 else 0) + 2 * (cntK s2 ((j : Int) - i) : Int))) =
      (sumN (j + 1) fun i => (if i = 0 then 1 else 0) * ((if j - i = 0 then 1 else 0) + 2 * (cntK s2 ((j : Int) - i) : Int))) + ((sumN (j + 1) fun i => (if i = j then 1 else 0) * (2 * (cntK s i : Int))) + 4 * sumN (j + 1) fun i => (cntK s i : Int) * (cntK s2 ((j : Int) - i) : Int)) := by
    rw [← sumN_mul, ← sumN_add, ← sumN_add]
    refine sumN_congr fun i hi => ?_
    have : (if j - i = 0 then (1 : Int) else 0) = if i = j then 1 else 0 := by
      by_cases e : i = j
      · rw [if_pos e, if_pos (by omega)]
      · rw [if_neg e, if_neg (by omega)]
    rw [this]
    grind
  rw [e1, sumN_one (by omega), sumN_one (by omega)]
  have e2 : ((j : Int) - ((0 : Nat) : Int)) = j := by omega
  rw [e2, Nat.sub_zero]
  rw [Int.natCast_add, Int.natCast_add, hp]
  omega
end Go.Proofs.YtfilbjbogggaoaaGreat

/- Plain: the short vectors of two forms side by side, the second one twice a square. -/
namespace Go.Proofs.YtfilbjbogggaoaaGreat
set_option linter.unusedSimpArgs false
set_option linter.unusedVariables false
open Go.RowKit

/-- the cells of a form with 2 at its side -/
structure Side2 (R : Nat) (f f3 : Nat → Nat → Int) : Prop where
  old : ∀ i j, i < R → j < R → f3 i j = f i j
  right : ∀ i, i < R → f3 i R = 0
  low : ∀ j, j < R → f3 R j = 0
  two : f3 R R = 2
theorem Side2.qf {R : Nat} {f f3 : Nat → Nat → Int} (h : Side2 R f f3) (w : Nat → Int) : qf (R + 1) f3 w = Proofs.YtfilbjbogggaoaaGreat.qf R f w + 2 * (w R * w R) := by
  unfold Proofs.YtfilbjbogggaoaaGreat.qf
  rw [sumN]
  have e1 : (sumN R fun i => sumN (R + 1) fun j => w i * f3 i j * w j) = sumN R fun i => sumN R fun j => w i * f i j * w j := sumN_congr fun i hi => by
    rw [sumN, h.right i hi, Int.mul_zero, Int.zero_mul, Int.add_zero]
    exact sumN_congr fun j hj => by rw [h.old i j hi hj]
  have e2 : (sumN (R + 1) fun j => w R * f3 R j * w j) = 2 * (w R * w R) := by
    rw [sumN, h.two, sumN_zero fun j hj => by rw [h.low j hj, Int.mul_zero, Int.zero_mul], Int.zero_add]
    rw [Int.mul_comm (w R) 2, Int.mul_assoc]
  rw [e1, e2]
theorem qf_snoc {R : Nat} {f : Nat → Nat → Int} {u : List Int} {x : Int} (hu : u.length = R) : qf R f (nth (u ++ [x])) = qf R f (nth u) := qf_congr fun i hi => nth_append_left _ _ _ (by omega)
theorem nth_last {R : Nat} {u : List Int} {x : Int} (hu : u.length = R) : nth (u ++ [x]) R = x := by
  rw [nth_append_right _ _ _ (by omega), hu, Nat.sub_self]; rfl
theorem posV_snoc {u : List Int} {x : Int} (h : posV u = true) : posV (u ++ [x]) = true := by
  have h2 := h
  unfold posV at h2
  simp only [Bool.and_eq_true, decide_eq_true_eq] at h2
  obtain ⟨h3, h4⟩ := h2
  rw [posV_at (i := fnz u) (fun t ht => by rw [nth_append_left _ _ _ (by omega)]; exact fnz_zero ht) (by rw [List.length_append]; simp; omega) (by rw [nth_append_left _ _ _ h3]; omega), nth_append_left _ _ _ h3]
  exact decide_eq_true h4
theorem posV_of_snoc {u : List Int} {x : Int} (h : posV (u ++ [x]) = true) (hne : ∃ i, i < u.length ∧ nth u i ≠ 0) : posV u = true := by
  have hlt : fnz u < u.length := by
    refine Classical.byContradiction fun hn => ?_
    obtain ⟨i, hi, hx⟩ := hne
    exact hx (fnz_zero (by omega))
  have hn := fnz_ne hlt
  rw [posV_at (i := fnz u) (fun t ht => by rw [nth_append_left _ _ _ (by omega)]; exact fnz_zero ht) (by rw [List.length_append]; simp; omega) (by rw [nth_append_left _ _ _ hlt]; exact hn), nth_append_left _ _ _ hlt] at h
  rw [posV_at (i := fnz u) (fun t ht => fnz_zero ht) hlt hn]
  exact h
theorem rep_nth (R i : Nat) : nth (List.replicate R 0) i = 0 := by
  unfold nth; simp only [List.getD_eq_getElem?_getD, List.getElem?_replicate]; split <;> rfl
theorem posV_zeros {R : Nat} {x : Int} : posV (List.replicate R 0 ++ [x]) = decide (0 < x) := by
  by_cases h : x = 0
  · subst h
    rw [posV_zero fun t ht => ?_]
    · rfl
    · by_cases e : t < R
      · rw [nth_append_left _ _ _ (by simpa using e)]; exact rep_nth R t
      · rw [List.length_append, List.length_replicate] at ht
        have : t = R := by simp at ht; omega
        rw [this]; exact nth_last (by simp)
  · rw [posV_at (i := R) (fun t ht => by rw [nth_append_left _ _ _ (by simpa using ht)]; exact rep_nth R t) (by simp) (by rw [nth_last (by simp)]; exact h), nth_last (by simp)]
theorem posV_one (x : Int) : posV [x] = decide (0 < x) := posV_zeros (R := 0)
/-- the short vectors of twice a square -/
theorem two_in {b : Int} {s2 : List KV} (h : shvO ⟨(1 : Nat), (1 : Nat), [2]⟩ b = some s2) {k : KV} (hk : k ∈ s2) : ∃ x : Int, k.2 = [x] ∧ 0 < x ∧ k.1 = 2 * (x * x) ∧ k.1 ≤ b := by
  obtain ⟨kl, kp, kok, kv, k1, kb⟩ := shvO_in h hk
  obtain ⟨v, l⟩ := k
  simp only at kl kp kv kb ⊢
  match l, kl with
  | [x], _ =>
    rw [posV_one] at kp
    refine ⟨x, rfl, of_decide_eq_true kp, ?_, kb⟩
    rw [kv]
    have e : qf 1 (fnOf 1 [2]) (nth [x]) = 0 + (0 + x * 2 * x) := rfl
    rw [e, Int.mul_comm x 2, Int.mul_assoc]; omega
theorem two_all {b : Int} {s2 : List KV} (h : shvO ⟨(1 : Nat), (1 : Nat), [2]⟩ b = some s2) {x : Int} (hx : 0 < x) (hb : 2 * (x * x) ≤ b) : (2 * (x * x), [x]) ∈ s2 := by
  have e : qf 1 (fnOf 1 [2]) (nth [x]) = 2 * (x * x) := by
    have e : qf 1 (fnOf 1 [2]) (nth [x]) = 0 + (0 + x * 2 * x) := rfl
    rw [e, Int.mul_comm x 2, Int.mul_assoc]; omega
  have := (shvO_all h (v := [x]) rfl (by rw [posV_one]; exact decide_eq_true hx) (by rw [e]; exact hb)).1
  rwa [e] at this
theorem neg_one_L (x : Int) : negL [x] = [-x] := rfl
section
variable {R : Nat} {l l3 : List Int} {b : Int} {s s2 s3 : List KV}
theorem side_mem (hS : Side2 R (fnOf R l) (fnOf (R + 1) l3)) (h : shvO ⟨R, R, l⟩ b = some s) (h2 : shvO ⟨(1 : Nat), (1 : Nat), [2]⟩ b = some s2) (h3 : shvO ⟨((R + 1 : Nat) : Int), ((R + 1 : Nat) : Int), l3⟩ b = some s3) {k : KV} (hk : k ∈ sideK R s s2) (hb : k.1 ≤ b) : k ∈ s3 := by
  have key : ∀ (u : List Int) (x : Int), u.length = R → posV (u ++ [x]) = true → qf R (fnOf R l) (nth u) + 2 * (x * x) = k.1 → k.2 = u ++ [x] → k ∈ s3 := fun u x hu hp hq hk2 => by
    have e : qf (R + 1) (fnOf (R + 1) l3) (nth (u ++ [x])) = k.1 := by rw [hS.qf, qf_snoc hu, nth_last hu, hq]
    have := (shvO_all h3 (v := u ++ [x]) (by rw [List.length_append, hu]; rfl) hp (by rw [e]; exact hb)).1
    rw [e, ← hk2] at this
    exact this
  unfold sideK at hk
  rcases List.mem_append.1 hk with hk | hk
  · obtain ⟨k', hk', rfl⟩ := List.mem_map.1 hk
    obtain ⟨kl, kp, kok, kv, k1, kb⟩ := shvO_in h hk'
    exact key k'.2 0 kl (posV_snoc kp) (by simp only; rw [← kv]; omega) rfl
  · rcases List.mem_append.1 hk with hk | hk
    · obtain ⟨k', hk', rfl⟩ := List.mem_map.1 hk
      obtain ⟨x, e1, e2, e3, e4⟩ := two_in h2 hk'
      refine key (List.replicate R 0) x (by simp) (by rw [posV_zeros]; exact decide_eq_true e2) ?_ (by simp only; rw [e1])
      simp only
      rw [qf_zero fun i _ => rep_nth R i, e3]; omega
    · unfold pairsK twoK at hk
      obtain ⟨k', hk', hk⟩ := List.mem_flatMap.1 hk
      obtain ⟨k2, hk2, hk⟩ := List.mem_flatMap.1 hk
      obtain ⟨kl, kp, kok, kv, k1, kb⟩ := shvO_in h hk'
      obtain ⟨x, e1, e2, e3, e4⟩ := two_in h2 hk2
      simp only [List.mem_cons, List.not_mem_nil, or_false] at hk
      rcases hk with rfl | rfl
      · exact key k'.2 x kl (posV_snoc kp) (by simp only; rw [← kv, e3]) (by simp only; rw [e1])
      · exact key k'.2 (-x) kl (posV_snoc kp) (by simp only; rw [← kv, e3, Int.neg_mul_neg]) (by simp only; rw [e1, neg_one_L])
theorem mem_side (hS : Side2 R (fnOf R l) (fnOf (R + 1) l3)) (h : shvO ⟨R, R, l⟩ b = some s) (h2 : shvO ⟨(1 : Nat), (1 : Nat), [2]⟩ b = some s2) (h3 : shvO ⟨((R + 1 : Nat) : Int), ((R + 1 : Nat) : Int), l3⟩ b = some s3) {k : KV} (hk : k ∈ s3) : k ∈ sideK R s s2 := by
  obtain ⟨kl, kp, kok, kv, k1, kb⟩ := shvO_in h3 hk
  obtain ⟨d, w⟩ := k
  simp only at kl kp kv k1 kb
  obtain ⟨u, x, rfl⟩ : ∃ u x, w = u ++ [x] := by
    refine ⟨w.take R, nth w R, ?_⟩
    have h1 : w.drop R = [nth w R] := by rw [List.drop_eq_getElem_cons (by omega), List.drop_eq_nil_of_le (by omega), nth_get _ _ (by omega)]
    rw [← h1, List.take_append_drop]
  have hu : u.length = R := by rw [List.length_append] at kl; simp at kl; exact kl
  rw [hS.qf, qf_snoc hu, nth_last hu] at kv
  have hd : isDef R R l = true := by
    obtain ⟨R', e, hd⟩ := shvO_nat h
    have e' : (R : Int) = R' := congrArg MX.r e
    have e2 : R = R' := by omega
    rw [← e2] at hd
    exact hd
  obtain ⟨P, _⟩ := def_posF hd
  have hq0 := P.nonneg (nth u)
  have hx2 : 0 ≤ x * x := by rcases Int.le_total 0 x with h | h; exact Int.mul_nonneg h h; exact Int.mul_nonneg_of_nonpos_of_nonpos h h
  unfold sideK
  by_cases hz : ∃ i, i < u.length ∧ nth u i ≠ 0
  · have hp := posV_of_snoc kp hz
    have hm := (shvO_all h hu hp (by omega)).1
    by_cases h0 : x = 0
    · subst h0
      refine List.mem_append.2 (.inl (List.mem_map.2 ⟨_, hm, ?_⟩))
      simp only
      rw [kv]
      simp
    · refine List.mem_append.2 (.inr (List.mem_append.2 (.inr ?_)))
      unfold pairsK twoK
      refine List.mem_flatMap.2 ⟨_, hm, List.mem_flatMap.2 ?_⟩
      by_cases hpx : 0 < x
      · refine ⟨_, two_all h2 hpx (by omega), ?_⟩
        simp only
        rw [← kv]; simp
      · have e : (-x) * (-x) = x * x := Int.neg_mul_neg x x
        refine ⟨_, two_all h2 (x := -x) (by omega) (by rw [e]; omega), ?_⟩
        simp only
        rw [neg_one_L, Int.neg_neg, e, ← kv]; simp
  · have hz' : u = List.replicate R 0 := nth_ext (by simpa using hu) fun i hi => by
      rw [rep_nth]; exact Classical.byContradiction fun hn => hz ⟨i, hi, hn⟩
    subst hz'
    rw [posV_zeros] at kp
    have hpx := of_decide_eq_true kp
    rw [qf_zero fun i _ => rep_nth R i] at kv
    refine List.mem_append.2 (.inr (List.mem_append.2 (.inl (List.mem_map.2 ⟨_, two_all h2 hpx (by omega), ?_⟩))))
    simp only
    rw [kv, Int.zero_add]
theorem side_nodup (h : shvO ⟨R, R, l⟩ b = some s) (h2 : shvO ⟨(1 : Nat), (1 : Nat), [2]⟩ b = some s2) : (sideK R s s2).Nodup := by
  have lenS : ∀ {k}, k ∈ s → k.2.length = R := fun hk => (shvO_in h hk).1
  have one : ∀ {k}, k ∈ s → posV k.2 = true := fun hk => (shvO_in h hk).2.1
  have samek : ∀ {k k' : KV}, k ∈ s → k' ∈ s → k.2 = k'.2 → k = k' := fun hk hk' e => Prod.ext (by rw [(shvO_in h hk).2.2.2.1, (shvO_in h hk').2.2.2.1, e]) e
  have same2 : ∀ {k k' : KV}, k ∈ s2 → k' ∈ s2 → k.2 = k'.2 → k = k' := fun hk hk' e => Prod.ext (by rw [(shvO_in h2 hk).2.2.2.1, (shvO_in h2 hk').2.2.2.1, e]) e
  have nz : ∀ {k}, k ∈ s → k.2 ≠ List.replicate R 0 := fun hk e => by
    have := one hk
    rw [e, posV_zero fun t _ => rep_nth R t] at this
    cases this
  have inPair : ∀ {x : KV}, x ∈ pairsK s s2 → ∃ k y, k ∈ s ∧ y ≠ 0 ∧ x.2 = k.2 ++ [y] := fun {x} hx => by
    unfold pairsK twoK at hx
    obtain ⟨k, hk, hx⟩ := List.mem_flatMap.1 hx
    obtain ⟨k2, hk2, hx⟩ := List.mem_flatMap.1 hx
    obtain ⟨y, e1, e2, _⟩ := two_in h2 hk2
    simp only [List.mem_cons, List.not_mem_nil, or_false] at hx
    rcases hx with rfl | rfl
    · exact ⟨k, y, hk, by omega, by rw [e1]⟩
    · exact ⟨k, -y, hk, by omega, by rw [e1]; rfl⟩
  have split : ∀ {u u' : List Int} {x x' : Int}, u.length = R → u'.length = R → u ++ [x] = u' ++ [x'] → u = u' ∧ x = x' := fun hu hu' e => by
    obtain ⟨e1, e2⟩ := List.append_inj e (by rw [hu, hu'])
    exact ⟨e1, by simpa using e2⟩
  unfold sideK
  rw [List.nodup_append, List.nodup_append]
  refine ⟨?_, ⟨?_, ?_, ?_⟩, ?_⟩
  · unfold List.Nodup
    rw [List.pairwise_map]
    refine List.Pairwise.imp ?_ (shvO_nodup h)
    intro k k' hne e
    have e1 := congrArg Prod.fst e
    have e2 := List.append_cancel_right (congrArg Prod.snd e)
    exact hne (Prod.ext e1 e2)
  · unfold List.Nodup
    rw [List.pairwise_map]
    refine List.Pairwise.imp ?_ (shvO_nodup h2)
    intro k k' hne e
    have e1 := congrArg Prod.fst e
    have e2 := List.append_cancel_left (congrArg Prod.snd e)
    exact hne (Prod.ext e1 e2)
  · unfold pairsK List.Nodup
    rw [List.pairwise_flatMap]
    refine ⟨fun k hk => ?_, List.Pairwise.imp_of_mem ?_ (shvO_nodup h)⟩
    · unfold twoK
      rw [List.pairwise_flatMap]
      refine ⟨fun k2 hk2 => ?_, List.Pairwise.imp_of_mem ?_ (shvO_nodup h2)⟩
      · obtain ⟨y, e1, e2, _⟩ := two_in h2 hk2
        refine List.pairwise_cons.2 ⟨fun z hz e => ?_, List.pairwise_singleton _ _⟩
        rw [List.mem_singleton.1 hz] at e
        have := List.append_cancel_left (congrArg Prod.snd e)
        rw [e1, neg_one_L] at this
        have : y = -y := by simpa using this
        omega
      · intro k2 k2' hk2 hk2' hne x hx y hy e
        obtain ⟨a, e1, e2, _⟩ := two_in h2 hk2
        obtain ⟨a', e1', e2', _⟩ := two_in h2 hk2'
        simp only [List.mem_cons, List.not_mem_nil, or_false] at hx hy
        have ha : a ≠ a' := fun q => hne (same2 hk2 hk2' (by rw [e1, e1', q]))
        rcases hx with rfl | rfl <;> rcases hy with rfl | rfl
        · have := List.append_cancel_left (congrArg Prod.snd e)
          rw [e1, e1'] at this
          exact ha (by simpa using this)
        · have := List.append_cancel_left (congrArg Prod.snd e)
          rw [e1, e1', neg_one_L] at this
          have : a = -a' := by simpa using this
          omega
        · have := List.append_cancel_left (congrArg Prod.snd e)
          rw [e1, e1', neg_one_L] at this
          have : -a = a' := by simpa using this
          omega
        · have := List.append_cancel_left (congrArg Prod.snd e)
          rw [e1, e1', neg_one_L, neg_one_L] at this
          have : a = a' := by simpa using this
          exact ha this
    · intro k k' hk hk' hne x hx y hy e
      unfold twoK at hx hy
      obtain ⟨k2, hk2, hx⟩ := List.mem_flatMap.1 hx
      obtain ⟨k2', hk2', hy⟩ := List.mem_flatMap.1 hy
      have px : ∃ z, x.2 = k.2 ++ z := by
        simp only [List.mem_cons, List.not_mem_nil, or_false] at hx
        rcases hx with rfl | rfl <;> exact ⟨_, rfl⟩
      have py : ∃ z, y.2 = k'.2 ++ z := by
        simp only [List.mem_cons, List.not_mem_nil, or_false] at hy
        rcases hy with rfl | rfl <;> exact ⟨_, rfl⟩
      obtain ⟨z, hz⟩ := px
      obtain ⟨z', hz'⟩ := py
      rw [e, hz'] at hz
      exact hne (samek hk hk' (List.append_inj hz (by rw [lenS hk, lenS hk'])).1.symm)
  · intro x hx y hy e
    obtain ⟨k, hk, rfl⟩ := List.mem_map.1 hx
    obtain ⟨k', z, hk', hz, e2⟩ := inPair hy
    obtain ⟨a, e1, _⟩ := two_in h2 hk
    rw [← e] at e2
    simp only at e2
    rw [e1] at e2
    exact nz hk' (split (by simp) (lenS hk') e2).1.symm
  · intro x hx y hy e
    obtain ⟨k, hk, rfl⟩ := List.mem_map.1 hx
    rcases List.mem_append.1 hy with hy | hy
    · obtain ⟨k2, hk2, rfl⟩ := List.mem_map.1 hy
      obtain ⟨a, e1, _⟩ := two_in h2 hk2
      have e2 := congrArg Prod.snd e
      simp only at e2
      rw [e1] at e2
      exact nz hk (split (lenS hk) (by simp) e2).1
    · obtain ⟨k', z, hk', hz, e2⟩ := inPair hy
      rw [← e] at e2
      exact hz (split (lenS hk) (lenS hk') e2).2.symm
theorem cnt_side (hS : Side2 R (fnOf R l) (fnOf (R + 1) l3)) (h : shvO ⟨R, R, l⟩ b = some s) (h2 : shvO ⟨(1 : Nat), (1 : Nat), [2]⟩ b = some s2) (h3 : shvO ⟨((R + 1 : Nat) : Int), ((R + 1 : Nat) : Int), l3⟩ b = some s3) {j : Int} (hj : j ≤ b) : cntK s3 j = cntK (sideK R s s2) j := by
  unfold cntK
  refine Nat.le_antisymm (count_le id ((shvO_nodup h3).filter _) (fun k hk => ?_) fun _ _ _ _ e => e) (count_le id ((side_nodup h h2).filter _) (fun k hk => ?_) fun _ _ _ _ e => e)
  · obtain ⟨h4, h5⟩ := List.mem_filter.1 hk
    exact List.mem_filter.2 ⟨mem_side hS h h2 h3 h4, h5⟩
  · obtain ⟨h4, h5⟩ := List.mem_filter.1 hk
    have h6 : k.1 = j := of_decide_eq_true h5
    have h7 : k.1 ≤ b := by rw [h6]; exact hj
    exact List.mem_filter.2 ⟨side_mem hS h h2 h3 h4 h7, h5⟩
end
end Go.Proofs.YtfilbjbogggaoaaGreat

/- Contracts: JoinTheta, of the reference and of the program. -/
namespace Go.Proofs.YtfilbjbogggaoaaGreat
set_option linter.unusedSimpArgs false
set_option linter.unusedVariables false
open Go.RowKit

/-! ### plain -/
def prodAt (a b : List Int) (k i : Nat) : Int := nth a i * nth b (k - i)
def psum (a b : List Int) (k : Nat) : Nat → Int
  | 0 => 0
  | i + 1 => psum a b k i + prodAt a b k i
def cellOK (a b : List Int) (k i : Nat) : Prop := isNum (nth a i) = true ∧ isNum (nth b (k - i)) = true ∧ isNum (prodAt a b k i) = true ∧ isNum (psum a b k (i + 1)) = true
def rowOK (a b : List Int) (k : Nat) : Prop := ∀ i, i < k + 1 → cellOK a b k i
def jtOK (a b : List Int) : Prop := ∀ k, k < min a.length b.length → rowOK a b k
def jtList (a b : List Int) (n : Nat) : List Int := (List.range n).map fun k => psum a b k (k + 1)
open Classical in
noncomputable def jok (a b : List Int) : Bool := decide (jtOK a b)
noncomputable def jres (a b : List Int) : List Int := if jok a b then jtList a b (min a.length b.length) else []
theorem jtList_succ (a b : List Int) (n : Nat) : jtList a b (n + 1) = jtList a b n ++ [psum a b n (n + 1)] := by simp [jtList, List.range_succ]
theorem jtList_length (a b : List Int) (n : Nat) : (jtList a b n).length = n := by simp [jtList]
theorem jok_yes {a b : List Int} (h : jtOK a b) : jok a b = true := by simp [jok, h]
theorem jok_no {a b : List Int} {k i : Nat} (hk : k < min a.length b.length) (hi : i < k + 1) (h : ¬ cellOK a b k i) : jok a b = false := by
  simp only [jok, decide_eq_false_iff_not]
  exact fun q => h (q k hk i hi)
theorem jres_yes {a b : List Int} (h : jok a b = true) : jres a b = jtList a b (min a.length b.length) := by simp [jres, h]
theorem jres_no {a b : List Int} (h : jok a b = false) : jres a b = [] := by simp [jres, h]

def sacc (a b : List Int) (k : Nat) : Nat → Int
  | 0 => 0
  | i + 1 => addB (sacc a b k i) (mulB (nth a i) (nth b (k - i)))
/-- before round i: as long as all was in order, the reference's sum is the sum; else it is bad -/
theorem sacc_good (a b : List Int) (k : Nat) : ∀ i, (∀ t, t < i → cellOK a b k t) → sacc a b k i = psum a b k i ∧ isNum (psum a b k i) = true
  | 0, _ => ⟨rfl, by simp [psum]; decide⟩
  | i + 1, h => by
    obtain ⟨e, hn⟩ := sacc_good a b k i (fun t ht => h t (by omega))
    obtain ⟨h1, h2, h3, h4⟩ := h i (by omega)
    refine ⟨?_, h4⟩
    simp only [sacc, e]
    have h3' : isNum (nth a i * nth b (k - i)) = true := h3
    have h4' : isNum (psum a b k i + nth a i * nth b (k - i)) = true := h4
    rw [mulB_num h1 h2, fit_yes h3', addB_num hn h3', fit_yes h4']
    rfl
theorem sacc_fits (a b : List Int) (k : Nat) : ∀ i, sacc a b k i = bad ∨ isNum (sacc a b k i) = true
  | 0 => .inr (by simp only [sacc]; decide)
  | i + 1 => by
    have hf : ∀ n, fit n = bad ∨ isNum (fit n) = true := fun n => by
      cases h : isNum n
      · exact .inl (fit_no h)
      · rw [fit_yes h]; exact .inr h
    simp only [sacc, addB]
    split
    · exact .inl rfl
    · exact hf _
theorem mulB_fits (a b : Int) : mulB a b = bad ∨ isNum (mulB a b) = true := by
  have hf : ∀ n, fit n = bad ∨ isNum (fit n) = true := fun n => by
    cases h : isNum n
    · exact .inl (fit_no h)
    · rw [fit_yes h]; exact .inr h
  unfold mulB
  split
  · exact .inl rfl
  · exact hf _
theorem sacc_bad (a b : List Int) (k : Nat) : ∀ i, (∀ t, t < i → isNum (nth a t) = true ∧ isNum (nth b (k - t)) = true) → sacc a b k i ≠ bad → ∀ t, t < i → cellOK a b k t
  | 0, _, _ => fun t ht => by omega
  | i + 1, h, hb => by
    have h0 : sacc a b k i ≠ bad := fun e => hb (by simp [sacc, e, addB_bad_left])
    have ih := sacc_bad a b k i (fun t ht => h t (by omega)) h0
    obtain ⟨e, hn⟩ := sacc_good a b k i ih
    obtain ⟨h1, h2⟩ := h i (by omega)
    have hm : mulB (nth a i) (nth b (k - i)) ≠ bad := fun e => hb (by simp [sacc, e, addB_bad_right])
    rw [mulB_num h1 h2] at hm
    have h3 : isNum (prodAt a b k i) = true := by
      cases h : isNum (prodAt a b k i)
      · exact absurd (fit_no h) hm
      · rfl
    have h4 : isNum (psum a b k (i + 1)) = true := by
      simp only [sacc, e] at hb
      have h3' : isNum (nth a i * nth b (k - i)) = true := h3
      rw [mulB_num h1 h2, fit_yes h3', addB_num hn h3'] at hb
      cases h : isNum (psum a b k (i + 1))
      · exact absurd (fit_no h) hb
      · rfl
    intro t ht
    by_cases e : t = i
    · subst e; exact ⟨h1, h2, h3, h4⟩
    · exact ih t (by omega)

theorem jok_bad {a b : List Int} {k : Nat} (hk : k < min a.length b.length) (h : sacc a b k (k + 1) = bad) : jok a b = false := by
  simp only [jok, decide_eq_false_iff_not]
  intro q
  have hr := q k hk
  obtain ⟨e, hn⟩ := sacc_good a b k (k + 1) hr
  rw [h] at e
  exact num_ne_bad hn e.symm

theorem jres_length (a b : List Int) (h : a.length ≤ 1048576) : (jres a b).length ≤ 1048576 := by
  unfold jres
  split
  · rw [jtList_length]; omega
  · simp

/-! ### the reference's walk -/


theorem allNum_take {l : List Int} {n : Nat} (h : allNum (l.take n) = true) (hn : n ≤ l.length) : ∀ i, i < n → isNum (nth l i) = true := by
  intro i hi
  have := (allNum_iff _).1 h i (by simp; omega)
  unfold nth at this ⊢
  simp only [List.getD_eq_getElem?_getD, List.getElem?_take, if_pos hi] at this ⊢
  exact this
theorem allNum_take_no {l : List Int} {n : Nat} (h : allNum (l.take n) = false) (hn : n ≤ l.length) : ∃ i, i < n ∧ isNum (nth l i) = false := by
  refine Classical.byContradiction fun q => ?_
  have : allNum (l.take n) = true := (allNum_iff _).2 fun i hi => by
    have hi' : i < n := by simp at hi; omega
    have e : nth (l.take n) i = nth l i := by
      unfold nth
      simp only [List.getD_eq_getElem?_getD, List.getElem?_take, if_pos hi']
    rw [e]
    cases h2 : isNum (nth l i)
    · exact absurd ⟨i, hi', h2⟩ q
    · rfl
  rw [h] at this; cases this
theorem Rd.take {w : World} {A : Option Addr} {l : List Int} (h : Rd w A l) (n : Nat) : Rd w A (l.take n) := by
  intro i hi
  have hi' : i < n ∧ i < l.length := by simp at hi; omega
  obtain ⟨b, off, e, hb, hc⟩ := h i hi'.2
  refine ⟨b, off, e, hb, ?_⟩
  rw [hc]
  unfold nth
  simp only [List.getD_eq_getElem?_getD, List.getElem?_take, if_pos hi'.1]

set_option maxHeartbeats 2000000 in
theorem iJT_c (A B : Option Addr) (a b : List Int) (c d : Nat) (w : World) (ha : Rd w A a) (hb : Rd w B b) (la : a.length ≤ 1048576) (lb : b.length ≤ 1048576) (lc : a.length ≤ c) (ld : b.length ≤ d) :
    Calls Tryz.prog 49 #[.slice A a.length c, .slice B b.length d] w fun e w' => ∃ v, e = .returned (.tuple #[v, .bool (jok a b)]) ∧ Own w' w.heap.size v (jres a b) ∧ Grows w w' := by
  have HN := Lib.hid fun w x => iIsNumber_c x w
  obtain ⟨n, hn, hba⟩ : ∃ n, n = min a.length b.length ∧ ((n = b.length ∧ b.length < a.length) ∨ (n = a.length ∧ a.length ≤ b.length)) := ⟨_, rfl, by omega⟩
  have na : n ≤ a.length := by omega
  have nb : n ≤ b.length := by omega
  have Hn := Lib.hid hn
  clear hn
  have Ca := fun w h => areNumbers_c A (a.take n) n c w (by simp; omega) h (by omega)
  have Cb := fun w h => areNumbers_c B (b.take n) n d w (by simp; omega) h (by omega)
  cases h1 : allNum (a.take n)
  · have hno : jok a b = false := by
      obtain ⟨i, hi, hf⟩ := allNum_take_no h1 na
      exact jok_no (k := i) (i := i) (by have := Hn.out; omega) (by omega) (fun q => by rw [q.1] at hf; cases hf)
    have HF := Lib.hid hno
    rw [h1] at Ca
    have H1 := Lib.hid Ca
    clear Ca Cb hno h1
    rcases hba with ⟨rfl, hba⟩ | ⟨rfl, hba⟩
    all_goals
      go_enter Tryz.func49, Tryz.ntmps49
      go_wp2_with fail
      refine (H1.out _ (ha.take _)).mono ?_; rintro e w' ⟨rfl, rfl⟩
      go_wp2_with fail
      go_ret2
      refine ⟨_, by rw [HF.out]; rfl, ?_, by exact bel0⟩
      rw [jres_no HF.out]
      exact Own.mk_empty _ _ (Nat.le_refl _)
  · cases h2 : allNum (b.take n)
    · have hno : jok a b = false := by
        obtain ⟨i, hi, hf⟩ := allNum_take_no h2 nb
        exact jok_no (k := i) (i := 0) (by have := Hn.out; omega) (by omega) (fun q => by have := q.2.1; rw [Nat.sub_zero, hf] at this; cases this)
      have HF := Lib.hid hno
      rw [h1] at Ca
      rw [h2] at Cb
      have H1 := Lib.hid Ca
      have H2 := Lib.hid Cb
      clear Ca Cb hno h1 h2
      rcases hba with ⟨rfl, hba⟩ | ⟨rfl, hba⟩
      all_goals
        go_enter Tryz.func49, Tryz.ntmps49
        go_wp2_with fail
        refine (H1.out _ (ha.take _)).mono ?_; rintro e w' ⟨rfl, rfl⟩
        go_wp2_with fail
        refine (H2.out _ (hb.take _)).mono ?_; rintro e w' ⟨rfl, rfl⟩
        go_wp2_with fail
        go_ret2
        refine ⟨_, by rw [HF.out]; rfl, ?_, by exact bel0⟩
        rw [jres_no HF.out]
        exact Own.mk_empty _ _ (Nat.le_refl _)
    · have NA := Lib.hid (allNum_take h1 na)
      have NB := Lib.hid (allNum_take h2 nb)
      rw [h1] at Ca
      rw [h2] at Cb
      have H1 := Lib.hid Ca
      have H2 := Lib.hid Cb
      clear Ca Cb h1 h2
      rcases hba with ⟨rfl, hba⟩ | ⟨rfl, hba⟩
      · go_enter Tryz.func49, Tryz.ntmps49
        go_wp2_with fail
        refine (H1.out _ (ha.take _)).mono ?_; rintro e w' ⟨rfl, rfl⟩
        go_wp2_with fail
        refine (H2.out _ (hb.take _)).mono ?_; rintro e w' ⟨rfl, rfl⟩
        go_wp2_with fail
        go_loopw [7, 8] (fun v k wr => ∃ (n : Nat), k = .int .i64 n ∧ n ≤ b.length ∧ Own wr w.heap.size v (jtList a b n) ∧ Grows w wr ∧ ∀ k', k' < n → rowOK a b k') (fun _ k _ => b.length - (intOf k).toNat)
        case atStart => exact ⟨0, rfl, Nat.zero_le _, Own.mk_empty _ _ (Nat.le_refl _), by exact bel0, fun k' h => by omega⟩
        case round =>
          obtain ⟨n, rfl, hn1, hown, hgr, hrow⟩ := hrel
          have HR := Lib.hid hrow
          clear hrow
          by_cases hlt : n < b.length
          · go_wp2_with fail
            obtain ⟨wo, rfl⟩ : ∃ wo : World, wo = wr := ⟨_, rfl⟩
            go_loopw [9, 10] (fun s i w2 => ∃ (t : Nat), i = .int .i64 t ∧ t ≤ n + 1 ∧ s = .int .i64 (psum a b n t) ∧ isNum (psum a b n t) = true ∧ (∀ u, u < t → cellOK a b n u) ∧ ∃ q, w2 = wo.drewN q) (fun _ i _ => n + 1 - (intOf i).toNat)
            case atStart => exact ⟨0, rfl, Nat.zero_le _, rfl, by simp only [psum]; decide, fun u h => by omega, 0, rfl⟩
            case round =>
              obtain ⟨t, rfl, ht, rfl, hps, hcells, q, rfl⟩ := hrel
              have HU := Lib.hid hcells
              have HP := Lib.hid hps
              have hpb := (isNum_iff _).1 hps
              clear hcells hps
              by_cases hlt3 : t ≤ n
              · obtain ⟨b1, o1, rfl, hbs1, hc1⟩ := (ha.grows hgr).at_ t (by omega)
                obtain ⟨b2, o2, rfl, hbs2, hc2⟩ := (hb.grows hgr).at_ (n - t) (by omega)
                have x1 := NA.out t (by omega)
                have x2 := NB.out (n - t) (by omega)
                have hpr := mul_bd x1 x2
                have X1 := Lib.hid x1
                have X2 := Lib.hid x2
                clear x1 x2
                have i1 : (t : Int) < (a.length : Int) := by omega
                have i2 : (n : Int) - (t : Int) < (b.length : Int) := by omega
                have i3 : (0 : Int) ≤ (n : Int) - (t : Int) := by omega
                have i4 : (t : Int) ≤ (n : Int) := by omega
                have i5 : ((n : Int) - (t : Int)).toNat = n - t := by omega
                have i6 : IntKind.i64.wrap (nth a t * nth b (n - t)) = nth a t * nth b (n - t) := IntWalk.i64_in _ (by omega)
                have H3 := Lib.hid fun w => HN.out w (nth a t * nth b (n - t))
                have H4 := Lib.hid fun w => HN.out w (psum a b n t + nth a t * nth b (n - t))
                cases h3 : isNum (nth a t * nth b (n - t))
                · have hno := Lib.hid (jok_no (a := a) (b := b) (k := n) (i := t) (by have := Hn.out; omega) (by omega) (fun q => by have := q.2.2.1; rw [show isNum (prodAt a b n t) = false from h3] at this; cases this))
                  rw [h3] at H3
                  have H3' := Lib.hid H3.out
                  clear h3 H3
                  go_wp2_with fail
                  go_quiet (fail)
                  clear i6
                  go_wp2_with fail
                  refine (H3'.out _).mono ?_; rintro e w' ⟨rfl, rfl⟩
                  go_wp2_with fail
                  go_ret2
                  refine ⟨_, by rw [hno.out]; rfl, ?_, ?_⟩
                  · rw [jres_no hno.out]; exact Own.mk_empty _ _ (by simpa using hgr.size)
                  · exact bel1 hgr
                · cases h4 : isNum (psum a b n t + nth a t * nth b (n - t))
                  · have hno := Lib.hid (jok_no (a := a) (b := b) (k := n) (i := t) (by have := Hn.out; omega) (by omega) (fun q => by have := q.2.2.2; rw [show isNum (psum a b n (t + 1)) = false from h4] at this; cases this))
                    rw [h3] at H3
                    rw [h4] at H4
                    have H3' := Lib.hid H3.out
                    have H4' := Lib.hid H4.out
                    clear h3 H3 h4 H4
                    go_wp2_with fail
                    go_quiet (fail)
                    clear i6
                    go_wp2_with fail
                    refine (H3'.out _).mono ?_; rintro e w' ⟨rfl, rfl⟩
                    go_wp2_with fail
                    refine (H4'.out _).mono ?_; rintro e w' ⟨rfl, rfl⟩
                    go_wp2_with fail
                    go_ret2
                    refine ⟨_, by rw [hno.out]; rfl, ?_, ?_⟩
                    · rw [jres_no hno.out]; exact Own.mk_empty _ _ (by simpa using hgr.size)
                    · exact bel1 hgr
                  · have hco := Lib.hid (show cellOK a b n t from ⟨X1.out, X2.out, h3, h4⟩)
                    rw [h3] at H3
                    rw [h4] at H4
                    have H3' := Lib.hid H3.out
                    have H4' := Lib.hid H4.out
                    clear h3 H3 h4 H4
                    go_wp2_with fail
                    go_quiet (fail)
                    clear i6
                    go_wp2_with fail
                    refine (H3'.out _).mono ?_; rintro e w' ⟨rfl, rfl⟩
                    go_wp2_with fail
                    refine (H4'.out _).mono ?_; rintro e w' ⟨rfl, rfl⟩
                    go_wp2_with fail
                    go_round
                    case rel => exact ⟨t + 1, by go_num, by omega, rfl, hco.out.2.2.2, fun u hu => by (by_cases e : u = t); (· subst e; exact hco.out); (· exact HU.out u (by omega)), _, rfl⟩
                    case measure => simp [intOf]; omega
              · obtain rfl : t = n + 1 := by omega
                go_wp2_with (at_builtin; refine wpList_app1 rfl (.tmp 64) (.tmp 66) rfl _ (psum a b n (n + 1)) w.heap.size _ _ rfl hown.drewN_ rfl (by rw [jtList_length]; omega) (by simpa using hgr.size) ?_; intro v2 w2 hown2 hgb _)
                go_round
                case rel =>
                  refine ⟨n + 1, by go_num, by omega, by rw [jtList_succ]; exact hown2, Below.trans (below_drewN hgr _) (below_app hown.drewN_ (by simpa using hgr.size) hgb), fun k' hk' => ?_⟩
                  by_cases e : k' = n
                  · subst e; exact HU.out
                  · exact HR.out k' (by omega)
                case measure => simp [intOf]; omega
          · obtain rfl : n = b.length := by omega
            have hmin : min a.length b.length = b.length := by omega
            have HK := Lib.hid (jok_yes (a := a) (b := b) (fun k hk => HR.out k (by omega)))
            have HM := Lib.hid hmin
            clear hmin
            go_wp2_with fail
            go_ret2
            refine ⟨_, by rw [HK.out]; rfl, ?_, hgr⟩
            rw [jres_yes HK.out, HM.out]
            exact hown
      · go_enter Tryz.func49, Tryz.ntmps49
        go_wp2_with fail
        refine (H1.out _ (ha.take _)).mono ?_; rintro e w' ⟨rfl, rfl⟩
        go_wp2_with fail
        refine (H2.out _ (hb.take _)).mono ?_; rintro e w' ⟨rfl, rfl⟩
        go_wp2_with fail
        go_loopw [7, 8] (fun v k wr => ∃ (n : Nat), k = .int .i64 n ∧ n ≤ a.length ∧ Own wr w.heap.size v (jtList a b n) ∧ Grows w wr ∧ ∀ k', k' < n → rowOK a b k') (fun _ k _ => a.length - (intOf k).toNat)
        case atStart => exact ⟨0, rfl, Nat.zero_le _, Own.mk_empty _ _ (Nat.le_refl _), by exact bel0, fun k' h => by omega⟩
        case round =>
          obtain ⟨n, rfl, hn1, hown, hgr, hrow⟩ := hrel
          have HR := Lib.hid hrow
          clear hrow
          by_cases hlt : n < a.length
          · go_wp2_with fail
            obtain ⟨wo, rfl⟩ : ∃ wo : World, wo = wr := ⟨_, rfl⟩
            go_loopw [9, 10] (fun s i w2 => ∃ (t : Nat), i = .int .i64 t ∧ t ≤ n + 1 ∧ s = .int .i64 (psum a b n t) ∧ isNum (psum a b n t) = true ∧ (∀ u, u < t → cellOK a b n u) ∧ ∃ q, w2 = wo.drewN q) (fun _ i _ => n + 1 - (intOf i).toNat)
            case atStart => exact ⟨0, rfl, Nat.zero_le _, rfl, by simp only [psum]; decide, fun u h => by omega, 0, rfl⟩
            case round =>
              obtain ⟨t, rfl, ht, rfl, hps, hcells, q, rfl⟩ := hrel
              have HU := Lib.hid hcells
              have HP := Lib.hid hps
              have hpb := (isNum_iff _).1 hps
              clear hcells hps
              by_cases hlt3 : t ≤ n
              · obtain ⟨b1, o1, rfl, hbs1, hc1⟩ := (ha.grows hgr).at_ t (by omega)
                obtain ⟨b2, o2, rfl, hbs2, hc2⟩ := (hb.grows hgr).at_ (n - t) (by omega)
                have x1 := NA.out t (by omega)
                have x2 := NB.out (n - t) (by omega)
                have hpr := mul_bd x1 x2
                have X1 := Lib.hid x1
                have X2 := Lib.hid x2
                clear x1 x2
                have i1 : (t : Int) < (a.length : Int) := by omega
                have i2 : (n : Int) - (t : Int) < (b.length : Int) := by omega
                have i3 : (0 : Int) ≤ (n : Int) - (t : Int) := by omega
                have i4 : (t : Int) ≤ (n : Int) := by omega
                have i5 : ((n : Int) - (t : Int)).toNat = n - t := by omega
                have i6 : IntKind.i64.wrap (nth a t * nth b (n - t)) = nth a t * nth b (n - t) := IntWalk.i64_in _ (by omega)
                have H3 := Lib.hid fun w => HN.out w (nth a t * nth b (n - t))
                have H4 := Lib.hid fun w => HN.out w (psum a b n t + nth a t * nth b (n - t))
                cases h3 : isNum (nth a t * nth b (n - t))
                · have hno := Lib.hid (jok_no (a := a) (b := b) (k := n) (i := t) (by have := Hn.out; omega) (by omega) (fun q => by have := q.2.2.1; rw [show isNum (prodAt a b n t) = false from h3] at this; cases this))
                  rw [h3] at H3
                  have H3' := Lib.hid H3.out
                  clear h3 H3
                  go_wp2_with fail
                  go_quiet (fail)
                  clear i6
                  go_wp2_with fail
                  refine (H3'.out _).mono ?_; rintro e w' ⟨rfl, rfl⟩
                  go_wp2_with fail
                  go_ret2
                  refine ⟨_, by rw [hno.out]; rfl, ?_, ?_⟩
                  · rw [jres_no hno.out]; exact Own.mk_empty _ _ (by simpa using hgr.size)
                  · exact bel1 hgr
                · cases h4 : isNum (psum a b n t + nth a t * nth b (n - t))
                  · have hno := Lib.hid (jok_no (a := a) (b := b) (k := n) (i := t) (by have := Hn.out; omega) (by omega) (fun q => by have := q.2.2.2; rw [show isNum (psum a b n (t + 1)) = false from h4] at this; cases this))
                    rw [h3] at H3
                    rw [h4] at H4
                    have H3' := Lib.hid H3.out
                    have H4' := Lib.hid H4.out
                    clear h3 H3 h4 H4
                    go_wp2_with fail
                    go_quiet (fail)
                    clear i6
                    go_wp2_with fail
                    refine (H3'.out _).mono ?_; rintro e w' ⟨rfl, rfl⟩
                    go_wp2_with fail
                    refine (H4'.out _).mono ?_; rintro e w' ⟨rfl, rfl⟩
                    go_wp2_with fail
                    go_ret2
                    refine ⟨_, by rw [hno.out]; rfl, ?_, ?_⟩
                    · rw [jres_no hno.out]; exact Own.mk_empty _ _ (by simpa using hgr.size)
                    · exact bel1 hgr
                  · have hco := Lib.hid (show cellOK a b n t from ⟨X1.out, X2.out, h3, h4⟩)
                    rw [h3] at H3
                    rw [h4] at H4
                    have H3' := Lib.hid H3.out
                    have H4' := Lib.hid H4.out
                    clear h3 H3 h4 H4
                    go_wp2_with fail
                    go_quiet (fail)
                    clear i6
                    go_wp2_with fail
                    refine (H3'.out _).mono ?_; rintro e w' ⟨rfl, rfl⟩
                    go_wp2_with fail
                    refine (H4'.out _).mono ?_; rintro e w' ⟨rfl, rfl⟩
                    go_wp2_with fail
                    go_round
                    case rel => exact ⟨t + 1, by go_num, by omega, rfl, hco.out.2.2.2, fun u hu => by (by_cases e : u = t); (· subst e; exact hco.out); (· exact HU.out u (by omega)), _, rfl⟩
                    case measure => simp [intOf]; omega
              · obtain rfl : t = n + 1 := by omega
                go_wp2_with (at_builtin; refine wpList_app1 rfl (.tmp 64) (.tmp 66) rfl _ (psum a b n (n + 1)) w.heap.size _ _ rfl hown.drewN_ rfl (by rw [jtList_length]; omega) (by simpa using hgr.size) ?_; intro v2 w2 hown2 hgb _)
                go_round
                case rel =>
                  refine ⟨n + 1, by go_num, by omega, by rw [jtList_succ]; exact hown2, Below.trans (below_drewN hgr _) (below_app hown.drewN_ (by simpa using hgr.size) hgb), fun k' hk' => ?_⟩
                  by_cases e : k' = n
                  · subst e; exact HU.out
                  · exact HR.out k' (by omega)
                case measure => simp [intOf]; omega
          · obtain rfl : n = a.length := by omega
            have hmin : min a.length b.length = a.length := by omega
            have HK := Lib.hid (jok_yes (a := a) (b := b) (fun k hk => HR.out k (by omega)))
            have HM := Lib.hid hmin
            clear hmin
            go_wp2_with fail
            go_ret2
            refine ⟨_, by rw [HK.out]; rfl, ?_, hgr⟩
            rw [jres_yes HK.out, HM.out]
            exact hown
end Go.Proofs.YtfilbjbogggaoaaGreat

/- Contracts: DirectSum. Printed by mkds.py. -/
namespace Go.Proofs.YtfilbjbogggaoaaGreat
set_option linter.unusedSimpArgs false
set_option linter.unusedVariables false
open Go.RowKit

/-- a matrix of N rows and columns that is filled up to row I, column J; else 0 -/
def U (N : Nat) (f : Nat → Nat → Int) (I J : Nat) : List Int := tab N N fun i j => if i < I ∨ (i = I ∧ j < J) then f i j else 0
theorem U_length (N : Nat) (f : Nat → Nat → Int) (I J : Nat) : (U N f I J).length = N * N := tab_length _ _ _
theorem U_set {N I J : Nat} {f : Nat → Nat → Int} (hI : I < N) (hJ : J < N) : (U N f I J).set (I * N + J) (f I J) = U N f I (J + 1) := by
  refine tab_ext (by rw [List.length_set, U_length]) fun i j hi hj => ?_
  rw [nth_set _ _ _ _ (by rw [U_length]; exact idx_lt hI hJ)]
  by_cases h : i * N + j = I * N + J
  · obtain ⟨rfl, rfl⟩ := idx_inj hj hJ h
    rw [if_pos rfl, if_pos (by omega)]
  · rw [if_neg h]
    unfold U
    rw [tab_nth _ hi hj]
    have : ¬ (i = I ∧ j = J) := fun ⟨e1, e2⟩ => h (by rw [e1, e2])
    by_cases h2 : i < I ∨ (i = I ∧ j < J)
    · rw [if_pos h2, if_pos (by omega)]
    · rw [if_neg h2, if_neg (by omega)]
theorem U_skip {N I J : Nat} {f : Nat → Nat → Int} (h : f I J = 0) : U N f I (J + 1) = U N f I J := by
  refine tab_congr fun i j _ _ => ?_
  by_cases e : i = I ∧ j = J
  · obtain ⟨rfl, rfl⟩ := e
    rw [if_pos (by omega), if_neg (by omega), h]
  · by_cases h2 : i < I ∨ (i = I ∧ j < J)
    · rw [if_pos h2, if_pos (by omega)]
    · rw [if_neg h2, if_neg (by omega)]
theorem U_rowz {N I K : Nat} {f : Nat → Nat → Int} (h : ∀ j, K ≤ j → j < N → f I j = 0) : U N f I K = U N f (I + 1) 0 := by
  refine tab_congr fun i j _ hj => ?_
  by_cases e : i = I ∧ K ≤ j
  · obtain ⟨rfl, e2⟩ := e
    rw [if_neg (by omega), if_pos (by omega), h j e2 hj]
  · by_cases h2 : i < I ∨ (i = I ∧ j < K)
    · rw [if_pos h2, if_pos (by omega)]
    · rw [if_neg h2, if_neg (by omega)]
theorem U_row {N I : Nat} {f : Nat → Nat → Int} : U N f I N = U N f (I + 1) 0 := U_rowz fun j h1 h2 => by omega
theorem U_to {N I K : Nat} {f : Nat → Nat → Int} (h : ∀ j, j < K → f I j = 0) : U N f I K = U N f I 0 := by
  refine tab_congr fun i j _ _ => ?_
  by_cases e : i = I ∧ j < K
  · obtain ⟨rfl, e2⟩ := e
    rw [if_pos (by omega), if_neg (by omega), h j e2]
  · by_cases h2 : i < I ∨ (i = I ∧ j < K)
    · rw [if_pos h2, if_pos (by omega)]
    · rw [if_neg h2, if_neg (by omega)]
theorem U_congr {N I : Nat} {f g : Nat → Nat → Int} (h : ∀ i j, i < I → f i j = g i j) : U N f I 0 = U N g I 0 := by
  refine tab_congr fun i j _ _ => ?_
  by_cases e : i < I
  · rw [if_pos (by omega), if_pos (by omega), h i j e]
  · rw [if_neg (by omega), if_neg (by omega)]
theorem U_zero (N : Nat) (f : Nat → Nat → Int) : List.replicate (N * N) 0 = U N f 0 0 := by
  refine tab_ext (by simp) fun i j _ _ => ?_
  rw [nth_replicate, if_neg (by omega)]
theorem U_all (N : Nat) (f : Nat → Nat → Int) : U N f N 0 = tab N N f := tab_congr fun i j hi _ => by rw [if_pos (by omega)]

def dsF (n m : Nat) (a b : List Int) (i j : Nat) : Int := if i < n ∧ j < n then nth a (i * n + j) else if n ≤ i ∧ n ≤ j then nth b ((i - n) * m + (j - n)) else 0
def dsA (n : Nat) (a : List Int) (i j : Nat) : Int := if i < n ∧ j < n then nth a (i * n + j) else 0
def dsL (n m : Nat) (a b : List Int) : List Int := tab (n + m) (n + m) (dsF n m a b)
theorem dsF_a {n m : Nat} {a b : List Int} {i j : Nat} (h1 : i < n) (h2 : j < n) : dsF n m a b i j = nth a (i * n + j) := by unfold dsF; rw [if_pos ⟨h1, h2⟩]
theorem dsF_b {n m : Nat} {a b : List Int} {i j : Nat} (h1 : n ≤ i) (h2 : n ≤ j) : dsF n m a b i j = nth b ((i - n) * m + (j - n)) := by unfold dsF; rw [if_neg (by omega), if_pos ⟨h1, h2⟩]
theorem dsF_0 {n m : Nat} {a b : List Int} {i j : Nat} (h1 : ¬ (i < n ∧ j < n)) (h2 : ¬ (n ≤ i ∧ n ≤ j)) : dsF n m a b i j = 0 := by unfold dsF; rw [if_neg h1, if_neg h2]
theorem dsA_a {n : Nat} {a : List Int} {i j : Nat} (h1 : i < n) (h2 : j < n) : dsA n a i j = nth a (i * n + j) := by unfold dsA; rw [if_pos ⟨h1, h2⟩]
theorem dsA_0 {n : Nat} {a : List Int} {i j : Nat} (h1 : ¬ (i < n ∧ j < n)) : dsA n a i j = 0 := by unfold dsA; rw [if_neg h1]
def dsOk (r c : Int) (a : List Int) (r' c' : Int) (b : List Int) : Bool := isGram r c a && isGram r' c' b && decide (r + r' ≤ 6)
def dsR (r c : Int) (a : List Int) (r' c' : Int) (b : List Int) : Int := if dsOk r c a r' c' b then r + r' else 0
def dsV (r c : Int) (a : List Int) (r' c' : Int) (b : List Int) : List Int := if dsOk r c a r' c' b then dsL r.toNat r'.toNat a b else []
theorem ds_no {r c : Int} {a : List Int} {r' c' : Int} {b : List Int} (h : dsOk r c a r' c' b = false) : dsR r c a r' c' b = 0 ∧ dsV r c a r' c' b = [] := by simp [dsR, dsV, h]
theorem dsOk_no {r c : Int} {a : List Int} {r' c' : Int} {b : List Int} (h : isGram r c a = false ∨ isGram r' c' b = false ∨ decide (r + r' ≤ 6) = false) : dsOk r c a r' c' b = false := by
  unfold dsOk
  rcases h with h | h | h <;> rw [h] <;> simp
theorem dsV_length (r c : Int) (a : List Int) (r' c' : Int) (b : List Int) : (dsV r c a r' c' b).length ≤ 36 := by
  unfold dsV
  split
  · rename_i h
    unfold dsOk at h
    rw [Bool.and_eq_true, Bool.and_eq_true] at h
    obtain ⟨_, R, rfl, rfl, _⟩ := isSq_nat (isGram_sq h.1.1)
    obtain ⟨_, R', rfl, rfl, _⟩ := isSq_nat (isGram_sq h.1.2)
    have h3 := h.2
    simp only [decide_eq_true_eq] at h3
    unfold dsL
    rw [tab_length]
    simp only [Int.toNat_natCast]
    have h4 : R + R' ≤ 6 := by omega
    exact Nat.mul_le_mul h4 h4
  · simp

theorem gram_bd {r c : Int} {a : List Int} (h : isGram r c a = true) : 0 ≤ r ∧ r ≤ 6 := by
  obtain ⟨_, R, rfl, _, hR, _⟩ := isSq_nat (isGram_sq h)
  omega

section
set_option maxHeartbeats 1000000
theorem iDs_no (r c r' c' : Int) (A B : Option Addr) (a b : List Int) (n m ca cb : Nat) (w : World) (hn : a.length = n) (hm : b.length = m) (ha : Rd w A a) (hb : Rd w B b) (hl : n ≤ 1099511627776) (hl2 : m ≤ 1099511627776) (h : isGram r c a = false ∨ isGram r' c' b = false ∨ decide (r + r' ≤ 6) = false) :
    Calls Tryz.prog 48 #[.agg #[.int .i64 r, .int .i64 c, .slice A n ca], .agg #[.int .i64 r', .int .i64 c', .slice B m cb]] w fun e w' => e = .returned (.tuple #[.agg #[.int .i64 0, .int .i64 0, .slice none 0 0], .bool false]) ∧ Grows w w' := by
  have C1 := fun W h => iIsGram_c r c A a n ca W hn h hl
  have C2 := fun W h => iIsGram_c r' c' B b m cb W hm h hl2
  cases h1 : isGram r c a
  · rw [h1] at C1
    have H1 := Lib.hid C1
    clear C1 C2 h1 h hn hm
    go_enter Tryz.func48, Tryz.ntmps48
    go_wp2_with fail
    refine (H1.out _ (by exact (Rd.grows ha (by exact bel0)))).mono ?_; rintro e w1 ⟨rfl, g1⟩
    have rb : MBox w1 (w.heap.size + 2) 0 0 (.slice none 0 0) := by have := (MBox.mk_ ((w.alloc (.cells #[.int .i64 r, .int .i64 c, .slice A n ca] 26)).alloc (.cells #[.int .i64 r', .int .i64 c', .slice B m cb] 26)) 0 0 (.slice none 0 0) 26).grows (w' := w1) (by exact bel1 g1); simpa using this
    have mb0 : MBox w1 w.heap.size r c (.slice A n ca) := (MBox.mk_ w r c (.slice A n ca) 26).grows (by exact bel1 g1)
    have mb1 : MBox w1 (w.heap.size + 1) r' c' (.slice B m cb) := by have := (MBox.mk_ (w.alloc (.cells #[.int .i64 r, .int .i64 c, .slice A n ca] 26)) r' c' (.slice B m cb) 26).grows (w' := w1) (by exact bel1 g1); simpa using this
    obtain ⟨r0, r1, r2⟩ := rb.cells
    have rf := rb.fz
    go_wp2_with fail
    refine bodyPost_ret (v := .tuple #[.agg #[.int .i64 0, .int .i64 0, .slice none 0 0], .bool false]) ?_ rfl ?_
    · simp [results, Tryz.results48, go_sem, r0, r1, r2]
    · exact ⟨rfl, by exact bel1 g1⟩
  · cases h2 : isGram r' c' b
    · rw [h1] at C1
      rw [h2] at C2
      have H1 := Lib.hid C1
      have H2 := Lib.hid C2
      clear C1 C2 h1 h2 h hn hm
      go_enter Tryz.func48, Tryz.ntmps48
      go_wp2_with fail
      refine (H1.out _ (by exact (Rd.grows ha (by exact bel0)))).mono ?_; rintro e w1 ⟨rfl, g1⟩
      have rb : MBox w1 (w.heap.size + 2) 0 0 (.slice none 0 0) := by have := (MBox.mk_ ((w.alloc (.cells #[.int .i64 r, .int .i64 c, .slice A n ca] 26)).alloc (.cells #[.int .i64 r', .int .i64 c', .slice B m cb] 26)) 0 0 (.slice none 0 0) 26).grows (w' := w1) (by exact bel1 g1); simpa using this
      have mb0 : MBox w1 w.heap.size r c (.slice A n ca) := (MBox.mk_ w r c (.slice A n ca) 26).grows (by exact bel1 g1)
      have mb1 : MBox w1 (w.heap.size + 1) r' c' (.slice B m cb) := by have := (MBox.mk_ (w.alloc (.cells #[.int .i64 r, .int .i64 c, .slice A n ca] 26)) r' c' (.slice B m cb) 26).grows (w' := w1) (by exact bel1 g1); simpa using this
      obtain ⟨b00, b01, b02⟩ := mb0.cells
      obtain ⟨b10, b11, b12⟩ := mb1.cells
      go_wp2_with fail
      refine (H2.out _ (by exact (Rd.grows hb (by exact bel1 g1)))).mono ?_; rintro e w2 ⟨rfl, g2⟩
      replace rb := rb.grows g2
      obtain ⟨r0, r1, r2⟩ := rb.cells
      have rf := rb.fz
      go_wp2_with fail
      refine bodyPost_ret (v := .tuple #[.agg #[.int .i64 0, .int .i64 0, .slice none 0 0], .bool false]) ?_ rfl ?_
      · simp [results, Tryz.results48, go_sem, r0, r1, r2]
      · exact ⟨rfl, by exact bel2 g2 g1⟩
    · have q1 := gram_bd h1
      have q2 := gram_bd h2
      have h3 : 6 < r + r' := by
        rcases h with h | h | h
        · rw [h1] at h; cases h
        · rw [h2] at h; cases h
        · simpa using h
      have e3 : IntKind.i64.wrap (r + r') = r + r' := IntWalk.i64_in _ (by omega)
      clear q1 q2
      rw [h1] at C1
      rw [h2] at C2
      have H1 := Lib.hid C1
      have H2 := Lib.hid C2
      clear C1 C2 h1 h2 h hn hm
      go_enter Tryz.func48, Tryz.ntmps48
      go_wp2_with fail
      refine (H1.out _ (by exact (Rd.grows ha (by exact bel0)))).mono ?_; rintro e w1 ⟨rfl, g1⟩
      have rb : MBox w1 (w.heap.size + 2) 0 0 (.slice none 0 0) := by have := (MBox.mk_ ((w.alloc (.cells #[.int .i64 r, .int .i64 c, .slice A n ca] 26)).alloc (.cells #[.int .i64 r', .int .i64 c', .slice B m cb] 26)) 0 0 (.slice none 0 0) 26).grows (w' := w1) (by exact bel1 g1); simpa using this
      have mb0 : MBox w1 w.heap.size r c (.slice A n ca) := (MBox.mk_ w r c (.slice A n ca) 26).grows (by exact bel1 g1)
      have mb1 : MBox w1 (w.heap.size + 1) r' c' (.slice B m cb) := by have := (MBox.mk_ (w.alloc (.cells #[.int .i64 r, .int .i64 c, .slice A n ca] 26)) r' c' (.slice B m cb) 26).grows (w' := w1) (by exact bel1 g1); simpa using this
      obtain ⟨b00, b01, b02⟩ := mb0.cells
      obtain ⟨b10, b11, b12⟩ := mb1.cells
      go_wp2_with fail
      refine (H2.out _ (by exact (Rd.grows hb (by exact bel1 g1)))).mono ?_; rintro e w2 ⟨rfl, g2⟩
      replace rb := rb.grows g2
      replace mb0 := mb0.grows g2
      replace mb1 := mb1.grows g2
      clear b00 b01 b02 b10 b11 b12
      obtain ⟨b00, b01, b02⟩ := mb0.cells
      obtain ⟨b10, b11, b12⟩ := mb1.cells
      obtain ⟨r0, r1, r2⟩ := rb.cells
      have rf := rb.fz
      go_wp2_with fail
      refine bodyPost_ret (v := .tuple #[.agg #[.int .i64 0, .int .i64 0, .slice none 0 0], .bool false]) ?_ rfl ?_
      · simp [results, Tryz.results48, go_sem, r0, r1, r2]
      · exact ⟨rfl, by exact bel2 g2 g1⟩
end
end Go.Proofs.YtfilbjbogggaoaaGreat

/- Contracts: DirectSum, the program's. -/
namespace Go.Proofs.YtfilbjbogggaoaaGreat
set_option linter.unusedSimpArgs false
set_option linter.unusedVariables false
open Go.RowKit

section
set_option maxHeartbeats 2000000
theorem iDs_yes (N R R' : Nat) (hN : N = R + R') (A B : Option Addr) (a b : List Int) (n m ca cb : Nat) (w : World) (hn : a.length = n) (hm : b.length = m) (ha : Rd w A a) (hb : Rd w B b) (h1 : isGram R R a = true) (h2 : isGram R' R' b = true) (h3 : N ≤ 6) :
    Calls Tryz.prog 48 #[.agg #[.int .i64 R, .int .i64 R, .slice A n ca], .agg #[.int .i64 R', .int .i64 R', .slice B m cb]] w fun e w' =>
      ∃ v, e = .returned (.tuple #[.agg #[.int .i64 N, .int .i64 N, v], .bool true]) ∧ Own w' w.heap.size v (tab N N (dsF R R' a b)) ∧ Grows w w' := by
  subst hn
  subst hm
  obtain ⟨_, R1, e1, _, hR, la, _⟩ := isSq_nat (isGram_sq h1)
  obtain rfl : R = R1 := by omega
  obtain ⟨_, R1, e2, _, hR', lb, _⟩ := isSq_nat (isGram_sq h2)
  obtain rfl : R' = R1 := by omega
  have hRR : R * R ≤ 36 := Nat.mul_le_mul hR hR
  have hRR' : R' * R' ≤ 36 := Nat.mul_le_mul hR' hR'
  have hNN : N * N ≤ 36 := Nat.mul_le_mul h3 h3
  have C1 := fun W h => iIsGram_c R R A a a.length ca W rfl h (by omega)
  have C2 := fun W h => iIsGram_c R' R' B b b.length cb W rfl h (by omega)
  rw [h1] at C1
  rw [h2] at C2
  have HC1 := Lib.hid C1
  have HC2 := Lib.hid C2
  have HLA := Lib.hid la
  have HLB := Lib.hid lb
  have HNN := Lib.hid hN
  have HA := Lib.hid (rd_bound ha)
  have HB := Lib.hid (rd_bound hb)
  have e3 : IntKind.i64.wrap ((R : Int) + (R' : Int)) = (N : Int) := by rw [show (R : Int) + (R' : Int) = (N : Int) by omega]; exact IntWalk.i64_in _ (by omega)
  have hle : R ≤ N := by omega
  have e4 : ¬ ((6 : Int) < (N : Int)) := by omega
  clear C1 C2 h1 h2 la lb e1 e2 hN
  go_enter Tryz.func48, Tryz.ntmps48
  go_wp2_with fail
  refine (HC1.out _ (by exact (Rd.grows ha (by exact bel0)))).mono ?_; rintro e v1 ⟨rfl, g1⟩
  have z1 := Below.size g1; simp at z1
  have mb0 : MBox v1 w.heap.size R R (.slice A a.length ca) := (MBox.mk_ w R R (.slice A a.length ca) 26).grows (by exact bel1 g1)
  have mb1 : MBox v1 (w.heap.size + 1) R' R' (.slice B b.length cb) := by have := (MBox.mk_ (w.alloc (.cells #[.int .i64 R, .int .i64 R, .slice A a.length ca] 26)) R' R' (.slice B b.length cb) 26).grows (w' := v1) (by exact bel1 g1); simpa using this
  have rb : MBox v1 (w.heap.size + 2) 0 0 (.slice none 0 0) := by have := (MBox.mk_ ((w.alloc (.cells #[.int .i64 R, .int .i64 R, .slice A a.length ca] 26)).alloc (.cells #[.int .i64 R', .int .i64 R', .slice B b.length cb] 26)) 0 0 (.slice none 0 0) 26).grows (w' := v1) (by exact bel1 g1); simpa using this
  have rda : Rd v1 A a := (Rd.grows ha (by exact bel1 g1))
  have rdb : Rd v1 B b := (Rd.grows hb (by exact bel1 g1))
  have gw : Grows w v1 := by exact bel1 g1
  clear g1 ha hb
  obtain ⟨b00, b01, b02⟩ := mb0.cells
  obtain ⟨b10, b11, b12⟩ := mb1.cells
  go_wp2_with fail
  refine (HC2.out _ (by exact (Rd.grows rdb (by exact bel0)))).mono ?_; rintro e v2 ⟨rfl, g1⟩
  have z2 := Below.size g1
  replace mb0 := mb0.grows g1
  replace mb1 := mb1.grows g1
  replace rb := rb.grows g1
  replace rda := rda.grows g1
  replace rdb := rdb.grows g1
  replace gw : Grows w v2 := Grows.trans gw g1
  clear g1 b00 b01 b02 b10 b11 b12
  obtain ⟨b00, b01, b02⟩ := mb0.cells
  obtain ⟨b10, b11, b12⟩ := mb1.cells
  go_wp2_with fail
  refine (newMatrix_c N N _ (by omega)).mono ?_; rintro e w2 ⟨g, rfl, ho, g2⟩
  obtain ⟨ho1, ho2⟩ := ho.lt
  have z3 := Below.size g2
  replace mb0 := mb0.grows g2
  replace mb1 := mb1.grows g2
  replace rb := rb.grows g2
  replace rda := rda.grows g2
  replace rdb := rdb.grows g2
  replace gw : Grows w w2 := Grows.trans gw g2
  replace ho := ho.less (show w.heap.size ≤ _ by omega)
  rw [U_zero N (dsF R R' a b)] at ho
  have lo : w.heap.size + 2 < g := by omega
  clear g2 ho1 z1 z2 z3 b00 b01 b02 b10 b11 b12
  obtain ⟨b00, b01, b02⟩ := mb0.cells
  obtain ⟨b10, b11, b12⟩ := mb1.cells
  go_wp2_with fail
  go_loopw [8] (fun i wr => ∃ (I : Nat), i = .int .i64 I ∧ I ≤ N ∧ Own wr w.heap.size (.slice (some ⟨g, 0, none⟩) (N * N) (N * N)) (U N (dsF R R' a b) I 0) ∧ Rd wr A a ∧ Rd wr B b ∧ Grows w wr ∧ MBox wr w.heap.size R R (.slice A a.length ca) ∧ MBox wr (w.heap.size + 1) R' R' (.slice B b.length cb) ∧ MBox wr (w.heap.size + 2) 0 0 (.slice none 0 0) ∧ MBox wr w2.heap.size N N (.slice (some ⟨g, 0, none⟩) (N * N) (N * N))) (fun i _ => N - (intOf i).toNat)
  case atStart => exact ⟨0, rfl, Nat.zero_le _, ho.alloc _, rda.alloc _, rdb.alloc _, by exact bel1 gw, mb0.grows (by exact bel0), mb1.grows (by exact bel0), rb.grows (by exact bel0), MBox.mk_ _ _ _ _ _⟩
  case round =>
    clear mb0 mb1 rb rda rdb gw ho b00 b01 b02 b10 b11 b12
    obtain ⟨I, rfl, hI, how, hra, hrb, hgr, hm0, hm1, hrr, hmo⟩ := hrel
    obtain ⟨o0, o1, o2⟩ := hmo.cells
    by_cases hlt : I < N
    · go_wp2_with fail
      obtain ⟨wo, rfl⟩ : ∃ wo : World, wo = wr := ⟨_, rfl⟩
      go_loopw [9] (fun j wr => ∃ (J : Nat), j = .int .i64 J ∧ J ≤ N ∧ Own wr w.heap.size (.slice (some ⟨g, 0, none⟩) (N * N) (N * N)) (U N (dsF R R' a b) I J) ∧ Rd wr A a ∧ Rd wr B b ∧ Grows w wr ∧ MBox wr w.heap.size R R (.slice A a.length ca) ∧ MBox wr (w.heap.size + 1) R' R' (.slice B b.length cb) ∧ MBox wr (w.heap.size + 2) 0 0 (.slice none 0 0) ∧ MBox wr w2.heap.size N N (.slice (some ⟨g, 0, none⟩) (N * N) (N * N))) (fun j _ => N - (intOf j).toNat)
      case atStart => exact ⟨0, rfl, Nat.zero_le _, how, hra, hrb, hgr, hm0, hm1, hrr, hmo⟩
      case round =>
        clear o0 o1 o2 how hra hrb hgr hm0 hm1 hrr hmo
        obtain ⟨J, rfl, hJ, how, hra, hrb, hgr, hm0, hm1, hrr, hmo⟩ := hrel
        by_cases hlt2 : J < N
        · have hi1 : I * N ≤ 36 := by have := Nat.mul_le_mul (Nat.le_of_lt hlt) (Nat.le_refl N); omega
          have hi2 : I * N + J < N * N := idx_lt hlt hlt2
          by_cases hIR : I < R
          · by_cases hJR : J < R
            · obtain ⟨o0, o1, o2⟩ := hmo.cells
              go_wp2_with fail
              clear o0 o1 o2
              obtain ⟨x0, x1, x2⟩ := hm0.ext
              obtain ⟨y0, y1, y2⟩ := hmo.ext
              have i1 := castMul I R
              have i2 : (I : Int) * (R : Int) ≤ ((1048576 : Nat) : Int) := castMulLe (by have := Nat.mul_le_mul (Nat.le_of_lt hIR) (Nat.le_refl R); omega)
              have i3 := castPos I R J
              have i4 : (I : Int) * (R : Int) + (J : Int) < (a.length : Int) := castLt (by rw [HLA.out]; exact idx_lt hIR hJR)
              ((refine wp_region_tail 7 (by kernel_rfl) (by kernel_rfl) ?_; simp only [List.take_succ_cons, List.take_zero, List.drop_succ_cons, List.drop_zero]); (repeat (go_big_quiet_step ((go_at_call 85; exact extC (at_c R R A a a.length ca I J _ rfl (Rd.ext hra _) (by omega) (by omega) (by omega) (by omega) (by have := HLA.out; omega)))))); refine wpQuiet_nil ?_; rintro w3 ⟨w30, hw30⟩; have g3 := grows_of_ext hw30; clear hw30 w30)
              go_wp2_with fail
              refine (set_c N N g (N * N) (N * N) w.heap.size _ I J _ w3 (U_length _ _ _ _) (how.grows g3) (by omega) hi2 (by omega)).mono ?_; rintro e w4 ⟨rfl, ho4, gb⟩
              have hs3 := Below.size hgr
              have hs4 := Below.size g3
              obtain ⟨o0, o1, o2⟩ := ((hmo.grows g3).only gb (by omega)).cells
              go_wp2_with fail
              go_round
              case rel =>
                exact ⟨J + 1, by go_num, by omega, by rw [← dsF_a (m := R') (b := b) hIR hJR, U_set hlt hlt2] at ho4; exact ho4, (hra.grows g3).only HA.out gb (by omega), (hrb.grows g3).only HB.out gb (by omega), below_only (Grows.trans hgr g3) gb (by omega) (by omega), (hm0.grows g3).only gb (by omega), (hm1.grows g3).only gb (by omega), (hrr.grows g3).only gb (by omega), (hmo.grows g3).only gb (by omega)⟩
              case measure => simp [intOf]; omega
            · obtain ⟨o0, o1, o2⟩ := hmo.cells
              go_wp2_with fail
              go_round
              case rel => exact ⟨J + 1, by go_num, by omega, by rw [U_skip (dsF_0 (by omega) (by omega))]; exact how, hra, hrb, hgr, hm0, hm1, hrr, hmo⟩
              case measure => simp [intOf]; omega
          · by_cases hJR : J < R
            · obtain ⟨o0, o1, o2⟩ := hmo.cells
              go_wp2_with fail
              go_round
              case rel => exact ⟨J + 1, by go_num, by omega, by rw [U_skip (dsF_0 (by omega) (by omega))]; exact how, hra, hrb, hgr, hm0, hm1, hrr, hmo⟩
              case measure => simp [intOf]; omega
            · obtain ⟨o0, o1, o2⟩ := hmo.cells
              go_wp2_with fail
              clear o0 o1 o2
              obtain ⟨x0, x1, x2⟩ := hm1.ext
              obtain ⟨y0, y1, y2⟩ := hmo.ext
              have hI2 : I - R < R' := by have := HNN.out; omega
              have hJ2 : J - R < R' := by have := HNN.out; omega
              have e5 : IntKind.i64.wrap ((I : Int) - (R : Int)) = ((I - R : Nat) : Int) := by rw [show (I : Int) - (R : Int) = ((I - R : Nat) : Int) by omega]; exact IntWalk.i64_in _ (by omega)
              have e6 : IntKind.i64.wrap ((J : Int) - (R : Int)) = ((J - R : Nat) : Int) := by rw [show (J : Int) - (R : Int) = ((J - R : Nat) : Int) by omega]; exact IntWalk.i64_in _ (by omega)
              have i1 := castMul (I - R) R'
              have i2 : ((I - R : Nat) : Int) * (R' : Int) ≤ ((1048576 : Nat) : Int) := castMulLe (by have := Nat.mul_le_mul (Nat.le_of_lt hI2) (Nat.le_refl R'); omega)
              have i3 := castPos (I - R) R' (J - R)
              have i4 : ((I - R : Nat) : Int) * (R' : Int) + ((J - R : Nat) : Int) < (b.length : Int) := castLt (by rw [HLB.out]; exact idx_lt hI2 hJ2)
              ((refine wp_region_tail 11 (by kernel_rfl) (by kernel_rfl) ?_; simp only [List.take_succ_cons, List.take_zero, List.drop_succ_cons, List.drop_zero]); (repeat (go_big_quiet_step ((go_at_call 85; exact extC (at_c R' R' B b b.length cb (I - R : Nat) (J - R : Nat) _ rfl (Rd.ext hrb _) (by omega) (by omega) (by omega) (by omega) (by have := HLB.out; omega)))))); refine wpQuiet_nil ?_; rintro w3 ⟨w30, hw30⟩; have g3 := grows_of_ext hw30; clear hw30 w30)
              go_wp2_with fail
              refine (set_c N N g (N * N) (N * N) w.heap.size _ I J _ w3 (U_length _ _ _ _) (how.grows g3) (by omega) hi2 (by omega)).mono ?_; rintro e w4 ⟨rfl, ho4, gb⟩
              have hs3 := Below.size hgr
              have hs4 := Below.size g3
              go_wp2_with fail
              go_round
              case rel =>
                exact ⟨J + 1, by go_num, by omega, by rw [← dsF_b (n := R) (m := R') (a := a) (b := b) (i := I) (j := J) (by omega) (by omega), U_set hlt hlt2] at ho4; exact ho4, (hra.grows g3).only HA.out gb (by omega), (hrb.grows g3).only HB.out gb (by omega), below_only (Grows.trans hgr g3) gb (by omega) (by omega), (hm0.grows g3).only gb (by omega), (hm1.grows g3).only gb (by omega), (hrr.grows g3).only gb (by omega), (hmo.grows g3).only gb (by omega)⟩
              case measure => simp [intOf]; omega
        · obtain rfl : J = N := by omega
          obtain ⟨o0, o1, o2⟩ := hmo.cells
          go_wp2_with fail
          go_round
          case rel =>
            exact ⟨I + 1, by go_num, by omega, by rw [U_row] at how; exact how, hra, hrb, hgr, hm0, hm1, hrr, hmo⟩
          case measure => simp [intOf]; omega
    · obtain rfl : I = N := by omega
      rw [U_all] at how
      obtain ⟨r0, r1, r2⟩ := hrr.cells
      have rf := hrr.fz
      go_wp2_with fail
      refine bodyPost_ret (v := .tuple #[.agg #[.int .i64 I, .int .i64 I, .slice (some ⟨g, 0, none⟩) (I * I) (I * I)], .bool true]) ?_ rfl ?_
      · simp [results, Tryz.results48, go_sem, r0, r1, r2]
      · have hs5 := Below.size hgr
        exact ⟨_, rfl, ((how.far (by intro k hk; simp [Value.ownBlock] at hk; simp; omega) _).far (by intro k hk; simp [Value.ownBlock] at hk; simp; omega) _).far (by intro k hk; simp [Value.ownBlock] at hk; simp; omega) _, by exact bel1 hgr⟩
end
end Go.Proofs.YtfilbjbogggaoaaGreat

/- Contracts: DirectSum, the reference's. -/
namespace Go.Proofs.YtfilbjbogggaoaaGreat
set_option linter.unusedSimpArgs false
set_option linter.unusedVariables false
open Go.RowKit

section
set_option maxHeartbeats 2000000
end
end Go.Proofs.YtfilbjbogggaoaaGreat

/- Contracts: DirectSum, for all arguments. -/
namespace Go.Proofs.YtfilbjbogggaoaaGreat
set_option linter.unusedSimpArgs false
set_option linter.unusedVariables false
open Go.RowKit

theorem iDirectSum_c (r c r' c' : Int) (A B : Option Addr) (a b : List Int) (n m ca cb : Nat) (w : World) (hn : a.length = n) (hm : b.length = m) (ha : Rd w A a) (hb : Rd w B b) (hl : n ≤ 1099511627776) (hl2 : m ≤ 1099511627776) :
    Calls Tryz.prog 48 #[.agg #[.int .i64 r, .int .i64 c, .slice A n ca], .agg #[.int .i64 r', .int .i64 c', .slice B m cb]] w fun e w' =>
      ∃ v, e = .returned (.tuple #[.agg #[.int .i64 (dsR r c a r' c' b), .int .i64 (dsR r c a r' c' b), v], .bool (dsOk r c a r' c' b)]) ∧ Own w' w.heap.size v (dsV r c a r' c' b) ∧ Grows w w' := by
  by_cases h : isGram r c a = false ∨ isGram r' c' b = false ∨ decide (r + r' ≤ 6) = false
  · have e0 := dsOk_no h
    obtain ⟨e1, e2⟩ := ds_no e0
    rw [e0, e1, e2]
    exact (iDs_no r c r' c' A B a b n m ca cb w hn hm ha hb hl hl2 h).mono fun e w' ⟨he, hg⟩ => ⟨_, he, Own.nil _ _, hg⟩
  · have h1 : isGram r c a = true := by
      cases e : isGram r c a
      · exact absurd (.inl e) h
      · rfl
    have h2 : isGram r' c' b = true := by
      cases e : isGram r' c' b
      · exact absurd (.inr (.inl e)) h
      · rfl
    have h3 : decide (r + r' ≤ 6) = true := by
      cases e : decide (r + r' ≤ 6)
      · exact absurd (.inr (.inr e)) h
      · rfl
    have e0 : dsOk r c a r' c' b = true := by unfold dsOk; rw [h1, h2, h3]; rfl
    obtain ⟨_, R, rfl, rfl, _⟩ := isSq_nat (isGram_sq h1)
    obtain ⟨_, R', rfl, rfl, _⟩ := isSq_nat (isGram_sq h2)
    simp only [decide_eq_true_eq] at h3
    have e1 : dsR R R a R' R' b = ((R + R' : Nat) : Int) := by unfold dsR; rw [e0, if_pos rfl]; omega
    have e2 : dsV R R a R' R' b = tab (R + R') (R + R') (dsF R R' a b) := by unfold dsV dsL; rw [e0, if_pos rfl]; simp only [Int.toNat_natCast]
    rw [e0, e1, e2]
    exact iDs_yes (R + R') R R' rfl A B a b n m ca cb w hn hm ha hb h1 h2 (by omega)
end Go.Proofs.YtfilbjbogggaoaaGreat
