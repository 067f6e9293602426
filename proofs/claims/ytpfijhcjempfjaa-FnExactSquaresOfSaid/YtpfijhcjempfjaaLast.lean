/- Regions that draw their order, with a last operation that waits for all others: it may be split off. -/
import Derived.Test.YtpfijhcjempfjaaReg
import Derived.Test.YtpfijhcjempfjaaTail
import Derived.Deep.RegionHeld3
namespace Go.Proofs.Ytpfijhcjempfjaa
open Go.RowKit

section
variable {P : Program} {md : Region.Mode}

/-- what is asked behind the others: the last operation, then what is asked behind the region -/
def lastQ (P : Program) (Q : Exit → Act → World → Prop) (s : Oper) : Exit → Act → World → Prop
  | .normal, a, w => wpList P #[] Q [s] a w
  | _, _, _ => False
theorem lastQ_go {P : Program} {Q : Exit → Act → World → Prop} {s : Oper} {a : Act} {w : World} (h : wpList P #[] Q [s] a w) : lastQ P Q s .normal a w := h

theorem wp_lastQ {Q : Exit → Act → World → Prop} {s : Oper} {o : Oper} {a : Act} {w : World} {K : Act → World → Prop} (h : o.wp P a w K (lastQ P Q s)) : o.wp P a w K Q := by
  unfold Oper.wp at *
  generalize (execOp a.eval o).run P w = r at *
  cases r with
  | ok n w' => cases n <;> simp only [Oper.upon] at h ⊢ <;> first | exact h | exact Calls.mono h (fun e w'' he => by cases e <;> first | exact he | exact he.elim | exact (let ⟨_, _, h⟩ := he; h.elim))
  | halt x w' => cases x <;> simp only [Oper.upon] at h ⊢ <;> first | exact h | exact h.elim
theorem lets_lastQ {Q : Exit → Act → World → Prop} {s : Oper} (h : LetsOut (lastQ P Q s)) : False := let ⟨_, _, h⟩ := h; h

/-- no guards; every edge leads to an earlier operation; number n waits for all before it -/
def lastB (md : Region.Mode) (ops : Array Oper) (n : Nat) : Bool :=
  decide (ops.size = n + 1) && (List.range ops.size).all (fun j => match ops[j]? with
    | some o => o.guard.isNone && o.after.all (fun e => !Region.binds md e || decide (e.on < j))
    | none => false) && (List.range n).all (fun i => Region.waitsFor md ops n i)

theorem lastB_spec {ops : Array Oper} {n : Nat} (h : lastB md ops n = true) :
    ops.size = n + 1 ∧ (∀ j o, ops[j]? = some o → o.guard = none ∧ ∀ e ∈ o.after, Region.binds md e = true → e.on < j) ∧ ∀ i, i < n → Region.waitsFor md ops n i = true := by
  simp only [lastB, Bool.and_eq_true, decide_eq_true_eq, List.all_eq_true, List.mem_range] at h
  obtain ⟨⟨h1, h2⟩, h3⟩ := h
  refine ⟨h1, fun j o ho => ?_, h3⟩
  have hj := (Array.getElem?_eq_some_iff.1 ho).1
  have h4 := h2 j hj
  rw [ho] at h4
  simp only [Bool.and_eq_true, Option.isNone_iff_eq_none, Array.all_eq_true_iff_forall_mem, Bool.or_eq_true, Bool.not_eq_true', decide_eq_true_eq] at h4
  exact ⟨h4.1, fun e he hb => (h4.2 e he).resolve_left (by simp [hb])⟩

theorem wpOp_to {ops ops' : Array Oper} {Q : Exit → Act → World → Prop} {s : Oper} {i : Nat} {K K' : Act → World → Prop} {a : Act} {w : World} {o : Oper} (h1 : ops[i]? = some o) (h2 : ops'[i]? = some o) (hg : o.guard = none)
    (hK : ∀ a w, K a w → K' a w) (h : wpOp P ops' (lastQ P Q s) i K a w) : wpOp P ops Q i K' a w := by
  unfold wpOp at *
  simp only [h1, h2] at *
  have w1 : ∀ y, Region.wanted o y = true := fun y => by simp [Region.wanted, hg]
  rw [if_pos (w1 _)] at *
  exact h.elim (fun h => .inl (Oper.wp_mono hK (wp_lastQ h))) (fun h => (lets_lastQ h.2).elim)

theorem any_last {l : List Oper} {s : Oper} {Q : Exit → Act → World → Prop} (hB : lastB md (l ++ [s]).toArray l.length = true) :
    ∀ (f : Nat) (ls : Array Bool) (a : Act) (w : World), ls.size = l.length →
      wpAny P md l.toArray (lastQ P Q s) f ls a w → wpAny P md (l ++ [s]).toArray Q (f + 1) (ls.push false) a w := by
  obtain ⟨hsz, hops, hwait⟩ := lastB_spec hB
  have hget : ∀ i, i < l.length → (l ++ [s]).toArray[i]? = l.toArray[i]? := fun i hi => by simp [List.getElem?_append_left hi]
  have hd : ∀ (ls : Array Bool), ls.size = l.length → ∀ j d, j < l.length → (ls.push false).getD j d = ls.getD j d := fun ls hs j d hj => by
    have hj' : j < ls.size := by omega
    simp [Array.getElem_push, hj', Nat.lt_succ_of_lt hj']
  -- one that may come up among the first ones
  have hr1 : ∀ (ls : Array Bool), ls.size = l.length → ∀ j, j < l.length → (j ∈ Region.ready md (l ++ [s]).toArray (ls.push false) ↔ j ∈ Region.ready md l.toArray ls) := fun ls hs j hj => by
    rw [mem_ready, mem_ready, hd ls hs j true hj, hget j hj]
    constructor
    · rintro ⟨h0, o, ho, hall⟩
      exact ⟨h0, o, ho, fun e he hb => by
        have h1 := (hops j o (by rw [hget j hj]; exact ho)).2 e he hb
        have := hall e he hb
        rwa [hd ls hs e.on false (by omega)] at this⟩
    · rintro ⟨h0, o, ho, hall⟩
      exact ⟨h0, o, ho, fun e he hb => by
        have h1 := (hops j o (by rw [hget j hj]; exact ho)).2 e he hb
        rw [hd ls hs e.on false (by omega)]
        exact hall e he hb⟩
  have hnr : ∀ (ls : Array Bool), ls.size = l.length → l.length ∈ Region.ready md (l ++ [s]).toArray (ls.push false) → ∀ i, i < l.length → ls.getD i false = true := fun ls hs hm i hi => by
    obtain ⟨_, o, ho, hall⟩ := mem_ready.1 hm
    obtain ⟨o', ho', e, he, hb, hon⟩ := Region.waitsFor_spec (hwait i hi)
    obtain rfl : o' = o := Option.some.inj (ho'.symm.trans ho)
    have := hall e he hb
    rwa [hon, hd ls hs i false hi] at this
  have hnone : ∀ (ls : Array Bool), ls.size = l.length → Region.ready md (l ++ [s]).toArray (ls.push false) = [] → False := fun ls hs h0 => by
    have hall : ∀ i, i < l.length + 1 → (ls.push false).getD i false = true := by
      intro i
      induction i using Nat.strongRecOn with
      | _ i ih =>
        intro hi
        cases hl : (ls.push false).getD i false with
        | true => rfl
        | false =>
          obtain ⟨o, ho⟩ : ∃ o, (l ++ [s]).toArray[i]? = some o := ⟨_, Array.getElem?_eq_getElem (by rw [hsz]; exact hi)⟩
          have : i ∈ Region.ready md (l ++ [s]).toArray (ls.push false) := mem_ready.2 ⟨getD_in (by simp [hs]; omega) hl, o, ho, fun e he hb => by
            have := (hops i o ho).2 e he hb
            exact ih e.on this (by omega)⟩
          rw [h0] at this
          cases this
    have := hall l.length (by omega)
    rw [← hs] at this
    simp at this
  have hend : ∀ (ls : Array Bool), ls.size = l.length → (∀ i, i < l.length → ls.getD i false = true) → Region.ready md (l ++ [s]).toArray ((ls.push false).setIfInBounds l.length true) = [] := fun ls hs hall => by
    refine List.eq_nil_iff_forall_not_mem.2 fun j hj => ?_
    obtain ⟨h0, o, ho, _⟩ := mem_ready.1 hj
    have hj2 : j < l.length + 1 := by have := (Array.getElem?_eq_some_iff.1 ho).1; rwa [hsz] at this
    have h1 : ((ls.push false).setIfInBounds l.length true).getD j false = true := by
      by_cases e : j = l.length
      · subst e; simp [← hs]
      · rw [getD_set_ne false (Ne.symm e), hd ls hs j false (by omega)]
        exact hall j (by omega)
    have h2 : ((ls.push false).setIfInBounds l.length true).getD j false = false := getD_both h0
    rw [h1] at h2
    cases h2
  have hdone : ∀ (ls : Array Bool), ls.size = l.length → (∀ i, i < l.length → ls.getD i false = true) → Region.ready md l.toArray ls = [] := fun ls hs hall => by
    refine List.eq_nil_iff_forall_not_mem.2 fun j hj => ?_
    obtain ⟨h0, o, ho, _⟩ := mem_ready.1 hj
    have hj2 : j < l.length := by have := (Array.getElem?_eq_some_iff.1 ho).1; simpa using this
    have := getD_both h0
    rw [hall j hj2] at this
    cases this
  have hsome : ∀ i, i < l.length → ∃ o, l.toArray[i]? = some o := fun i hi => ⟨_, Array.getElem?_eq_getElem (by simpa using hi)⟩
  -- the last one comes up: all others are done
  have hlast : ∀ (f : Nat) (ls : Array Bool) (a : Act) (w : World), ls.size = l.length → l.length ∈ Region.ready md (l ++ [s]).toArray (ls.push false) →
      (Region.ready md l.toArray ls = [] → lastQ P Q s .normal a w) → wpOp P (l ++ [s]).toArray Q l.length (wpAny P md (l ++ [s]).toArray Q f ((ls.push false).setIfInBounds l.length true)) a w := fun f ls a w hs hm h => by
    have hall := hnr ls hs hm
    have hq0 : wpOp P (l ++ [s]).toArray Q l.length (Q .normal) a w := by
      have h1 : wpList P #[] Q [s] a w := h (hdone ls hs hall)
      have ho : (l ++ [s]).toArray[l.length]? = some s := by simp
      have w1 : ∀ y, Region.wanted s y = true := fun y => by simp [Region.wanted, (hops _ _ ho).1]
      unfold wpOp
      simp only [ho]
      unfold wpList at h1
      rw [if_pos (w1 _)] at *
      exact h1
    refine wpOp_mono (fun a' w' hq => ?_) hq0
    have he := hend ls hs hall
    cases f with
    | zero => exact ⟨he, hq⟩
    | succ f => exact ⟨fun _ => hq, fun i hi => by rw [he] at hi; cases hi⟩
  intro f
  induction f with
  | zero =>
    intro ls a w hs h
    refine ⟨fun h0 => (hnone ls hs h0).elim, fun i hi => ?_⟩
    have hi2 : i < l.length + 1 := by have := (Array.getElem?_eq_some_iff.1 (mem_ready.1 hi).2.choose_spec.1).1; rwa [hsz] at this
    by_cases e : i = l.length
    · subst e
      exact hlast 0 ls a w hs hi fun _ => h.2
    · have := (hr1 ls hs i (by omega)).1 hi
      rw [h.1] at this
      cases this
  | succ f ih =>
    intro ls a w hs h
    refine ⟨fun h0 => (hnone ls hs h0).elim, fun i hi => ?_⟩
    have hi2 : i < l.length + 1 := by have := (Array.getElem?_eq_some_iff.1 (mem_ready.1 hi).2.choose_spec.1).1; rwa [hsz] at this
    by_cases e : i = l.length
    · subst e
      exact hlast (f + 1) ls a w hs hi h.1
    · have hil : i < l.length := by omega
      have h1 := h.2 i ((hr1 ls hs i hil).1 hi)
      obtain ⟨o, ho⟩ := hsome i hil
      refine wpOp_to (by rw [hget i hil]; exact ho) ho (hops i o (by rw [hget i hil]; exact ho)).1 (fun a' w' hq => ?_) h1
      have := ih (ls.setIfInBounds i true) a' w' (by simpa using hs) hq
      have e2 : (ls.push false).setIfInBounds i true = (ls.setIfInBounds i true).push false := by
        apply Array.toList_inj.1
        have : i < ls.toList.length := by simpa [hs] using hil
        simp [List.set_append_left _ _ this]
      rw [e2]
      exact this

/-- An operation without guard and without edges that nobody waits for, the last of the row: it is taken first and left out. -/
theorem any_drop {l : List Oper} {p : Oper} {Q : Exit → Act → World → Prop} (hops : ∀ j o, (l ++ [p]).toArray[j]? = some o → o.guard = none ∧ ∀ e ∈ o.after, Region.binds md e = true → e.on < j) :
    ∀ (f : Nat) (ls : Array Bool) (a : Act) (w : World), ls.size = l.length → wpAny P md l.toArray Q f ls a w → wpAny P md (l ++ [p]).toArray Q f (ls.push true) a w := by
  have hget : ∀ i, i < l.length → (l ++ [p]).toArray[i]? = l.toArray[i]? := fun i hi => by simp [List.getElem?_append_left hi]
  have hd : ∀ (ls : Array Bool), ls.size = l.length → ∀ j d, j < l.length → (ls.push true).getD j d = ls.getD j d := fun ls hs j d hj => by
    have hj' : j < ls.size := by omega
    simp [Array.getElem_push, hj', Nat.lt_succ_of_lt hj']
  have hr1 : ∀ (ls : Array Bool), ls.size = l.length → ∀ j, j < l.length → (j ∈ Region.ready md (l ++ [p]).toArray (ls.push true) ↔ j ∈ Region.ready md l.toArray ls) := fun ls hs j hj => by
    rw [mem_ready, mem_ready, hd ls hs j true hj, hget j hj]
    constructor
    · rintro ⟨h0, o, ho, hall⟩
      exact ⟨h0, o, ho, fun e he hb => by
        have h1 := (hops j o (by rw [hget j hj]; exact ho)).2 e he hb
        have := hall e he hb
        rwa [hd ls hs e.on false (by omega)] at this⟩
    · rintro ⟨h0, o, ho, hall⟩
      exact ⟨h0, o, ho, fun e he hb => by
        have h1 := (hops j o (by rw [hget j hj]; exact ho)).2 e he hb
        rw [hd ls hs e.on false (by omega)]
        exact hall e he hb⟩
  have hlt : ∀ (ls : Array Bool), ls.size = l.length → ∀ j, j ∈ Region.ready md (l ++ [p]).toArray (ls.push true) → j < l.length := fun ls hs j hj => by
    obtain ⟨h0, o, ho, _⟩ := mem_ready.1 hj
    have hj2 : j < l.length + 1 := by have := (Array.getElem?_eq_some_iff.1 ho).1; simpa using this
    by_cases e : j = l.length
    · subst e
      have := getD_both h0
      rw [← hs] at this
      simp at this
    · omega
  have hnil : ∀ (ls : Array Bool), ls.size = l.length → (Region.ready md (l ++ [p]).toArray (ls.push true) = [] ↔ Region.ready md l.toArray ls = []) := fun ls hs => by
    rw [List.eq_nil_iff_forall_not_mem, List.eq_nil_iff_forall_not_mem]
    constructor
    · intro h j hj
      have hj2 : j < l.length := by have := (Array.getElem?_eq_some_iff.1 (mem_ready.1 hj).2.choose_spec.1).1; simpa using this
      exact h j ((hr1 ls hs j hj2).2 hj)
    · intro h j hj
      exact h j ((hr1 ls hs j (hlt ls hs j hj)).1 hj)
  intro f
  induction f with
  | zero => intro ls a w hs h; exact ⟨(hnil ls hs).2 h.1, h.2⟩
  | succ f ih =>
    intro ls a w hs h
    refine ⟨fun h0 => h.1 ((hnil ls hs).1 h0), fun i hi => ?_⟩
    have hil := hlt ls hs i hi
    have h1 := h.2 i ((hr1 ls hs i hil).1 hi)
    have e2 : (ls.push true).setIfInBounds i true = (ls.setIfInBounds i true).push true := by
      apply Array.toList_inj.1
      have : i < ls.toList.length := by simpa [hs] using hil
      simp [List.set_append_left _ _ this]
    rw [e2]
    obtain ⟨o, ho⟩ : ∃ o, l.toArray[i]? = some o := ⟨_, Array.getElem?_eq_getElem (by simpa using hil)⟩
    have ho2 := (hget i hil).trans ho
    have w1 : ∀ y, Region.wanted o y = true := fun y => by simp [Region.wanted, (hops i o ho2).1]
    unfold wpOp at *
    simp only [ho, ho2] at *
    rw [if_pos (w1 _)] at *
    exact h1.imp (fun h => Oper.wp_mono (fun a' w' hq => ih _ a' w' (by simpa using hs) hq) h) id

theorem any_of_tail {l : List Oper} {Q : Exit → Act → World → Prop} {a : Act} {w0 w : World} (n : Nat) (hB : Region.lexTailB .any l.toArray n = true) (hw : ∃ W, w = ext w0 W)
    (h : wpQuiet P l.toArray (fun w' => ∃ W, w' = ext w0 W) (fun a' => ∀ w', (∃ W, w' = ext w0 W) → wpList P l.toArray Q (l.drop n) a' w') (l.take n) a) : wpAny P .any l.toArray Q l.length (Array.replicate l.length false) a w := by
  simp only [Region.lexTailB, Bool.and_eq_true, decide_eq_true_eq] at hB
  obtain ⟨⟨⟨⟨hsel, hn⟩, hs⟩, hc⟩, hlex⟩ := hB
  have hn' : n < l.length := by simpa using hn
  have hz : l.toArray.size = l.length := by simp
  have htl : (l.take n).length = n := by simp; omega
  have hdl : (l.drop n).length = l.toArray.size - n := by simp
  have inv0 : HeadInv .any l.toArray n (Array.replicate l.toArray.size false) :=
    ⟨by simp, fun j oj _ hl => (by rw [getD_replicate_false] at hl; cases hl), fun t _ ht => getD_in (by simpa using ht) (getD_replicate_false _ _)⟩
  have H := head_lex (md := .any) (g := l.toArray.size - n) hsel hs hc hn (l.take n) 0 _ a (fun j hj => by
    rw [htl] at hj
    simp [hj]) (by simpa using htl) inv0 (by rw [htl]; exact hlex) h
  have := any_of_head (Q := Q) (g := l.toArray.size - n) (fun ls a' w' hw' hL => by
    have := wpAny_of_seq (md := .any) (Q' := Q) (l.drop n) n ls a' w' (fun j => by simp [List.getElem?_drop]) (by rw [hdl]; exact hL.1) (hL.2 w' hw')
    rwa [hdl] at this) _ _ _ _ hw H
  rw [htl, show n + (l.toArray.size - n) = l.toArray.size by omega, hz] at this
  exact this

/-- what the rule asks of a region: a head of n operations, a forced tail, an operation that waits for nothing and that only the last one waits for, the last one -/
def fieldB (l : List Oper) (p s : Oper) (n : Nat) : Bool :=
  lastB .any (l ++ [p] ++ [s]).toArray (l.length + 1) && Region.noSelect (l ++ [p]).toArray && Region.free .any (l ++ [p]).toArray (Array.replicate (l.length + 1) false) l.length &&
    (Region.ready .any (l ++ [p]).toArray (Array.replicate (l.length + 1) false)).contains l.length && Region.lexTailB .any l.toArray n

/-- The rule for 'x.f = append(x.f, ..)': the operation before the last is taken first, the last one is split off. -/
theorem wp_region_field {id : Nat} {Q : Exit → Act → World → Prop} {a : Act} {w : World} {l : List Oper} {p s : Oper} {v : Value} (n : Nat) (hm : P.follows .mixedOrders = true) (hB : fieldB l p s n = true)
    (hy : Yields P (l ++ [p]).toArray p v a)
    (h : wpQuiet P l.toArray (fun w' => ∃ W, w' = ext w W) (fun a' => ∀ w', (∃ W, w' = ext w W) → wpList P l.toArray (lastQ P Q s) (l.drop n) a' w') (l.take n) (a.put p.dst v)) : (Code.region id (l ++ [p] ++ [s]).toArray true).wp P Q a w := by
  simp only [fieldB, Bool.and_eq_true] at hB
  obtain ⟨⟨⟨⟨h1, h2⟩, h3⟩, h4⟩, h5⟩ := hB
  have hL : (l ++ [p]).length = l.length + 1 := by simp
  rw [← hL] at h1
  obtain ⟨_, hops, _⟩ := lastB_spec h1
  have hops1 : ∀ j o, (l ++ [p]).toArray[j]? = some o → o.guard = none ∧ ∀ e ∈ o.after, Region.binds .any e = true → e.on < j := fun j o ho => by
    have hj : j < (l ++ [p]).length := by have := (Array.getElem?_eq_some_iff.1 ho).1; simpa using this
    exact hops j o (by rw [← ho]; simp only [List.getElem?_toArray]; exact List.getElem?_append_left hj)
  refine wp_region_any hm ?_
  have hC0 : ∃ W, ({ w with drawn := w.drawn + 1 } : World) = ext w W := ⟨_, (ext_of (Below.drew (Below.refl _ _))).symm⟩
  have H1 := any_of_tail n h5 hC0 h
  have H2 := any_drop (p := p) hops1 _ _ _ _ (by simp) H1
  have H3 : wpAny P .any (l ++ [p]).toArray (lastQ P Q s) (l.length + 1) (Array.replicate (l.length + 1) false) a { w with drawn := w.drawn + 1 } := by
    refine wpAny_take (i := l.length) (oi := p) (by simp) h2 h3 h4 (fun _ _ _ h => h) hy ?_
    rw [show (Array.replicate (l.length + 1) false).setIfInBounds l.length true = (Array.replicate l.length false).push true by
      apply Array.toList_inj.1
      simp [List.replicate_succ', List.set_append_right]]
    exact H2
  have H4 := any_last h1 _ _ _ _ (by simp) H3
  rw [show (l ++ [p] ++ [s]).toArray.size = l.length + 1 + 1 by simp, show (Array.replicate (l.length + 1 + 1) false) = (Array.replicate (l.length + 1) false).push false by
    apply Array.toList_inj.1
    simp [List.replicate_succ']]
  exact H4

/-- The same over a row of operations as the text has it: its last two are p and s. -/
theorem wp_region_field2 {id : Nat} {Q : Exit → Act → World → Prop} {a : Act} {w : World} {L : List Oper} (k : Nat) {p s : Oper} {v : Value} (n : Nat) (hd : L.drop k = [p, s]) (hm : P.follows .mixedOrders = true) (hB : fieldB (L.take k) p s n = true)
    (hy : Yields P (L.take k ++ [p]).toArray p v a)
    (h : wpQuiet P (L.take k).toArray (fun w' => ∃ W, w' = ext w W) (fun a' => ∀ w', (∃ W, w' = ext w W) → wpList P (L.take k).toArray (lastQ P Q s) ((L.take k).drop n) a' w') ((L.take k).take n) (a.put p.dst v)) : (Code.region id L.toArray true).wp P Q a w := by
  have e : L = L.take k ++ [p] ++ [s] := by
    have := (List.take_append_drop k L).symm
    rw [hd] at this
    simpa using this
  have := wp_region_field (id := id) n hm hB hy h
  rwa [← e] at this

/-- The last operation split off, the rest under a condition S that each step shows anew. -/
theorem wp_region_held_last {id : Nat} {Q : Exit → Act → World → Prop} {a : Act} {w : World} {L : List Oper} (k : Nat) {s : Oper} (S : World → Prop) (hd : L.drop k = [s]) (hm : P.follows .mixedOrders = true) (hB : lastB .any L.toArray k = true) (hS : S w.drew)
    (h : S w.drew → wpAnyH P .any (L.take k).toArray (lastQ P Q s) S k (Array.replicate k false) a w.drew) : (Code.region id L.toArray true).wp P Q a w := by
  have e : L.take k ++ [s] = L := by
    have := List.take_append_drop k L
    rwa [hd] at this
  have hk : (L.take k).length = k := by
    have h1 : (L.drop k).length = 1 := by rw [hd]; rfl
    rw [List.length_drop] at h1
    rw [List.length_take]
    omega
  refine wp_region_any hm ?_
  have H := any_last (l := L.take k) (s := s) (Q := Q) (by rw [e, hk]; exact hB) k (Array.replicate k false) a w.drew (by simp [hk]) (wpAny_of_held _ _ _ _ (h hS))
  rw [e] at H
  rw [show L.toArray.size = k + 1 by rw [← e]; simp [hk], show (Array.replicate (k + 1) false) = (Array.replicate k false).push false by
    apply Array.toList_inj.1
    simp [List.replicate_succ']]
  exact H
theorem heldL_take {Q : Exit → Act → World → Prop} {S : World → Prop} {l : List Oper} {i : Nat} {oi : Oper} {v : Value} {fuel : Nat} {listed : Array Bool} {a : Act} {w : World} (hi : l[i]? = some oi)
    (hs : Region.noSelect l.toArray = true) (hf : Region.free md l.toArray listed i = true) (hr : (Region.ready md l.toArray listed).contains i = true)
    (hQ : ∀ c a w, Q (.panic c) (a.put oi.dst v) w → Q (.panic c) a w) (hy : YieldsIf P l.toArray S oi v a) (hS : S w)
    (h : wpAnyH P md l.toArray Q S fuel (listed.setIfInBounds i true) (a.put oi.dst v) w) : wpAnyH P md l.toArray Q S (fuel + 1) listed a w :=
  wpAnyH_take (by simpa using hi) hs hf hr hQ hy hS h
theorem heldL_step {Q : Exit → Act → World → Prop} {S : World → Prop} {l : List Oper} {i : Nat} {o : Oper} {fuel : Nat} {listed : Array Bool} {a : Act} {w : World} (hr : Region.ready md l.toArray listed = [i]) (hi : l[i]? = some o)
    (h : ∀ K' : Act → World → Prop, Shut (∀ a w, S w → (S w → wpAnyH P md l.toArray Q S fuel (listed.setIfInBounds i true) a w) → K' a w) → if Region.wanted o (yielded l.toArray a.tmps) = true then Oper.wp P o a w K' Q else K' (a.put o.dst undef) w) : wpAnyH P md l.toArray Q S (fuel + 1) listed a w :=
  wpAnyH_ready hr (by simp) (AllReadyH.cons (by simpa using hi) h AllReadyH.nil)
end
end Go.Proofs.Ytpfijhcjempfjaa
