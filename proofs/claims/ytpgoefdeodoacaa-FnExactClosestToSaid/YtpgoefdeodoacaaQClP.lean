/- Contracts and lemmas, put together. -/
import Derived.Test.YtpgoefdeodoacaaPkB
import Derived.Test.YtpgoefdeodoacaaPkC
import Derived.Test.YtpgoefdeodoacaaPkK
import Derived.Test.YtpgoefdeodoacaaPkM
/- Plain: the closest vectors: the ones of a box with the least distance, in their order. -/
namespace Go.Proofs.Ytpgoefdeodoacaa
set_option linter.unusedSimpArgs false
set_option linter.unusedVariables false
open Go.RowKit

def rndL (l : List Q2) : List Int := l.map roundQ
def rndO (g : MX) (t : List Int) : Option (List Int) := (prjO g t).map rndL
theorem rndL_length (l : List Q2) : (rndL l).length = l.length := by simp [rndL]
theorem rndL_nth {l : List Q2} {i : Nat} (h : i < l.length) : nth (rndL l) i = roundQ (nthQ l i) := by simp [nth, nthQ, rndL, h]
theorem rndL_succ {l : List Q2} {i : Nat} (h : i < l.length) : rndL (l.take (i + 1)) = rndL (l.take i) ++ [roundQ (nthQ l i)] := by
  unfold rndL
  rw [List.take_add_one, List.getElem?_eq_getElem h, List.map_append]
  simp [nthQ, h]
def lowL (l : List Q2) (s : List Int) (n : Nat) : List Int := (List.range n).map fun i => floorQ (nthQ l i) - nth s i
def highL (l : List Q2) (s : List Int) (n : Nat) : List Int := (List.range n).map fun i => floorQ (nthQ l i) + 1 + nth s i
theorem lowL_succ (l : List Q2) (s : List Int) (n : Nat) : lowL l s (n + 1) = lowL l s n ++ [floorQ (nthQ l n) - nth s n] := by unfold lowL; rw [List.range_succ, List.map_append]; rfl
theorem highL_succ (l : List Q2) (s : List Int) (n : Nat) : highL l s (n + 1) = highL l s n ++ [floorQ (nthQ l n) + 1 + nth s n] := by unfold highL; rw [List.range_succ, List.map_append]; rfl
theorem lowL_length (l : List Q2) (s : List Int) (n : Nat) : (lowL l s n).length = n := by simp [lowL]
theorem highL_length (l : List Q2) (s : List Int) (n : Nat) : (highL l s n).length = n := by simp [highL]
/-- one vector more: nearer than all so far, as near, or neither -/
def clS (d : List Int → Int) (ok : List Int → Bool) (st : List (List Int) × Int) (x : List Int) : List (List Int) × Int :=
  if ok x then (if d x < st.2 then ([x], d x) else if d x = st.2 then (st.1 ++ [x], st.2) else st) else st
def clF (d : List Int → Int) (ok : List Int → Bool) (rows : List (List Int)) (best : Int) : Nat → List (List Int) × Int
  | 0 => ([], best)
  | i + 1 => clS d ok (clF d ok rows best i) (rows.getD i [])
theorem clS_no {d : List Int → Int} {ok : List Int → Bool} {st : List (List Int) × Int} {x : List Int} (h : ok x = false) : clS d ok st x = st := by unfold clS; rw [h]; rfl
theorem clS_far {d : List Int → Int} {ok : List Int → Bool} {st : List (List Int) × Int} {x : List Int} (h2 : st.2 < d x) : clS d ok st x = st := by
  unfold clS
  split
  · rw [if_neg (by omega), if_neg (by omega)]
  · rfl
theorem clS_less {d : List Int → Int} {ok : List Int → Bool} {st : List (List Int) × Int} {x : List Int} (h : ok x = true) (h2 : d x < st.2) : clS d ok st x = ([x], d x) := by unfold clS; rw [if_pos h, if_pos h2]
theorem clS_same {d : List Int → Int} {ok : List Int → Bool} {st : List (List Int) × Int} {x : List Int} (h : ok x = true) (h2 : d x = st.2) : clS d ok st x = (st.1 ++ [x], st.2) := by unfold clS; rw [if_pos h, if_neg (by omega), if_pos h2]
end Go.Proofs.Ytpgoefdeodoacaa
