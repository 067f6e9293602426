/- Regions that draw their order and hold calls that make memory: a world that has grown out of w. -/
import Derived.Test.YtpfijhcjempfjaaMem
import Derived.Deep.QuietTactic
import Derived.BigQuiet
namespace Go.Proofs.Ytpfijhcjempfjaa
open Go.RowKit

open Classical in
/-- W where it has grown out of w, else w itself: so it has always grown out of w. -/
noncomputable def ext (w W : World) : World := if Grows w W then W else w
theorem ext_grows (w W : World) : Grows w (ext w W) := by
  unfold ext
  split
  · assumption
  · exact Grows.refl w
theorem grows_of_ext {w W w' : World} (h : w' = ext w W) : Grows w w' := h ▸ ext_grows w W
theorem ext_of {w W : World} (h : Grows w W) : ext w W = W := by unfold ext; rw [if_pos h]
theorem ext_cell {w : World} {b o : Nat} (h : b < w.heap.size) (W : World) : (ext w W).cell? ⟨b, o, none⟩ = w.cell? ⟨b, o, none⟩ := (ext_grows w W).cell (p := ⟨b, o, none⟩) h
theorem ext_is {w : World} {b o : Nat} {v : Value} (h : w.cell? ⟨b, o, none⟩ = some v) (W : World) : (ext w W).cell? ⟨b, o, none⟩ = some v :=
  (ext_cell (World.block_lt_of_cell? w _ h) W).trans h

theorem wp_region_ext {P : Program} {id : Nat} {Q : Exit → Act → World → Prop} {a : Act} {w : World} {l : List Oper} (hm : P.follows .mixedOrders = true) (hB : Region.lexB .any l.toArray = true)
    (h : wpQuiet P l.toArray (fun w' => ∃ W, w' = ext w W) (fun a' => ∀ w', (∃ W, w' = ext w W) → Q .normal a' w') l a) : (Code.region id l.toArray true).wp P Q a w :=
  wp_region_quiet (C := fun w' => ∃ W, w' = ext w W) hm hB ⟨{ w with drawn := w.drawn + 1 }, (ext_of (Below.drew (Below.refl _ _))).symm⟩ (by simpa using h)

/-- A call in such a region: its contract says that the world grows. -/
theorem extC {P : Program} {f : FuncId} {args : Array Value} {w W : World} {v : Value} (h : Calls P f args (ext w W) fun e w' => e = .returned v ∧ Grows (ext w W) w') :
    Calls P f args (ext w W) fun e w'' => e = .returned v ∧ ∃ W', w'' = ext w W' :=
  h.mono fun _ w' ⟨he, hg⟩ => ⟨he, w', (ext_of (Grows.trans (ext_grows w W) hg)).symm⟩
/-- .. that the world is the same. -/
theorem extS {P : Program} {f : FuncId} {args : Array Value} {w W : World} {v : Value} (h : Calls P f args (ext w W) fun e w' => e = .returned v ∧ ext w W = w') :
    Calls P f args (ext w W) fun e w'' => e = .returned v ∧ ∃ W', w'' = ext w W' :=
  h.mono fun _ _ ⟨he, hg⟩ => ⟨he, W, hg.symm⟩
/-- A contract that hands the world back, in a region that only reads. -/
theorem quietL {P : Program} {f : FuncId} {args : Array Value} {w : World} {n : Nat} {v : Value} (h : Calls P f args (w.drewN n) fun e w' => e = .returned v ∧ w.drewN n = w') :
    Calls P f args (w.drewN n) fun e w'' => e = .returned v ∧ ∃ m, w'' = w.drewN m :=
  h.mono fun _ _ ⟨he, hg⟩ => ⟨he, n, hg.symm⟩

/-- .. behind earlier draws. -/
theorem quietA {P : Program} {f : FuncId} {args : Array Value} {w : World} {a n : Nat} {v : Value} (h : Calls P f args (w.drewN (a + n)) fun e w' => e = .returned v ∧ w.drewN (a + n) = w') :
    Calls P f args (w.drewN (a + n)) fun e w'' => e = .returned v ∧ ∃ m, w'' = w.drewN (a + m) :=
  h.mono fun _ _ ⟨he, hg⟩ => ⟨he, n, hg.symm⟩

theorem Rd.ext {w : World} {A : Option Addr} {l : List Int} (h : Rd w A l) (W : World) : Rd (ext w W) A l := h.grows (ext_grows w W)

/-- A variable of type Matrix: block b holds its three cells. -/
structure MBox (w : World) (b : Nat) (r c : Int) (v : Value) : Prop where
  lt : b < w.heap.size
  c0 : w.cell? ⟨b, 0, none⟩ = some (.int .i64 r)
  c1 : w.cell? ⟨b, 1, none⟩ = some (.int .i64 c)
  c2 : w.cell? ⟨b, 2, none⟩ = some v
  fz : ∀ o, w.frozen? ⟨b, o, none⟩ = false
theorem MBox.keep {w w' : World} {B b : Nat} {r c : Int} {v : Value} (h : MBox w b r c v) (k : Below B w w') (hB : b < B) : MBox w' b r c v :=
  ⟨Nat.lt_of_lt_of_le h.lt k.size, (k.cell (p := ⟨b, 0, none⟩) hB).trans h.c0, (k.cell (p := ⟨b, 1, none⟩) hB).trans h.c1, (k.cell (p := ⟨b, 2, none⟩) hB).trans h.c2, fun o => (k.frozen (p := ⟨b, o, none⟩) hB).trans (h.fz o)⟩
theorem MBox.grows {w w' : World} {b : Nat} {r c : Int} {v : Value} (h : MBox w b r c v) (k : Grows w w') : MBox w' b r c v := h.keep k h.lt
theorem MBox.mk_ (w : World) (r c : Int) (v : Value) (t : TypeId) : MBox (w.alloc (.cells #[.int .i64 r, .int .i64 c, v] t)) w.heap.size r c v :=
  ⟨by simp, by simp [go_sem], by simp [go_sem], by simp [go_sem], fun o => by simp [go_sem]⟩
theorem MBox.cells {w : World} {b : Nat} {r c : Int} {v : Value} (h : MBox w b r c v) :
    (w.cell? ⟨b, 0, none⟩ = some (.int .i64 r)) ∧ (w.cell? ⟨b, 1, none⟩ = some (.int .i64 c)) ∧ (w.cell? ⟨b, 2, none⟩ = some v) := ⟨h.c0, h.c1, h.c2⟩
theorem MBox.ext {w : World} {b : Nat} {r c : Int} {v : Value} (h : MBox w b r c v) :
    (∀ W, (ext w W).cell? ⟨b, 0, none⟩ = some (.int .i64 r)) ∧ (∀ W, (Proofs.Ytpfijhcjempfjaa.ext w W).cell? ⟨b, 1, none⟩ = some (.int .i64 c)) ∧ (∀ W, (Proofs.Ytpfijhcjempfjaa.ext w W).cell? ⟨b, 2, none⟩ = some v) :=
  ⟨ext_is h.c0, ext_is h.c1, ext_is h.c2⟩
end Go.Proofs.Ytpfijhcjempfjaa
