/- Contracts and lemmas, put together. -/
import Derived.Test.YtpgoefdeodoacaaPkA
import Derived.Test.YtpgoefdeodoacaaPkR
/- For the walks of the exact laws: slices of slices of integers. -/
namespace Go.Proofs.Ytpgoefdeodoacaa
set_option linter.unusedSimpArgs false
set_option linter.unusedVariables false
open Go.RowKit

/-- the lengths of the first i rows together -/
def offs (L : List (List Int)) : Nat → Int
  | 0 => 0
  | i + 1 => offs L i + ((L.getD i []).length : Int)
theorem getD_mem {L : List (List Int)} {i : Nat} (hi : i < L.length) : L.getD i [] ∈ L := by
  simp [List.getD, hi]
theorem offs_le {L : List (List Int)} (hx : ∀ x ∈ L, x.length ≤ 1024) {i : Nat} (hi : i ≤ L.length) : 0 ≤ offs L i ∧ offs L i ≤ 1024 * (i : Int) := by
  induction i with
  | zero => exact ⟨Int.le_refl _, Int.le_refl _⟩
  | succ i ih =>
    have := ih (by omega)
    have h1 := hx _ (getD_mem (L := L) (i := i) (by omega))
    rw [offs]
    omega
/-- the first j rows marked -/
def mkR (k : Int) (L : List (List Int)) : Nat → List (List Int)
  | 0 => L
  | j + 1 => (mkR k L j).set j (run (k + offs L j) (L.getD j []).length)
def runR (k : Int) (L : List (List Int)) : List (List Int) := mkR k L L.length
theorem mkR_length (k : Int) (L : List (List Int)) (j : Nat) : (mkR k L j).length = L.length := by
  induction j with
  | zero => rfl
  | succ j ih => rw [mkR, List.length_set, ih]
theorem runR_length (k : Int) (L : List (List Int)) : (runR k L).length = L.length := mkR_length _ _ _
theorem mkR_hi {k : Int} {L : List (List Int)} {i j : Nat} (h : j ≤ i) : (mkR k L j)[i]? = L[i]? := by
  induction j with
  | zero => rfl
  | succ j ih => rw [mkR, List.getElem?_set_ne (by omega), ih (by omega)]
theorem mkR_lo {k : Int} {L : List (List Int)} {i j : Nat} (h : i < j) (hj : j ≤ L.length) : (mkR k L j)[i]? = some (run (k + offs L i) (L.getD i []).length) := by
  induction j with
  | zero => omega
  | succ j ih =>
    rw [mkR]
    by_cases e : i = j
    · subst e
      rw [List.getElem?_set_self (by rw [mkR_length]; omega)]
    · rw [List.getElem?_set_ne (by omega), ih (by omega) (by omega)]
theorem runR_at {k : Int} {L : List (List Int)} {i : Nat} (h : i < L.length) : (runR k L)[i]? = some (run (k + offs L i) (L.getD i []).length) := mkR_lo h (Nat.le_refl _)

/-- a mark on one row -/
theorem RowsO.mark {w w' : World} {B : Nat} {v : Value} {vs : List Value} {L : List (List Int)} {j : Nat} {u : Value} {z : List Int} (h : RowsO w B v vs L) (hj : vs[j]? = some u) (hz : Own w' B u z) (hg : w.grownBy w' u.ownBlock) : RowsO w' B v vs (L.set j z) := by
  have hlt : j < L.length := by rw [← h.len]; exact (List.getElem?_eq_some_iff.1 hj).1
  refine ⟨by rw [List.length_set]; exact h.len, World.ownsRow.kept h.own hg ?_, fun i a x h1 h2 => ?_, h.far, h.nod⟩
  · cases e : v.ownBlock with
    | none => exact .inl rfl
    | some g => exact .inr fun e2 => h.far j u hj g e2.symm e
  · by_cases e : i = j
    · subst e
      rw [List.getElem?_set_self hlt] at h2
      rw [hj] at h1
      cases h1; cases h2
      exact hz
    · rw [List.getElem?_set_ne (fun h => e h.symm)] at h2
      refine World.ownsRow.kept (h.row i a x h1 h2) hg ?_
      cases e2 : a.ownBlock with
      | none => exact .inl rfl
      | some g => exact .inr fun e3 => h.nod i j a u h1 hj e g e2 e3.symm
theorem RowsO.mark_hi {w w' : World} {B B0 H0 : Nat} {v v0 : Value} {vs : List Value} {L : List (List Int)} {l0 : List Int} (h : RowsO w B v vs L) (o : OwnB w B0 H0 v0 l0) (g : w.grownBy w' v0.ownBlock) (hle : H0 ≤ B) : RowsO w' B v vs L := by
  refine h.other g (fun k hk e => ?_) (fun k hk i u hi e => ?_)
  · have h1 := (h.own.lt e).1
    have h2 := o.2 k hk
    omega
  · have h1 := (h.lt hi e).1
    have h2 := o.2 k hk
    omega
/-- rows that are read, from blocks below H -/
def RdRB (w : World) (H : Nat) (A : Option Addr) (L : List (List Int)) : Prop := ∃ w0, RdR RSI w0 A L ∧ w0.heap.size ≤ H ∧ Below w0.heap.size w0 w
section
variable {w w' : World} {B B0 H H0 : Nat} {A : Option Addr} {l l0 : List Int} {L : List (List Int)} {v v0 : Value}
theorem RdRB.of (h : RdR RSI w A L) : RdRB w w.heap.size A L := ⟨w, h, Nat.le_refl _, Below.refl _ _⟩
theorem RdRB.rd (h : RdRB w H A L) : RdR RSI w A L := by obtain ⟨w0, h1, _, h3⟩ := h; exact h1.grows RSI.good h3
theorem RdRB.grows (h : RdRB w H A L) (g : Grows w w') : RdRB w' H A L := by
  obtain ⟨w0, h1, h2, h3⟩ := h
  exact ⟨w0, h1, h2, Below.trans h3 (Below.mono g h3.size)⟩
theorem RdRB.mark (h : RdRB w H A L) (o : OwnB w B0 H0 v0 l0) (g : w.grownBy w' v0.ownBlock) (hle : H ≤ B0) : RdRB w' H A L := by
  obtain ⟨w0, h1, h2, h3⟩ := h
  exact ⟨w0, h1, h2, h3.grown g h3.size fun k hk => Nat.le_trans h2 (Nat.le_trans hle (World.ownsRow.lt o.1 k hk).1)⟩
/-- what lies below B keeps when all from B on may change -/
theorem RdRB.under (h : RdRB w H A L) (g : Below B w w') (hle : H ≤ B) : RdRB w' H A L := by
  obtain ⟨w0, h1, h2, h3⟩ := h
  exact ⟨w0, h1, h2, Below.trans h3 (Below.mono g (Nat.le_trans h2 hle))⟩
theorem RdB.under (h : RdB w H A l) (g : Below B w w') (hle : H ≤ B) : RdB w' H A l := ⟨fun i hi => by
  obtain ⟨b, off, e, hb, hc⟩ := h.1 i hi
  have hH := h.2 _ e (by omega)
  simp at hH
  exact ⟨b, off, e, Nat.lt_of_lt_of_le hb g.size, (g.cell (p := ⟨b, off + i, none⟩) (show b < B by omega)).trans hc⟩, h.2⟩
theorem OwnB.under (h : OwnB w B0 H v l) (g : Below B w w') (hle : H ≤ B) : OwnB w' B0 H v l := by
  refine ⟨⟨h.1.1, ?_⟩, h.2⟩
  rcases h.1.2 with hn | ⟨q, cap, cur, rfl, hb, hgg, rest⟩
  · exact .inl hn
  · have h2 : q < H := h.2 q rfl
    exact .inr ⟨q, cap, cur, rfl, hb, by rw [g.block q (by omega)]; exact hgg, rest⟩
end

section
set_option maxHeartbeats 1000000
theorem eqIntSS_yes (A B : Option Addr) (L : List (List Int)) (n c d : Nat) (w : World) (hn : L.length = n) (ha : RdR RSI w A L) (hb : RdR RSI w B L) (hl : n ≤ 1048576) (hx : ∀ x ∈ L, x.length ≤ 1024) :
    Calls Try.prog 36 #[.slice A n c, .slice B n d] w fun e w' => e = .returned (.bool true) ∧ Grows w w' := by
  go_enter Try.func36, Try.ntmps36
  go_wp2_with fail
  go_loopw [5] (fun i wr => ∃ (j : Nat), i = .int .i64 j ∧ j ≤ n ∧ Grows w wr) (fun i _ => n - (intOf i).toNat)
  case atStart => exact ⟨0, rfl, Nat.zero_le _, Grows.refl _⟩
  case round =>
    obtain ⟨j, rfl, hj, hg⟩ := hrel
    by_cases hlt : j < n
    · obtain ⟨b, off, u, rfl, hbs, hc1, A1, c1, rfl, hr1, _⟩ := (ha.grows RSI.good hg).at_ j (by omega)
      obtain ⟨b', off', u', rfl, hbs', hc2, A2, c2, rfl, hr2, _⟩ := (hb.grows RSI.good hg).at_ j (by omega)
      have x1 := ext_is hc1; have x2 := ext_is hc2
      have i1 : (j : Int) < (n : Int) := by omega
      have hzl : (L[j]'(by omega)).length ≤ 1024 := hx _ (List.getElem_mem _)
      generalize (L[j]'(by omega)) = z at *
      have CE := Lib.hid fun W h h' => eqIntS_yes A1 A2 z c1 c2 W h h' (by omega)
      clear hn ha hb hx
      go_wp2_with fail
      ((refine wp_region_ext (by kernel_rfl) (by kernel_rfl) ?_); (repeat (go_big_quiet_step ((go_at_call 20; with_reducible exact extC (CE.out _ (Rd.ext hr1 _) (Rd.ext hr2 _)))))); refine wpQuiet_nil ?_; rintro w3 ⟨w30, hw30⟩; have g3 := grows_of_ext hw30; clear hw30 w30)
      go_wp2_with fail
      go_round
      case rel => exact ⟨j + 1, by go_num, by omega, by exact bel2 g3 hg⟩
      case measure => simp [intOf]; omega
    · obtain rfl : j = n := by omega
      go_wp2_with fail
      go_ret
      exact ⟨rfl, hg⟩
theorem markIntSS_c (B : Nat) (A : Option Addr) (L : List (List Int)) (vs : List Value) (n c : Nat) (k : Int) (w : World) (hn : L.length = n) (ho : RowsO w B (.slice A n c) vs L) (hl : n ≤ 1048576) (hx : ∀ x ∈ L, x.length ≤ 1024) (h0 : 0 ≤ k) (hk : k ≤ 1048576) (hB : B ≤ w.heap.size) :
    Calls Try.prog 37 #[.slice A n c, .int .i64 k] w fun e w' => e = .returned (.int .i64 (k + offs L n)) ∧ RowsO w' B (.slice A n c) vs (runR k L) ∧ Below B w w' := by
  have HO := Lib.hid fun i (hi : i ≤ n) => offs_le hx (i := i) (by omega)
  have HX := Lib.hid hx
  have HN := Lib.hid hn
  clear hx hn
  go_enter Try.func37, Try.ntmps37
  go_wp2_with fail
  go_loopw [1, 5] (fun q i wr => ∃ (j : Nat), i = .int .i64 j ∧ q = .int .i64 (k + offs L j) ∧ j ≤ n ∧ RowsO wr B (.slice A n c) vs (mkR k L j) ∧ Below B w wr) (fun _ i _ => n - (intOf i).toNat)
  case atStart => exact ⟨0, rfl, by simp [offs], Nat.zero_le _, ho, Below.refl _ _⟩
  case round =>
    obtain ⟨j, rfl, rfl, hj, hor, hbl⟩ := hrel
    have hjo := HO.out j hj
    by_cases hlt : j < n
    · have hvl : j < vs.length := by rw [hor.len, mkR_length, HN.out]; exact hlt
      have hu : vs[j]? = some vs[j] := List.getElem?_eq_getElem hvl
      have hLj : L[j]? = some (L.getD j []) := by simp [List.getD, HN.out, hlt]
      have how := hor.row j _ (L.getD j []) hu (by rw [mkR_hi (Nat.le_refl _)]; exact hLj)
      obtain ⟨A', c', e, hr, hcap⟩ := how.val
      obtain ⟨b, off, rfl, hbs, hcell⟩ := hor.own.rd j _ hu
      rw [e] at how hu hcell
      have hzl : (L.getD j []).length ≤ 1024 := HX.out _ (getD_mem (by rw [HN.out]; exact hlt))
      have i1 : (j : Int) < (n : Int) := by omega
      have HNX := Lib.hid (show mkR k L (j + 1) = (mkR k L j).set j (run (k + offs L j) (L.getD j []).length) from rfl)
      have HOX := Lib.hid (show offs L (j + 1) = offs L j + ((L.getD j []).length : Int) from rfl)
      have hsz := hbl.size
      generalize L.getD j [] = z at *
      have CM := Lib.hid fun W h => markIntS_c B A' z c' (k + offs L j) W h (by omega) (by omega) (by omega)
      have HU := Lib.hid hu
      have HOR := Lib.hid hor
      generalize offs L j = f at *
      clear hLj hvl e hu hor
      go_wp2_with fail
      refine (CM.out _ how).mono ?_; rintro e w3 ⟨rfl, o3, g3⟩
      have hb3 : Below B wr w3 := below_app how (by omega) g3
      have hor3 := HOR.out.mark HU.out o3 g3
      go_wp2_with fail
      go_round
      case rel => exact ⟨j + 1, by go_num, by rw [HOX.out, Int.add_assoc], by omega, by rw [HNX.out]; exact hor3, Below.trans hbl hb3⟩
      case measure => simp [intOf]; omega
    · obtain rfl : j = n := by omega
      go_wp2_with fail
      go_ret
      have e : runR k L = mkR k L j := by unfold runR; rw [HN.out]
      exact ⟨rfl, by rw [e]; exact hor, hbl⟩
theorem heldIntSS_c (A : Option Addr) (L : List (List Int)) (n c : Nat) (k : Int) (w : World) (hn : L.length = n) (ha : RdR RSI w A (runR k L)) (hl : n ≤ 1048576) (hx : ∀ x ∈ L, x.length ≤ 1024) (h0 : 0 ≤ k) (hk : k ≤ 1048576) :
    Calls Try.prog 38 #[.slice A n c, .int .i64 k] w fun e w' => e = .returned (.int .i64 (k + offs L n)) ∧ Grows w w' := by
  have HO := Lib.hid fun i (hi : i ≤ n) => offs_le hx (i := i) (by omega)
  have HX := Lib.hid hx
  have HN := Lib.hid hn
  clear hx hn
  go_enter Try.func38, Try.ntmps38
  go_wp2_with fail
  go_loopw [1, 5] (fun q i wr => ∃ (j : Nat), i = .int .i64 j ∧ q = .int .i64 (k + offs L j) ∧ j ≤ n ∧ Grows w wr) (fun _ i _ => n - (intOf i).toNat)
  case atStart => exact ⟨0, rfl, by simp [offs], Nat.zero_le _, Below.refl _ _⟩
  case round =>
    obtain ⟨j, rfl, rfl, hj, hg⟩ := hrel
    have hjo := HO.out j hj
    by_cases hlt : j < n
    · have hat := runR_at (k := k) (L := L) (i := j) (by rw [HN.out]; exact hlt)
      obtain ⟨vs, hvl, hrv, hRv⟩ := ha.grows RSI.good hg
      have hj2 : j < vs.length := by rw [hvl, runR_length, HN.out]; exact hlt
      have hu : vs[j]? = some vs[j] := List.getElem?_eq_getElem hj2
      obtain ⟨A1, c1, e1, hr1, _⟩ := hRv j _ _ hu hat
      obtain ⟨b, off, rfl, hbs, hcell⟩ := hrv j _ hu
      rw [run_length] at e1
      rw [e1] at hcell
      have hzl : (L.getD j []).length ≤ 1024 := HX.out _ (getD_mem (by rw [HN.out]; exact hlt))
      have i1 : (j : Int) < (n : Int) := by omega
      have HOX := Lib.hid (show offs L (j + 1) = offs L j + ((L.getD j []).length : Int) from rfl)
      generalize L.getD j [] = z at *
      have CM := Lib.hid fun W h => heldIntS_c A1 z.length c1 (k + offs L j) W h (by omega) (by omega) (by omega)
      have hnn : 0 ≤ k + offs L j + (z.length : Int) := by omega
      generalize offs L j = f at *
      clear hat hvl hrv hRv hj2 hu e1
      go_wp2_with fail
      refine (CM.out _ hr1).mono ?_; rintro e w3 ⟨rfl, g3⟩
      go_wp2_with fail
      go_round
      case rel => exact ⟨j + 1, by go_num, by rw [HOX.out, Int.add_assoc], by omega, by exact bel2 g3 hg⟩
      case measure => simp [intOf]; omega
    · obtain rfl : j = n := by omega
      go_wp2_with fail
      go_ret
      exact ⟨rfl, hg⟩
end
end Go.Proofs.Ytpgoefdeodoacaa
