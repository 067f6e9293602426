/- Contracts and lemmas, put together. -/
import Derived.Test.YticmopedbgoflaaPkG
import Derived.Test.YticmopedbgoflaaQDrwV
import Derived.Test.YticmopedbgoflaaQMixO
/- Contracts: the laws' unit matrix, row, and mixed unit matrix. -/
namespace Go.Proofs.Yticmopedbgoflaa
set_option linter.unusedSimpArgs false
set_option linter.unusedVariables false
open Go.RowKit

/-- a matrix that comes from the unit matrix, in memory of its own -/
def MixM (n : Nat) (w : World) (e : Ending) (w' : World) : Prop := ∃ (m : MX) (V : Option Addr) (c : Nat), e = .returned (.agg #[.int .i64 m.r, .int .i64 m.c, .slice V m.l.length c]) ∧ MixR n m ∧ Own w' w.heap.size (.slice V m.l.length c) m.l ∧ Grows w w'
section
variable {P : Program} {md : Region.Mode}
theorem heldL_two {Q : Exit → Act → World → Prop} {S : World → Prop} {l : List Oper} {i j : Nat} {o o' : Oper} {fuel : Nat} {listed : Array Bool} {a : Act} {w : World} (hr : Region.ready md l.toArray listed = [i, j]) (hi : l[i]? = some o) (hj : l[j]? = some o')
    (h : ∀ K' : Act → World → Prop, Shut (∀ a w, S w → (S w → wpAnyH P md l.toArray Q S fuel (listed.setIfInBounds i true) a w) → K' a w) → if Region.wanted o (yielded l.toArray a.tmps) = true then Oper.wp P o a w K' Q else K' (a.put o.dst undef) w)
    (h' : ∀ K' : Act → World → Prop, Shut (∀ a w, S w → (S w → wpAnyH P md l.toArray Q S fuel (listed.setIfInBounds j true) a w) → K' a w) → if Region.wanted o' (yielded l.toArray a.tmps) = true then Oper.wp P o' a w K' Q else K' (a.put o'.dst undef) w) : wpAnyH P md l.toArray Q S (fuel + 1) listed a w :=
  wpAnyH_ready hr (by simp) (AllReadyH.cons (by simpa using hi) h (AllReadyH.cons (by simpa using hj) h' AllReadyH.nil))
end
section
set_option maxHeartbeats 4000000
set_option maxRecDepth 100000
theorem mix_c (A : Option Addr) (n cap N : Nat) (w : World) (hr : CodeR w w.heap.size A n) (hn : n ≤ 1048576) (hN : N ≤ 24) :
    Calls Try.prog 17 #[.slice A n cap, .int .i64 N] w (MixM N w) := by
  obtain ⟨w1, hw1⟩ : ∃ w1, w1 = w.alloc (.cells #[.int .i64 0, .int .i64 0, .slice none 0 0] 26) := ⟨_, rfl⟩
  have mr : MBox w1 w.heap.size 0 0 (.slice none 0 0) := by rw [hw1]; exact MBox.mk_ _ _ _ _ _
  have g01 : Grows w w1 := by rw [hw1]; exact bel0
  have hs1 : w1.heap.size = w.heap.size + 1 := by rw [hw1]; simp
  have HW1 := Lib.hid hw1
  have CU := Lib.hid fun W => unit_c N W hN
  have HR := Lib.hid (hr.keep g01)
  clear hw1 hr
  go_enter Try.func17, Try.ntmps17
  go_wp2_with fail
  rw [← HW1.out]
  refine (CU.out _).mono ?_; rintro e w2 ⟨V2, c2, rfl, o2, g2⟩
  obtain ⟨w3, hw3⟩ : ∃ w3, w3 = w2.alloc (.cells #[.int .i64 N, .int .i64 N, .slice V2 (idL N).length c2] 26) := ⟨_, rfl⟩
  have mb3 : MBox w3 w2.heap.size N N (.slice V2 (idL N).length c2) := by rw [hw3]; exact MBox.mk_ _ _ _ _ _
  have g23 : Grows w2 w3 := by rw [hw3]; exact bel0
  have HW3 := Lib.hid hw3
  have o3 := o2.grows g23
  have mr3 := (mr.grows g2).grows g23
  have hs2 := Below.size g2
  have hs3 := Below.size g23
  have hvl := fun g e => (World.ownsRow.lt o2 g e)
  have g13 : Grows w1 w3 := by exact bel2 g23 g2
  have hx : MixR N ⟨N, N, idL N⟩ := .inr ⟨_, rfl, .one⟩
  clear hw3 o2
  go_wp2_with fail
  rw [← HW3.out]
  go_loopw [6] (fun i wr => ∃ (I : Nat) (m : MX) (V : Option Addr) (c : Nat), i = .int .i64 I ∧ I ≤ 6 ∧ RowKit.Hid (MixR N m) ∧ MBox wr w2.heap.size m.r m.c (.slice V m.l.length c) ∧ Own wr w1.heap.size (.slice V m.l.length c) m.l ∧ MBox wr w.heap.size 0 0 (.slice none 0 0) ∧ Grows w1 wr ∧ w3.heap.size ≤ wr.heap.size) (fun i _ => 6 - (intOf i).toNat)
  case atStart => exact ⟨0, ⟨N, N, idL N⟩, V2, c2, rfl, by omega, Lib.hid hx, mb3, o3, mr3, g13, by omega⟩
  case round =>
    clear mb3 o3 mr3 g13 hx
    obtain ⟨I, m, V, c, rfl, hI, HX, mb, o, mr, g, hsz⟩ := hrel
    obtain ⟨b0, b1, b2⟩ := mb.cells
    by_cases hgo : I < n ∧ I < 6 ∧ 1 < N
    · obtain ⟨h1, h2, h3⟩ := hgo
      have h1' : (I : Int) < (n : Int) := by omega
      have h2' : (I : Int) < 6 := by omega
      have h3' : (1 : Int) < (N : Int) := by omega
      obtain ⟨bc, off, x, rfl, hbc, hcell, hx0, hx1⟩ := (HR.out.keep (Below.mono g (by omega))) I h1
      obtain ⟨x, rfl⟩ : ∃ k : Nat, x = (k : Int) := ⟨x.toNat, by omega⟩
      have hcap : (n : Int) ≤ 1048576 := by omega
      have hN' : (N : Int) ≤ 24 := by omega
      have hbw : bc < wr.heap.size := by have := Below.size g; omega
      obtain ⟨K, hK⟩ : ∃ K : Nat, K = x % N := ⟨_, rfl⟩
      have hKN : K < N := by rw [hK]; exact Nat.mod_lt _ (by omega)
      have hKI : (x : Int) % (N : Int) = (K : Int) := by rw [hK]; omega
      obtain ⟨Q, hQ⟩ : ∃ Q : Nat, Q = N - 1 := ⟨_, rfl⟩
      obtain ⟨X8, hX8⟩ : ∃ k : Nat, k = x / 8 := ⟨_, rfl⟩
      obtain ⟨X32, hX32⟩ : ∃ k : Nat, k = x / 32 := ⟨_, rfl⟩
      obtain ⟨Y, hY⟩ : ∃ k : Nat, k = X8 % Q := ⟨_, rfl⟩
      obtain ⟨T3, hT3⟩ : ∃ k : Nat, k = X32 % 3 := ⟨_, rfl⟩
      obtain ⟨K1, hK1⟩ : ∃ k : Nat, k = K + 1 := ⟨_, rfl⟩
      obtain ⟨Z, hZ⟩ : ∃ k : Nat, k = K1 + Y := ⟨_, rfl⟩
      obtain ⟨J, hJ⟩ : ∃ J : Nat, J = Z % N := ⟨_, rfl⟩
      obtain ⟨tt, htt⟩ : ∃ t : Int, t = (T3 : Int) - 1 := ⟨_, rfl⟩
      have hQ0 : ¬ (Q : Int) = 0 := by omega
      have hQ1 : ¬ Q = 0 := by omega
      have hN0 : ¬ N = 0 := by omega
      have hYQ : Y < Q := by rw [hY]; exact Nat.mod_lt _ (by omega)
      have hJN : J < N := by rw [hJ]; exact Nat.mod_lt _ (by omega)
      have hne : J ≠ K := by
        rw [hJ]
        rcases Nat.lt_or_ge Z N with h | h
        · rw [Nat.mod_eq_of_lt h]; omega
        · have : Z % N = Z - N := by rw [Nat.mod_eq_sub_mod h, Nat.mod_eq_of_lt (by omega)]
          omega
      have htn : isNum tt = true := by rw [isNum_iff]; omega
      have k1 : IntKind.i64.wrap ((N : Int) - 1) = (Q : Int) := by rw [IntWalk.i64_in _ (by omega)]; omega
      have k2 : IntKind.u8.wrap ((x : Int) / 8) = (X8 : Int) := by rw [IntWalk.u8_in _ (by omega)]; omega
      have k3 : IntKind.i64.wrap (X8 : Int) = (X8 : Int) := IntWalk.i64_in _ (by omega)
      have k4 : (X8 : Int).tmod (Q : Int) = (Y : Int) := by rw [hY]; rfl
      have k4' : (X8 : Int) % (Q : Int) = (Y : Int) := by rw [hY]; rfl
      have k5 : IntKind.i64.wrap ((K : Int) + 1) = (K1 : Int) := by rw [IntWalk.i64_in _ (by omega)]; omega
      have k6 : IntKind.i64.wrap ((K1 : Int) + (Y : Int)) = (Z : Int) := by rw [IntWalk.i64_in _ (by omega)]; omega
      have k7 : (Z : Int).tmod (N : Int) = (J : Int) := by rw [hJ]; rfl
      have k7' : (Z : Int) % (N : Int) = (J : Int) := by rw [hJ]; rfl
      have k8 : IntKind.u8.wrap ((x : Int) / 32) = (X32 : Int) := by rw [IntWalk.u8_in _ (by omega)]; omega
      have k9 : IntKind.i64.wrap (X32 : Int) = (X32 : Int) := IntWalk.i64_in _ (by omega)
      have k10 : (X32 : Int).tmod 3 = (T3 : Int) := by rw [hT3]; rfl
      have k10' : (X32 : Int) % 3 = (T3 : Int) := by rw [hT3]; omega
      have k11 : IntKind.i64.wrap ((T3 : Int) - 1) = tt := by rw [IntWalk.i64_in _ (by omega)]; omega
      clear hQ hX8 hX32 hY hT3 hK1 hZ htt
      have CD := Lib.hid fun W h => doMix_c N m V c K J tt W hN HX.out hKN hJN (Ne.symm hne) htn h
      have HK := Lib.hid hK
      have HJ := Lib.hid hJ
      have HKI := Lib.hid hKI
      clear hK hJ hKI
      go_wp2_with fail
      rw [HKI.out]
      go_cut [8, 9] from 12 to 62 (fun s8 s9 wx => ∃ gb m2 V2 c2 ok, s8 = .pointer (some ⟨gb, 0, none⟩) ∧ s9 = .bool ok ∧ RowKit.Hid (MixR N m2) ∧ MBox wx gb m2.r m2.c (.slice V2 m2.l.length c2) ∧ Own wx wr.heap.size (.slice V2 m2.l.length c2) m2.l ∧ wr.heap.size ≤ gb ∧ (∀ g, (Value.slice V2 m2.l.length c2).ownBlock = some g → g ≠ gb) ∧ Grows wr wx)
      case first =>
        refine wp_region_heldL (fun W => W.cell? ⟨w2.heap.size, 0, none⟩ = some (.int .i64 m.r) ∧ W.cell? ⟨w2.heap.size, 1, none⟩ = some (.int .i64 m.c) ∧ W.cell? ⟨w2.heap.size, 2, none⟩ = some (.slice V m.l.length c) ∧ W.cell? ⟨bc, off + I, none⟩ = some (.int .u8 x)) (by kernel_rfl) (by ((try dsimp only); (first | exact ⟨(mb.grows (by exact bel1 g5)).c0, (mb.grows (by exact bel1 g5)).c1, (mb.grows (by exact bel1 g5)).c2, ((show Grows wr _ by exact bel1 g5).cell (p := ⟨bc, off + I, none⟩) hbw).trans hcell⟩ | exact ⟨(mb.grows (by exact bel0)).c0, (mb.grows (by exact bel0)).c1, (mb.grows (by exact bel0)).c2, ((show Grows wr _ by exact bel0).cell (p := ⟨bc, off + I, none⟩) hbw).trans hcell⟩))) (fun hHeld => ?_)
        (refine heldL_take (i := 0) (v := _) (by rfl) (by kernel_rfl) (by kernel_rfl) (by kernel_rfl) (fun _ _ _ h => h) (Or.inl ⟨by rfl, fun wS hSw => by ((try dsimp only at hSw); go_simp; (try with_reducible rfl))⟩) (by assumption) ?_; simp only [Act.put, List.setIfInBounds_toArray, List.set_cons_zero, List.set_cons_succ]; refine heldL_take (i := 1) (v := _) (by rfl) (by kernel_rfl) (by kernel_rfl) (by kernel_rfl) (fun _ _ _ h => h) (Or.inl ⟨by rfl, fun wS hSw => by ((try dsimp only at hSw); go_simp; (try with_reducible rfl))⟩) (by assumption) ?_; simp only [Act.put, List.setIfInBounds_toArray, List.set_cons_zero, List.set_cons_succ]; refine heldL_take (i := 2) (v := _) (by rfl) (by kernel_rfl) (by kernel_rfl) (by kernel_rfl) (fun _ _ _ h => h) (Or.inl ⟨by rfl, fun wS hSw => by ((try dsimp only at hSw); go_simp; (try with_reducible rfl))⟩) (by assumption) ?_; simp only [Act.put, List.setIfInBounds_toArray, List.set_cons_zero, List.set_cons_succ]; refine heldL_take (i := 3) (v := _) (by rfl) (by kernel_rfl) (by kernel_rfl) (by kernel_rfl) (fun _ _ _ h => h) (Or.inl ⟨by rfl, fun wS hSw => by ((try dsimp only at hSw); go_simp; (try with_reducible rfl))⟩) (by assumption) ?_; simp only [Act.put, List.setIfInBounds_toArray, List.set_cons_zero, List.set_cons_succ]; refine heldL_take (i := 4) (v := _) (by rfl) (by kernel_rfl) (by kernel_rfl) (by kernel_rfl) (fun _ _ _ h => h) (Or.inl ⟨by rfl, fun wS hSw => by ((try dsimp only at hSw); go_simp; (try with_reducible rfl))⟩) (by assumption) ?_; simp only [Act.put, List.setIfInBounds_toArray, List.set_cons_zero, List.set_cons_succ]; refine heldL_take (i := 5) (v := _) (by rfl) (by kernel_rfl) (by kernel_rfl) (by kernel_rfl) (fun _ _ _ h => h) (Or.inl ⟨by rfl, fun wS hSw => by ((try dsimp only at hSw); go_simp; (try with_reducible rfl))⟩) (by assumption) ?_; simp only [Act.put, List.setIfInBounds_toArray, List.set_cons_zero, List.set_cons_succ]; refine heldL_take (i := 6) (v := _) (by rfl) (by kernel_rfl) (by kernel_rfl) (by kernel_rfl) (fun _ _ _ h => h) (Or.inl ⟨by rfl, fun wS hSw => by ((try dsimp only at hSw); go_simp; (try with_reducible rfl))⟩) (by assumption) ?_; simp only [Act.put, List.setIfInBounds_toArray, List.set_cons_zero, List.set_cons_succ]; refine heldL_take (i := 7) (v := _) (by rfl) (by kernel_rfl) (by kernel_rfl) (by kernel_rfl) (fun _ _ _ h => h) (Or.inl ⟨by rfl, fun wS hSw => by ((try dsimp only at hSw); go_simp; (try with_reducible rfl))⟩) (by assumption) ?_; simp only [Act.put, List.setIfInBounds_toArray, List.set_cons_zero, List.set_cons_succ]; refine heldL_take (i := 8) (v := _) (by rfl) (by kernel_rfl) (by kernel_rfl) (by kernel_rfl) (fun _ _ _ h => h) (Or.inl ⟨by rfl, fun wS hSw => by ((try dsimp only at hSw); go_simp; (try with_reducible rfl))⟩) (by assumption) ?_; simp only [Act.put, List.setIfInBounds_toArray, List.set_cons_zero, List.set_cons_succ]; refine heldL_take (i := 9) (v := _) (by rfl) (by kernel_rfl) (by kernel_rfl) (by kernel_rfl) (fun _ _ _ h => h) (Or.inl ⟨by rfl, fun wS hSw => by ((try dsimp only at hSw); go_simp; (try with_reducible rfl))⟩) (by assumption) ?_; simp only [Act.put, List.setIfInBounds_toArray, List.set_cons_zero, List.set_cons_succ]; refine heldL_take (i := 10) (v := _) (by rfl) (by kernel_rfl) (by kernel_rfl) (by kernel_rfl) (fun _ _ _ h => h) (Or.inl ⟨by rfl, fun wS hSw => by ((try dsimp only at hSw); go_simp; (try with_reducible rfl))⟩) (by assumption) ?_; simp only [Act.put, List.setIfInBounds_toArray, List.set_cons_zero, List.set_cons_succ]; refine heldL_take (i := 11) (v := _) (by rfl) (by kernel_rfl) (by kernel_rfl) (by kernel_rfl) (fun _ _ _ h => h) (Or.inl ⟨by rfl, fun wS hSw => by ((try dsimp only at hSw); go_simp; (try with_reducible rfl))⟩) (by assumption) ?_; simp only [Act.put, List.setIfInBounds_toArray, List.set_cons_zero, List.set_cons_succ]; refine heldL_take (i := 12) (v := _) (by rfl) (by kernel_rfl) (by kernel_rfl) (by kernel_rfl) (fun _ _ _ h => h) (Or.inl ⟨by rfl, fun wS hSw => by ((try dsimp only at hSw); go_simp; (try with_reducible rfl))⟩) (by assumption) ?_; simp only [Act.put, List.setIfInBounds_toArray, List.set_cons_zero, List.set_cons_succ]; refine heldL_take (i := 13) (v := _) (by rfl) (by kernel_rfl) (by kernel_rfl) (by kernel_rfl) (fun _ _ _ h => h) (Or.inl ⟨by rfl, fun wS hSw => by ((try dsimp only at hSw); go_simp; (try with_reducible rfl))⟩) (by assumption) ?_; simp only [Act.put, List.setIfInBounds_toArray, List.set_cons_zero, List.set_cons_succ]; refine heldL_take (i := 14) (v := _) (by rfl) (by kernel_rfl) (by kernel_rfl) (by kernel_rfl) (fun _ _ _ h => h) (Or.inl ⟨by rfl, fun wS hSw => by ((try dsimp only at hSw); go_simp; (try with_reducible rfl))⟩) (by assumption) ?_; simp only [Act.put, List.setIfInBounds_toArray, List.set_cons_zero, List.set_cons_succ]; refine heldL_take (i := 15) (v := _) (by rfl) (by kernel_rfl) (by kernel_rfl) (by kernel_rfl) (fun _ _ _ h => h) (Or.inl ⟨by rfl, fun wS hSw => by ((try dsimp only at hSw); go_simp; (try with_reducible rfl))⟩) (by assumption) ?_; simp only [Act.put, List.setIfInBounds_toArray, List.set_cons_zero, List.set_cons_succ]; refine heldL_take (i := 16) (v := _) (by rfl) (by kernel_rfl) (by kernel_rfl) (by kernel_rfl) (fun _ _ _ h => h) (Or.inl ⟨by rfl, fun wS hSw => by ((try dsimp only at hSw); go_simp; (try with_reducible rfl))⟩) (by assumption) ?_; simp only [Act.put, List.setIfInBounds_toArray, List.set_cons_zero, List.set_cons_succ]; refine heldL_take (i := 17) (v := _) (by rfl) (by kernel_rfl) (by kernel_rfl) (by kernel_rfl) (fun _ _ _ h => h) (Or.inl ⟨by rfl, fun wS hSw => by ((try dsimp only at hSw); go_simp; (try with_reducible rfl))⟩) (by assumption) ?_; simp only [Act.put, List.setIfInBounds_toArray, List.set_cons_zero, List.set_cons_succ]; refine heldL_take (i := 18) (v := _) (by rfl) (by kernel_rfl) (by kernel_rfl) (by kernel_rfl) (fun _ _ _ h => h) (Or.inl ⟨by rfl, fun wS hSw => by ((try dsimp only at hSw); go_simp; (try with_reducible rfl))⟩) (by assumption) ?_; simp only [Act.put, List.setIfInBounds_toArray, List.set_cons_zero, List.set_cons_succ]; refine heldL_take (i := 19) (v := _) (by rfl) (by kernel_rfl) (by kernel_rfl) (by kernel_rfl) (fun _ _ _ h => h) (Or.inl ⟨by rfl, fun wS hSw => by ((try dsimp only at hSw); go_simp; (try with_reducible rfl))⟩) (by assumption) ?_; simp only [Act.put, List.setIfInBounds_toArray, List.set_cons_zero, List.set_cons_succ]; refine heldL_take (i := 20) (v := _) (by rfl) (by kernel_rfl) (by kernel_rfl) (by kernel_rfl) (fun _ _ _ h => h) (Or.inl ⟨by rfl, fun wS hSw => by ((try dsimp only at hSw); go_simp; (try with_reducible rfl))⟩) (by assumption) ?_; simp only [Act.put, List.setIfInBounds_toArray, List.set_cons_zero, List.set_cons_succ]; refine heldL_take (i := 21) (v := _) (by rfl) (by kernel_rfl) (by kernel_rfl) (by kernel_rfl) (fun _ _ _ h => h) (Or.inl ⟨by rfl, fun wS hSw => by ((try dsimp only at hSw); go_simp; (try with_reducible rfl))⟩) (by assumption) ?_; simp only [Act.put, List.setIfInBounds_toArray, List.set_cons_zero, List.set_cons_succ]; refine heldL_take (i := 22) (v := _) (by rfl) (by kernel_rfl) (by kernel_rfl) (by kernel_rfl) (fun _ _ _ h => h) (Or.inl ⟨by rfl, fun wS hSw => by ((try dsimp only at hSw); go_simp; (try with_reducible rfl))⟩) (by assumption) ?_; simp only [Act.put, List.setIfInBounds_toArray, List.set_cons_zero, List.set_cons_succ]; refine heldL_take (i := 23) (v := _) (by rfl) (by kernel_rfl) (by kernel_rfl) (by kernel_rfl) (fun _ _ _ h => h) (Or.inl ⟨by rfl, fun wS hSw => by ((try dsimp only at hSw); go_simp; (try with_reducible rfl))⟩) (by assumption) ?_; simp only [Act.put, List.setIfInBounds_toArray, List.set_cons_zero, List.set_cons_succ]; refine heldL_take (i := 24) (v := _) (by rfl) (by kernel_rfl) (by kernel_rfl) (by kernel_rfl) (fun _ _ _ h => h) (Or.inl ⟨by rfl, fun wS hSw => by ((try dsimp only at hSw); go_simp; (try with_reducible rfl))⟩) (by assumption) ?_; simp only [Act.put, List.setIfInBounds_toArray, List.set_cons_zero, List.set_cons_succ])
        refine heldL_two (i := 25) (j := 29) (by kernel_rfl) (by rfl) (by rfl) (fun K hK => ?_) (fun K hK => ?_)
        · (go_simp; (refine (CD.out _ (o.rd'.grows (by exact bel0))).mono ?_; rintro e w5 ⟨m2, V5, c5, ok, rfl, hmx, o5, g5⟩; have z5 := Below.size g5; (try simp at z5); have HMX := Lib.hid hmx; clear hmx) ; (try (go_wp2_with fail)); refine hK.out _ _ (by ((try dsimp only); (first | exact ⟨(mb.grows (by exact bel1 g5)).c0, (mb.grows (by exact bel1 g5)).c1, (mb.grows (by exact bel1 g5)).c2, ((show Grows wr _ by exact bel1 g5).cell (p := ⟨bc, off + I, none⟩) hbw).trans hcell⟩ | exact ⟨(mb.grows (by exact bel0)).c0, (mb.grows (by exact bel0)).c1, (mb.grows (by exact bel0)).c2, ((show Grows wr _ by exact bel0).cell (p := ⟨bc, off + I, none⟩) hbw).trans hcell⟩))) (fun hHeld => ?_); clear hK K; (try simp only [Act.put, List.setIfInBounds_toArray, List.set_cons_zero, List.set_cons_succ]); refine heldL_take (i := 26) (v := _) (by rfl) (by kernel_rfl) (by kernel_rfl) (by kernel_rfl) (fun _ _ _ h => h) (Or.inl ⟨by rfl, fun wS hSw => by ((try dsimp only at hSw); go_simp; (try with_reducible rfl))⟩) (by assumption) ?_; simp only [Act.put, List.setIfInBounds_toArray, List.set_cons_zero, List.set_cons_succ]; refine heldL_take (i := 27) (v := _) (by rfl) (by kernel_rfl) (by kernel_rfl) (by kernel_rfl) (fun _ _ _ h => h) (Or.inl ⟨by rfl, fun wS hSw => by ((try dsimp only at hSw); go_simp; (try with_reducible rfl))⟩) (by assumption) ?_; simp only [Act.put, List.setIfInBounds_toArray, List.set_cons_zero, List.set_cons_succ]; refine heldL_take (i := 28) (v := _) (by rfl) (by kernel_rfl) (by kernel_rfl) (by kernel_rfl) (fun _ _ _ h => h) (Or.inl ⟨by rfl, fun wS hSw => by ((try dsimp only at hSw); go_simp; (try with_reducible rfl))⟩) (by assumption) ?_; simp only [Act.put, List.setIfInBounds_toArray, List.set_cons_zero, List.set_cons_succ]; refine heldL_step (i := 29) (by kernel_rfl) (by rfl) (fun K hK => ?_); go_simp; refine hK.out _ _ (by ((try dsimp only); (first | exact ⟨(mb.grows (by exact bel1 g5)).c0, (mb.grows (by exact bel1 g5)).c1, (mb.grows (by exact bel1 g5)).c2, ((show Grows wr _ by exact bel1 g5).cell (p := ⟨bc, off + I, none⟩) hbw).trans hcell⟩ | exact ⟨(mb.grows (by exact bel0)).c0, (mb.grows (by exact bel0)).c1, (mb.grows (by exact bel0)).c2, ((show Grows wr _ by exact bel0).cell (p := ⟨bc, off + I, none⟩) hbw).trans hcell⟩))) (fun hHeld => ?_); clear hK K; (try simp only [Act.put, List.setIfInBounds_toArray, List.set_cons_zero, List.set_cons_succ]); refine heldL_step (i := 30) (by kernel_rfl) (by rfl) (fun K hK => ?_); go_simp; refine hK.out _ _ (by ((try dsimp only); (first | exact ⟨(mb.grows (by exact bel1 g5)).c0, (mb.grows (by exact bel1 g5)).c1, (mb.grows (by exact bel1 g5)).c2, ((show Grows wr _ by exact bel1 g5).cell (p := ⟨bc, off + I, none⟩) hbw).trans hcell⟩ | exact ⟨(mb.grows (by exact bel0)).c0, (mb.grows (by exact bel0)).c1, (mb.grows (by exact bel0)).c2, ((show Grows wr _ by exact bel0).cell (p := ⟨bc, off + I, none⟩) hbw).trans hcell⟩))) (fun hHeld => ?_); clear hK K; (try simp only [Act.put, List.setIfInBounds_toArray, List.set_cons_zero, List.set_cons_succ]); refine heldL_take (i := 31) (v := _) (by rfl) (by kernel_rfl) (by kernel_rfl) (by kernel_rfl) (fun _ _ _ h => h) (Or.inl ⟨by rfl, fun wS hSw => by ((try dsimp only at hSw); go_simp; (try with_reducible rfl))⟩) (by assumption) ?_; simp only [Act.put, List.setIfInBounds_toArray, List.set_cons_zero, List.set_cons_succ]; refine wpAnyH_done (by kernel_rfl) ?_ _; refine NoPanic.normal ?_)
          go_wp2_with fail
          go_meet
          exact ⟨_, m2, V5, c5, ok, rfl, rfl, HMX, by first | exact MBox.put q _ _ _ | exact MBox.mk_ _ _ _ _ _ | exact MBox.put (MBox.mk_ _ _ _ _ _) _ _ _, by (have hb_ := fun k hk => World.ownsRow.lt o5 k hk; have ho_ := Own.less o5 (show wr.heap.size ≤ _ by first | omega | (simp; done) | (simp; omega)); (repeat' (first | with_reducible exact ho_ | with_reducible refine Own.alloc ?_ _ | with_reducible refine Own.drew ?_ | with_reducible refine Own.far ?_ ?_ _)); all_goals first | (intro k hk; have := hb_ k hk; (try simp at this); (try simp); omega) | omega | (simp; done) | (simp; omega)), by first | omega | (simp; done) | (simp; omega), (fun g hg => by have h1 := World.ownsRow.lt o5 g hg; (try simp at h1); (try simp only); first | omega | (simp; omega)), by exact bel1 g5⟩
        · (go_simp; refine hK.out _ _ (by ((try dsimp only); (first | exact ⟨(mb.grows (by exact bel1 g5)).c0, (mb.grows (by exact bel1 g5)).c1, (mb.grows (by exact bel1 g5)).c2, ((show Grows wr _ by exact bel1 g5).cell (p := ⟨bc, off + I, none⟩) hbw).trans hcell⟩ | exact ⟨(mb.grows (by exact bel0)).c0, (mb.grows (by exact bel0)).c1, (mb.grows (by exact bel0)).c2, ((show Grows wr _ by exact bel0).cell (p := ⟨bc, off + I, none⟩) hbw).trans hcell⟩))) (fun hHeld => ?_); clear hK K; (try simp only [Act.put, List.setIfInBounds_toArray, List.set_cons_zero, List.set_cons_succ]); refine heldL_step (i := 25) (by kernel_rfl) (by rfl) (fun K hK => ?_); go_simp; (refine (CD.out _ (o.rd'.grows (by exact bel0))).mono ?_; rintro e w5 ⟨m2, V5, c5, ok, rfl, hmx, o5, g5⟩; have z5 := Below.size g5; (try simp at z5); have HMX := Lib.hid hmx; clear hmx; have q := MBox.grows (MBox.mk_ wr 0 0 (.slice none 0 0) 26) (w' := w5) (Below.trans (show Grows _ _ by exact bel0) g5); obtain ⟨q0, q1, q2⟩ := q.cells; have qf := q.fz; have ql := q.lt) ; (try (go_wp2_with fail)); refine hK.out _ _ (by ((try dsimp only); (first | exact ⟨(mb.grows (by exact bel1 g5)).c0, (mb.grows (by exact bel1 g5)).c1, (mb.grows (by exact bel1 g5)).c2, ((show Grows wr _ by exact bel1 g5).cell (p := ⟨bc, off + I, none⟩) hbw).trans hcell⟩ | exact ⟨(mb.grows (by exact bel0)).c0, (mb.grows (by exact bel0)).c1, (mb.grows (by exact bel0)).c2, ((show Grows wr _ by exact bel0).cell (p := ⟨bc, off + I, none⟩) hbw).trans hcell⟩))) (fun hHeld => ?_); clear hK K; (try simp only [Act.put, List.setIfInBounds_toArray, List.set_cons_zero, List.set_cons_succ]); refine heldL_take (i := 26) (v := _) (by rfl) (by kernel_rfl) (by kernel_rfl) (by kernel_rfl) (fun _ _ _ h => h) (Or.inl ⟨by rfl, fun wS hSw => by ((try dsimp only at hSw); go_simp; (try with_reducible rfl))⟩) (by assumption) ?_; simp only [Act.put, List.setIfInBounds_toArray, List.set_cons_zero, List.set_cons_succ]; refine heldL_take (i := 27) (v := _) (by rfl) (by kernel_rfl) (by kernel_rfl) (by kernel_rfl) (fun _ _ _ h => h) (Or.inl ⟨by rfl, fun wS hSw => by ((try dsimp only at hSw); go_simp; (try with_reducible rfl))⟩) (by assumption) ?_; simp only [Act.put, List.setIfInBounds_toArray, List.set_cons_zero, List.set_cons_succ]; refine heldL_take (i := 28) (v := _) (by rfl) (by kernel_rfl) (by kernel_rfl) (by kernel_rfl) (fun _ _ _ h => h) (Or.inl ⟨by rfl, fun wS hSw => by ((try dsimp only at hSw); go_simp; (try with_reducible rfl))⟩) (by assumption) ?_; simp only [Act.put, List.setIfInBounds_toArray, List.set_cons_zero, List.set_cons_succ]; refine heldL_step (i := 30) (by kernel_rfl) (by rfl) (fun K hK => ?_); go_simp; refine hK.out _ _ (by ((try dsimp only); (first | exact ⟨(mb.grows (by exact bel1 g5)).c0, (mb.grows (by exact bel1 g5)).c1, (mb.grows (by exact bel1 g5)).c2, ((show Grows wr _ by exact bel1 g5).cell (p := ⟨bc, off + I, none⟩) hbw).trans hcell⟩ | exact ⟨(mb.grows (by exact bel0)).c0, (mb.grows (by exact bel0)).c1, (mb.grows (by exact bel0)).c2, ((show Grows wr _ by exact bel0).cell (p := ⟨bc, off + I, none⟩) hbw).trans hcell⟩))) (fun hHeld => ?_); clear hK K; (try simp only [Act.put, List.setIfInBounds_toArray, List.set_cons_zero, List.set_cons_succ]); refine heldL_take (i := 31) (v := _) (by rfl) (by kernel_rfl) (by kernel_rfl) (by kernel_rfl) (fun _ _ _ h => h) (Or.inl ⟨by rfl, fun wS hSw => by ((try dsimp only at hSw); go_simp; (try with_reducible rfl))⟩) (by assumption) ?_; simp only [Act.put, List.setIfInBounds_toArray, List.set_cons_zero, List.set_cons_succ]; refine wpAnyH_done (by kernel_rfl) ?_ _; refine NoPanic.normal ?_)
          go_wp2_with fail
          go_meet
          exact ⟨_, m2, V5, c5, ok, rfl, rfl, HMX, by first | exact MBox.put q _ _ _ | exact MBox.mk_ _ _ _ _ _ | exact MBox.put (MBox.mk_ _ _ _ _ _) _ _ _, by (have hb_ := fun k hk => World.ownsRow.lt o5 k hk; have ho_ := Own.less o5 (show wr.heap.size ≤ _ by first | omega | (simp; done) | (simp; omega)); (repeat' (first | with_reducible exact ho_ | with_reducible refine Own.alloc ?_ _ | with_reducible refine Own.drew ?_ | with_reducible refine Own.far ?_ ?_ _)); all_goals first | (intro k hk; have := hb_ k hk; (try simp at this); (try simp); omega) | omega | (simp; done) | (simp; omega)), by first | omega | (simp; done) | (simp; omega), (fun g hg => by have h1 := World.ownsRow.lt o5 g hg; (try simp at h1); (try simp only); first | omega | (simp; omega)), by exact bel1 g5⟩
      case rest =>
        obtain ⟨gb, m2, V2, c2, ok, rfl, rfl, HM2, mb2, ox, hgb, hne2, gx⟩ := hcut
        obtain ⟨wx, rfl⟩ : ∃ x : World, x = wc := ⟨_, rfl⟩
        have sx := Below.size gx
        have mbx := mb.grows gx
        have mrx := mr.grows gx
        have blr := mb.lt
        have mlr := mr.lt
        have hvx := fun g e => World.ownsRow.lt ox g e
        clear b0 b1 b2 mb mr o CD hcell
        obtain ⟨d0, d1, d2⟩ := mb2.cells
        obtain ⟨b0, b1, b2⟩ := mbx.cells
        have dl := mb2.lt
        have bl := mbx.lt
        have bf := mbx.fz
        have mw := mrx.lt
        go_wp2_with fail
        go_round
        case rel => exact ⟨I + 1, m2, V2, c2, by go_num, by omega, HM2, MBox.put mbx _ _ _, by (have hv_ := fun g e => World.ownsRow.lt ox g e; refine Own.less (B := ?OB87) ?_ ?_; ((repeat' (first | with_reducible exact ox | with_reducible refine Own.alloc ?_ _ | with_reducible refine Own.drew ?_ | with_reducible refine Own.far ?_ ?_ _)); all_goals (first | omega | (simp; omega) | (intro g hg; have := hv_ g hg; (try simp only); first | omega | (simp; omega))))), by ((repeat' (first | with_reducible exact mrx | with_reducible refine MBox.alloc ?_ _ | with_reducible refine MBox.drew_ ?_ | with_reducible refine MBox.far ?_ ?_ _)); all_goals (first | omega | (simp; done) | (simp; omega))), by exact bel2 gx g, by simp; omega⟩
        case measure => first | (simp [intOf]; done) | (simp [intOf]; omega)
    · obtain ⟨e0, e1, e2⟩ := mr.cells
      have ef := mr.fz
      have el := mr.lt
      have bl := mb.lt
      have hmx := HX.out
      have G : Grows w wr := Below.trans g01 (Below.mono g (by omega))
      by_cases h1 : I < n
      · have h1' : (I : Int) < (n : Int) := by omega
        obtain ⟨bc, off, x, rfl, hbc, hcell, hx0, hx1⟩ := (HR.out.keep (Below.mono g (by omega))) I h1
        by_cases h2 : I < 6
        · have h2' : (I : Int) < 6 := by omega
          have h3' : ¬ (1 : Int) < (N : Int) := fun h => hgo ⟨h1, h2, by omega⟩
          clear hgo
          go_wp2_with fail
          refine bodyPost_ret (v := .agg #[.int .i64 m.r, .int .i64 m.c, .slice V m.l.length c]) ?_ rfl ?_
          · simp [results, Try.results17, go_sem, e0, e1, e2, ef, el]
          · exact ⟨m, V, c, rfl, hmx, by (have hv_ := fun g e => World.ownsRow.lt o g e; refine Own.less (B := ?OB88) ?_ ?_; ((repeat' (first | with_reducible exact o | with_reducible refine Own.alloc ?_ _ | with_reducible refine Own.drew ?_ | with_reducible refine Own.far ?_ ?_ _)); all_goals (first | omega | (simp; omega) | (intro g hg; have := hv_ g hg; (try simp only); first | omega | (simp; omega))))), by exact bel1 G⟩
        · have h2' : ¬ (I : Int) < 6 := by omega
          clear hgo
          go_wp2_with fail
          refine bodyPost_ret (v := .agg #[.int .i64 m.r, .int .i64 m.c, .slice V m.l.length c]) ?_ rfl ?_
          · simp [results, Try.results17, go_sem, e0, e1, e2, ef, el]
          · exact ⟨m, V, c, rfl, hmx, by (have hv_ := fun g e => World.ownsRow.lt o g e; refine Own.less (B := ?OB89) ?_ ?_; ((repeat' (first | with_reducible exact o | with_reducible refine Own.alloc ?_ _ | with_reducible refine Own.drew ?_ | with_reducible refine Own.far ?_ ?_ _)); all_goals (first | omega | (simp; omega) | (intro g hg; have := hv_ g hg; (try simp only); first | omega | (simp; omega))))), by exact bel1 G⟩
      · have h1' : ¬ (I : Int) < (n : Int) := by omega
        clear hgo
        go_wp2_with fail
        refine bodyPost_ret (v := .agg #[.int .i64 m.r, .int .i64 m.c, .slice V m.l.length c]) ?_ rfl ?_
        · simp [results, Try.results17, go_sem, e0, e1, e2, ef, el]
        · exact ⟨m, V, c, rfl, hmx, by (have hv_ := fun g e => World.ownsRow.lt o g e; refine Own.less (B := ?OB90) ?_ ?_; ((repeat' (first | with_reducible exact o | with_reducible refine Own.alloc ?_ _ | with_reducible refine Own.drew ?_ | with_reducible refine Own.far ?_ ?_ _)); all_goals (first | omega | (simp; omega) | (intro g hg; have := hv_ g hg; (try simp only); first | omega | (simp; omega))))), by exact bel1 G⟩
end
end Go.Proofs.Yticmopedbgoflaa
