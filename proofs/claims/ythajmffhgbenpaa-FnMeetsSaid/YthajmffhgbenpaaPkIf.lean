/- Contracts and lemmas, put together. -/
import Derived.Test.YthajmffhgbenpaaPkE
import Derived.Test.YthajmffhgbenpaaPkH
/- Contracts: the first columns of a matrix. -/
namespace Go.Proofs.Ythajmffhgbenpaa
set_option linter.unusedSimpArgs false
set_option linter.unusedVariables false
open Go.RowKit

def fcL (R C N : Nat) (l : List Int) : List Int := tab R N fun i j => nth l (i * C + j)
theorem fcL_length (R C N : Nat) (l : List Int) : (fcL R C N l).length = R * N := tab_length _ _ _
theorem fcL_num {R C N : Nat} {l : List Int} (h : allNum l = true) : allNum (fcL R C N l) = true := by
  rw [allNum_iff]
  intro i hi
  rw [fcL_length] at hi
  obtain ⟨h1, h2, h3⟩ := idx_split hi
  rw [h3]
  unfold fcL
  rw [tab_nth _ h1 h2]
  by_cases e : (i / N * C + i % N) < l.length
  · exact (allNum_iff l).1 h _ e
  · rw [nth_out _ _ (by omega)]; decide
theorem fcL_succ {I C N : Nat} {l : List Int} (hN : N ≤ C) (hl : (I + 1) * C ≤ l.length) : fcL (I + 1) C N l = fcL I C N l ++ (l.take (I * C + N)).drop (I * C) := by
  have h1 : (I + 1) * C = I * C + C := by rw [Nat.add_mul, Nat.one_mul]
  have h2 : (I + 1) * N = I * N + N := by rw [Nat.add_mul, Nat.one_mul]
  have h3 : ((l.take (I * C + N)).drop (I * C)).length = N := by rw [List.length_drop, List.length_take]; omega
  refine nth_ext (by rw [List.length_append, fcL_length, fcL_length, h3, h2]) fun k hk => ?_
  rw [fcL_length] at hk
  obtain ⟨a1, a2, a3⟩ := idx_split hk
  have e1 : nth (fcL (I + 1) C N l) k = nth l (k / N * C + k % N) := by
    unfold fcL
    conv => lhs; rw [a3]
    rw [tab_nth _ a1 a2]
  rw [e1]
  by_cases e : k < I * N
  · rw [nth_append_left _ _ _ (by rw [fcL_length]; exact e)]
    obtain ⟨b1, b2, b3⟩ := idx_split e
    unfold fcL
    conv => rhs; rw [b3]
    rw [tab_nth _ b1 b2]
  · rw [nth_append_right _ _ _ (by rw [fcL_length]; omega), fcL_length]
    have hN0 : 0 < N := by rcases Nat.eq_zero_or_pos N with h | h; (· subst h; omega); (· exact h)
    have q1 : k / N = I := by
      have : I * N ≤ k := by omega
      exact Nat.le_antisymm (Nat.le_of_lt_succ a1) ((Nat.le_div_iff_mul_le hN0).2 this)
    have q2 : k % N = k - I * N := by rw [q1] at a3; omega
    rw [q1, q2]
    unfold nth
    simp only [List.getD_eq_getElem?_getD, List.getElem?_drop]
    rw [List.getElem?_take, if_pos (by omega)]
/-- the shape of a basis, of a kernel -/
theorem basO_shape {a k : MX} (h : basO a = some k) : ∃ (T : Nat) (C : Nat) (l : List Int), k = ⟨T, C, l⟩ ∧ a.c = C ∧ T ≤ 24 ∧ C ≤ 24 ∧ l.length = T * C ∧ isMat T C l = true := by
  have hk := basO_ok h
  obtain ⟨R, C, e1, e2, hR, hC, hl, _⟩ := isMat_ok hk
  unfold basO at h
  obtain ⟨x, _, h2⟩ := Option.map_eq_some_iff.1 h
  have e3 : k.c = a.c := by rw [← h2]
  obtain ⟨r, c, l⟩ := k
  simp only at e1 e2 e3 hl
  subst e1 e2
  exact ⟨R, C, l, rfl, e3.symm, hR, hC, hl, hk⟩
theorem kerO_shape {a k : MX} (h : kerO a = some k) : ∃ (T : Nat) (C : Nat) (l : List Int), k = ⟨T, C, l⟩ ∧ a.r = C ∧ T ≤ 24 ∧ C ≤ 24 ∧ l.length = T * C ∧ isMat T C l = true := by
  unfold kerO at h
  obtain ⟨x, _, h2⟩ := Option.bind_eq_some_iff.1 h
  exact basO_shape h2

section
set_option maxHeartbeats 2000000
theorem firstCols_c (R C N : Nat) (A : Option Addr) (l : List Int) (n cap : Nat) (w : World) (hn : l.length = n) (hlen : l.length = R * C) (hR : R ≤ 24) (hC : C ≤ 24) (hN : N ≤ C) (hcap : n ≤ cap) (hcap2 : cap ≤ 9223372036854775807) (ha : Rd w A l) :
    Calls Try.prog 26 #[.agg #[.int .i64 R, .int .i64 C, .slice A n cap], .int .i64 N] w (Mat1 ⟨R, N, fcL R C N l⟩ w) := by
  obtain ⟨w1, hw1, mg, mr, hs1, g01⟩ := one_mat w R C (.slice A n cap)
  have HW1 := Lib.hid hw1
  have HS1 := Lib.hid hs1
  have ha1 : Rd w1 A l := ha.grows g01
  have HN := Lib.hid hn
  have HLN := Lib.hid hlen
  have hRN : R * N ≤ 576 := Nat.mul_le_mul hR (Nat.le_trans hN hC)
  have hRC : R * C ≤ 576 := Nat.mul_le_mul hR hC
  have CN := Lib.hid fun W => newMatrix_c R N W (by omega)
  clear hw1 hs1 hn hlen
  obtain ⟨b0, b1, b2⟩ := mg.cells
  go_enter Try.func26, Try.ntmps26
  go_wp2_with fail
  rw [← HW1.out]
  refine (CN.out _).mono ?_; rintro e w3 ⟨g, rfl, ho3, g3⟩
  have hgl := ho3.lt
  have hs3 := Below.size g3
  have hsw := HS1.out
  clear b0 b1 b2
  go_wp2_with fail
  go_loopw [6] (fun i wx => ∃ (I : Nat) (m : List Int), i = .int .i64 I ∧ I ≤ R ∧ m.length = R * N ∧ Upto N (fun i j => nth l (i * C + j)) I 0 m ∧ Own wx w1.heap.size (.slice (some ⟨g, 0, none⟩) (R * N) (R * N)) m ∧ Grows w1 wx ∧ MBox wx w3.heap.size R N (.slice (some ⟨g, 0, none⟩) (R * N) (R * N))) (fun i _ => R - (intOf i).toNat)
  case atStart => exact ⟨0, _, rfl, Nat.zero_le _, by simp, Upto.zero _ _ _, ho3.alloc _, by exact bel1 g3, MBox.new_ _ _ _ _ _ rfl⟩
  case round =>
    clear ho3
    obtain ⟨I, m, rfl, hI, hm, hU, ho3, hg, m3⟩ := hrel
    have HM := Lib.hid hm
    have HU := Lib.hid hU
    clear hm hU
    by_cases hlt2 : I < R
    · have hlt' : (I : Int) < (R : Int) := by omega
      obtain ⟨x0, x1, x2⟩ := (mg.grows hg).ext
      obtain ⟨y0, y1, y2⟩ := m3.ext
      obtain ⟨u0, u1, u2⟩ := (mg.grows hg).cells
      obtain ⟨v0, v1, v2⟩ := m3.cells
      have hra := ha1.grows hg
      have hIN : (I + 1) * N ≤ R * N := Nat.mul_le_mul_right N hlt2
      have hIR : (I + 1) * C ≤ R * C := Nat.mul_le_mul_right C hlt2
      have hIN2 : I * N + N = (I + 1) * N := by rw [Nat.add_mul, Nat.one_mul]
      have hIR2 : I * C + C = (I + 1) * C := by rw [Nat.add_mul, Nat.one_mul]
      have CR := Lib.hid fun W => row_c R N (some ⟨g, 0, none⟩) m (R * N) (R * N) I I W rfl HM.out (Nat.le_refl _) (by omega) hIN (by omega) (by omega)
      have CS := Lib.hid fun W => row_c R C A l n cap I I W rfl HN.out hcap hcap2 (by have := HLN.out; have := HN.out; omega) (by omega) (by omega)
      have hcl : I * C + C ≤ cap := by have := HLN.out; have := HN.out; omega
      have z1 : (N : Int) ≤ ((cap - I * C : Nat) : Int) := by omega
      have rS := rowA_rd (cap := cap) (C := C) (I := I) hra (by rw [HLN.out]; exact hIR) (by rw [HN.out]; exact hcap)
      have rl : (rowL C l I).length = C := rowL_length (by rw [HLN.out]; exact hIR)
      have rS2 := rS.take_ N
      have dA : 0 < ((rowL C l I).take N).length → rowA (R * N) N (some ⟨g, 0, none⟩) I = some ⟨g, 0 + I * N, none⟩ := fun h => rowA_at (by omega) (by rw [List.length_take, rl] at h; omega)
      have tl : ((rowL C l I).take N).length = N := by rw [List.length_take, rl]; omega
      have DA := Lib.hid dA
      have TL := Lib.hid tl
      have hgs := ho3.lt
      have HX := Lib.hid (show ∀ j, j < N → nth ((rowL C l I).take N) j = nth l (I * C + j) from fun j hj => by rw [← rowL_nth (C := C) (by omega)]; unfold nth; simp only [List.getD_eq_getElem?_getD, List.getElem?_take, if_pos hj])
      have HIN := Lib.hid hIN2
      clear dA tl rl hIN2 hIR2
      generalize hRN : rowA (R * N) N (some ⟨g, 0, none⟩) I = dN at *
      generalize hRS : rowA cap C A I = dS at *
      have R1 := Lib.hid hRN
      have R2 := Lib.hid hRS
      clear hRN hRS
      go_wp2_with fail
      ((refine wp_region_tail 8 (by kernel_rfl) (by kernel_rfl) ?_; simp only [List.take_succ_cons, List.take_zero, List.drop_succ_cons, List.drop_zero]); (repeat (go_big_quiet_step ((first | (go_at_call 28; with_reducible exact extC (CR.out _)) | (go_at_call 28; with_reducible exact extC (CS.out _)))))); refine wpQuiet_nil ?_; rintro w4 ⟨w40, hw40⟩; have g4 := grows_of_ext hw40; clear hw40 w40)
      have ho4 := ho3.grows g4
      have r4 := rS2.grows g4
      refine wpList_copyI rfl (.tmp 19) (.tmp 24) rfl _ w1.heap.size g (R * N) (R * N) (0 + I * N) N (R * N - I * N) m ho4 HM.out dN (by rfl) dS ((rowL C l I).take N) N (cap - I * C) (by rfl) r4 TL.out.symm (by rw [TL.out]; exact Nat.le_refl _) (by rw [TL.out]; have := HIN.out; omega) DA.out ?_; intro w5 ho5 hg5
      have hLY := Lib.hid (show Upto N (fun i j => nth l (i * C + j)) (I + 1) 0 (lay m (0 + I * N) ((rowL C l I).take N)) from fun i j hij => by
        have hin := HIN.out
        have hiN : i * N + N = (i + 1) * N := by rw [Nat.add_mul, Nat.one_mul]
        by_cases e : i = I
        · subst e
          rw [show i * N + j = (0 + i * N) + j by omega, lay_nth_in (by rw [TL.out, HM.out]; omega) (by rw [TL.out]; omega)]
          exact HX.out j (by omega)
        · have hlt3 : (i + 1) * N ≤ I * N := Nat.mul_le_mul_right N (by omega)
          rw [lay_nth_out (by rw [TL.out, HM.out]; omega) (by left; omega)]
          exact HU.out i j (by omega))
      have hLL := Lib.hid (lay_length (l := m) (m := (rowL C l I).take N) (off := 0 + I * N) (by rw [TL.out, HM.out]; have := HIN.out; omega))
      go_wp2_with fail
      go_round
      case rel => exact ⟨I + 1, _, by go_num, by omega, by rw [hLL.out, HM.out], hLY.out, ho5, below_only (Grows.trans hg g4) hg5 (by omega) (by have := hg.size; have := g4.size; omega), (m3.grows g4).only hg5 (by omega)⟩
      case measure => simp [intOf]; omega
    · obtain rfl : I = R := by omega
      have hfin : m = fcL I C N l := Upto.all HU.out HM.out
      subst hfin
      have mr2 := mr.grows hg
      obtain ⟨u0, u1, u2⟩ := (mg.grows hg).cells
      obtain ⟨v0, v1, v2⟩ := m3.cells
      have vl := m3.lt
      obtain ⟨zr0, zr1, zr2⟩ := mr2.cells; have zrf := mr2.fz; have zrl := mr2.lt
      go_wp2_with fail
      refine bodyPost_ret (v := .agg #[.int .i64 I, .int .i64 N, .slice (some ⟨g, 0, none⟩) (I * N) (I * N)]) ?_ rfl ?_
      · simp [results, Try.results26, go_sem, zr0, zr1, zr2, zrf, zrl]
      · exact ⟨_, rfl, by exact ownl ho3, by exact bel2 hg g01⟩
end
end Go.Proofs.Ythajmffhgbenpaa
