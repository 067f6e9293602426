/- Contracts and lemmas, put together. -/
import Derived.Test.YthajmffhgbenpaaPkB
import Derived.Test.YthajmffhgbenpaaPkD
import Derived.Test.YthajmffhgbenpaaPkE
import Derived.Test.YthajmffhgbenpaaPkF
import Derived.Test.YthajmffhgbenpaaPkGh
/- Contracts: rows put together to a matrix; some rows of a matrix. -/
namespace Go.Proofs.Ythajmffhgbenpaa
set_option linter.unusedSimpArgs false
set_option linter.unusedVariables false
open Go.RowKit

theorem und_ints : Try.prog.underlying 36 = some (.slice 24) := Try.underlying36
theorem info_ints : (Try.prog.info? 24).map (fun i => (i.zero, i.size, i.bytes)) = some (some (.slice none 0 0), 1, 24) := by kernel_rfl

/-- the first I of some rows -/
def takeF (C : Nat) (l rs : List Int) : Nat → List (List Int)
  | 0 => []
  | i + 1 => takeF C l rs i ++ [rowL C l (nth rs i).toNat]
theorem takeF_length (C : Nat) (l rs : List Int) (i : Nat) : (takeF C l rs i).length = i := by
  induction i with
  | zero => rfl
  | succ i ih => rw [takeF]; simp [ih]
/-- the first I rows, one behind the other -/
def flatF (L : List (List Int)) : Nat → List Int
  | 0 => []
  | i + 1 => flatF L i ++ L.getD i []
theorem flatF_length {L : List (List Int)} {C : Nat} (h : ∀ i, i < L.length → (L.getD i []).length = C) (i : Nat) (hi : i ≤ L.length) : (flatF L i).length = i * C := by
  induction i with
  | zero => simp [flatF]
  | succ i ih => rw [flatF, List.length_append, ih (by omega), h i (by omega), Nat.add_mul, Nat.one_mul]

section
set_option maxHeartbeats 2000000
theorem fromRows_c (A : Option Addr) (L : List (List Int)) (k cap C : Nat) (cols : Int) (w : World) (hk : L.length = k) (hk2 : k ≤ 4000) (hC : C ≤ 4000) (hL : ∀ i, i < L.length → (L.getD i []).length = C) (ha : RdR RSI w A L) :
    Calls Try.prog 30 #[.slice A k cap, .int .i64 cols] w (Mat1 ⟨k, cols, flatF L k⟩ w) := by
  obtain ⟨w1, hw1⟩ : ∃ w1, w1 = w.alloc (.cells #[.int .i64 0, .int .i64 0, .slice none 0 0] 26) := ⟨_, rfl⟩
  have mr : MBox w1 w.heap.size 0 0 (.slice none 0 0) := by rw [hw1]; exact MBox.mk_ _ _ _ _ _
  have g01 : Grows w w1 := by rw [hw1]; exact bel0
  have hs1 : w1.heap.size = w.heap.size + 1 := by rw [hw1]; simp
  have ha1 : RdR RSI w1 A L := ha.grows RSI.good g01
  have HW1 := Lib.hid hw1
  have HS1 := Lib.hid hs1
  have HK := Lib.hid hk
  have HLC := Lib.hid hL
  have hkb : ∀ I, I ≤ k → I * C ≤ 16000000 := fun I hI => by have := Nat.mul_le_mul (Nat.le_trans hI hk2) hC; omega
  have HKB := Lib.hid hkb
  clear hw1 hs1 hk hL hkb
  have hrl := mr.lt
  go_enter Try.func30, Try.ntmps30
  go_wp2_with fail
  rw [← HW1.out]
  go_loopw [15] (fun i wr => ∃ (I : Nat) (v : Value), i = .int .i64 I ∧ I ≤ k ∧ Own wr w1.heap.size v (flatF L I) ∧ MBox wr (w.heap.size + 1 + 1) k cols v ∧ (∀ g, v.ownBlock = some g → g ≠ w.heap.size + 1 + 1) ∧ Below w1.heap.size w1 wr) (fun i _ => k - (intOf i).toNat)
  case atStart => exact ⟨0, _, rfl, Nat.zero_le _, (Own.new_ w1 HS1.out (by have := HS1.out; omega)).alloc _, MBox.new_ _ _ _ _ _ (by have := HS1.out; simp; omega), by intro g hg; simp [Value.ownBlock] at hg; omega, by exact bel0⟩
  case round =>
    obtain ⟨I, v, rfl, hI, ho, mb, hv, hg⟩ := hrel
    have bl0 := mb.lt
    have hsz := Below.size hg
    have HV := Lib.hid hv
    clear hv
    obtain ⟨A1, c1, rfl, _, _⟩ := ho.val
    obtain ⟨b0, b1, b2⟩ := mb.cells
    have bf := mb.fz
    have bl := mb.lt
    by_cases hlt : I < k
    · have hlt' : (I : Int) < (k : Int) := by omega
      obtain ⟨ab, off, u, rfl, hab, hcell, A2, c2, rfl, hr2, hc2⟩ := (ha1.grows RSI.good hg).at_ I (by rw [HK.out]; exact hlt)
      have HX := Lib.hid (show flatF L (I + 1) = flatF L I ++ L[I]'(by rw [HK.out]; exact hlt) by rw [flatF]; congr 1; simp [List.getD, HK.out, hlt])
      have hxl : (L[I]'(by rw [HK.out]; exact hlt)).length = C := by have := HLC.out I (by rw [HK.out]; exact hlt); simpa [List.getD, HK.out, hlt] using this
      have hfl : (flatF L I).length = I * C := flatF_length HLC.out I (by rw [HK.out]; omega)
      have hbd := HKB.out I hI
      generalize L[I]'(by rw [HK.out]; exact hlt) = row at *
      have HXL := Lib.hid hxl
      have HFL := Lib.hid hfl
      clear hxl hfl
      go_wp2_with (at_builtin; refine wpList_app rfl (.tmp 20) (.tmp 21) rfl _ w1.heap.size _ (flatF L I) (by rfl) ho A2 row row.length c2 (by rfl) rfl hr2 (by have := HXL.out; have := HFL.out; omega) (by omega) ?_; intro v7 w7 ho7 hg7 hv7; have hb7 := below_app ho (by omega) hg7; have mb7 := mb.own hg7 HV.out; obtain ⟨A7, c7, rfl, _, _⟩ := ho7.val; clear b0 b1 b2 bf bl; obtain ⟨b0, b1, b2⟩ := mb7.cells; have bf := mb7.fz; have bl := mb7.lt; clear hg7)
      go_round
      case rel =>
        have hs1 := HS1.out
        have hne : ∀ g, (Value.slice A7 (flatF L I ++ row).length c7).ownBlock = some g → g ≠ w.heap.size + 1 + 1 := fun g hg => by
          rcases hv7 with h | h
          · exact HV.out g (by rw [← h]; exact hg)
          · rw [h] at hg; cases hg; omega
        have ho8 := ho7.far (p := ⟨w.heap.size + 1 + 1, 2, none⟩) hne (.slice A7 (flatF L I ++ row).length c7)
        exact ⟨I + 1, _, by go_num, by omega, by rw [HX.out]; simpa using ho8, by simpa using mb7.put2 _, by simpa using hne, (Below.trans hg hb7).setCell (by simp; omega) _⟩
      case measure => simp [intOf]; omega
    · obtain rfl : I = k := by omega
      have mr2 := mr.keep hg (by omega)
      obtain ⟨zr0, zr1, zr2⟩ := mr2.cells; have zrf := mr2.fz; have zrl := mr2.lt
      have hs1 := HS1.out
      go_wp2_with fail
      refine bodyPost_ret (v := .agg #[.int .i64 I, .int .i64 cols, .slice A1 (flatF L I).length c1]) ?_ rfl ?_
      · simp [results, Try.results30, go_sem, zr0, zr1, zr2, zrf, zrl]
      · exact ⟨_, rfl, by exact ownl ho, by exact bel2 hg g01⟩
end
end Go.Proofs.Ythajmffhgbenpaa

/- Contracts: a basis of the rows, of what a matrix takes to 0. -/
namespace Go.Proofs.Ythajmffhgbenpaa
set_option linter.unusedSimpArgs false
set_option linter.unusedVariables false
open Go.RowKit

/-! ### plain: which rows of a Hermite form are zeros -/
def upto (T n : Nat) : List Int := (List.range n).map fun k => ((T + k : Nat) : Int)
theorem upto_length (T n : Nat) : (upto T n).length = n := by simp [upto]
theorem upto_nth {T n i : Nat} (h : i < n) : nth (upto T n) i = ((T + i : Nat) : Int) := by
  rw [nth_get _ _ (by rw [upto_length]; exact h)]; simp [upto]
theorem upto_succ (T n : Nat) : upto T (n + 1) = upto T n ++ [((T + n : Nat) : Int)] := by simp [upto, List.range_succ]
/-- t rows that are not zeros, then zeros -/
structure Stair (R C t : Nat) (l : List Int) : Prop where
  len : l.length = R * C
  tR : t ≤ R
  full : ∀ i, i < t → pv C l i ≠ C
  zero : ∀ i, t ≤ i → i < R → pv C l i = C
theorem HI.stair {R C : Nat} {x : TS} (h : HI R C C x) : Stair R C x.1 x.2.1 := by
  refine ⟨h.ok.l1, h.tR, fun i hi e => ?_, fun i h1 h2 => ?_⟩
  · obtain ⟨c, hc, hne⟩ := h.full i hi
    exact hne (pv_zero hc (by rw [e]; exact hc))
  · have hle := pv_le (i := i) h.ok.l1 h2
    rcases Nat.lt_or_ge (pv C x.2.1 i) C with h3 | h3
    · exact absurd (h.zero i h1 h2 _ h3) (pv_ne h.ok.l1 h2 h3)
    · omega
theorem Stair.fullR {R C t : Nat} {l : List Int} (h : Stair R C t l) (i : Nat) (hi : i ≤ R) : Proofs.Ythajmffhgbenpaa.fullR C l i = upto 0 (min i t) := by
  induction i with
  | zero => simp [Proofs.Ythajmffhgbenpaa.fullR, upto]
  | succ i ih =>
    rw [Proofs.Ythajmffhgbenpaa.fullR, ih (by omega)]
    by_cases e : i < t
    · rw [if_neg (h.full i e), show min (i + 1) t = i + 1 by omega, show min i t = i by omega, upto_succ, Nat.zero_add]
    · rw [if_pos (h.zero i (by omega) (by omega)), show min (i + 1) t = t by omega, show min i t = t by omega]
theorem Stair.zeroR {R C t : Nat} {l : List Int} (h : Stair R C t l) (i : Nat) (hi : i ≤ R) : Proofs.Ythajmffhgbenpaa.zeroR C l i = upto t (i - t) := by
  induction i with
  | zero => simp [Proofs.Ythajmffhgbenpaa.zeroR, upto]
  | succ i ih =>
    rw [Proofs.Ythajmffhgbenpaa.zeroR, ih (by omega)]
    by_cases e : i < t
    · rw [if_neg (h.full i e), show i + 1 - t = 0 by omega, show i - t = 0 by omega]
    · rw [if_pos (h.zero i (by omega) (by omega)), show i + 1 - t = (i - t) + 1 by omega, upto_succ, show t + (i - t) = i by omega]
theorem Stair.nzN {R C t : Nat} {l : List Int} (h : Stair R C t l) (i : Nat) (hi : i ≤ R) : Proofs.Ythajmffhgbenpaa.nzN C l i = min i t := by
  induction i with
  | zero => simp [Proofs.Ythajmffhgbenpaa.nzN]
  | succ i ih =>
    rw [Proofs.Ythajmffhgbenpaa.nzN]
    by_cases e : i < t
    · rw [if_neg (h.full i e)]; omega
    · rw [if_pos (h.zero i (by omega) (by omega)), ih (by omega)]; omega
/-- the rows from t on, one behind the other -/
theorem flat_upto {R C t : Nat} {l : List Int} (hl : l.length = R * C) (n : Nat) (h : t + n ≤ R) (k : Nat) (hk : k ≤ n) : flatF (takeF C l (upto t n) n) k = (l.drop (t * C)).take (k * C) := by
  induction k with
  | zero => simp [flatF]
  | succ k ih =>
    have e : (takeF C l (upto t n) n).getD k [] = rowL C l (t + k) := by
      have key : ∀ m, k < m → (takeF C l (upto t n) m).getD k [] = rowL C l (nth (upto t n) k).toNat := by
        intro m hm
        induction m with
        | zero => omega
        | succ m ihm =>
          rw [takeF]
          by_cases e : k = m
          · subst e
            simp only [List.getD_eq_getElem?_getD]
            rw [List.getElem?_append_right (by rw [takeF_length]; exact Nat.le_refl _), takeF_length, Nat.sub_self]; rfl
          · have := ihm (by omega)
            simp only [List.getD_eq_getElem?_getD] at this ⊢
            rw [List.getElem?_append_left (by rw [takeF_length]; omega)]; exact this
      rw [key n (by omega), upto_nth (by omega), Int.toNat_natCast]
    rw [flatF, ih (by omega), e]
    refine nth_ext ?_ fun i hi => ?_
    · have h1 : (t + (k + 1)) * C ≤ R * C := Nat.mul_le_mul_right C (by omega)
      rw [Nat.add_mul] at h1
      rw [List.length_append, rowL_length (by rw [hl]; exact Nat.mul_le_mul_right C (by omega)), List.length_take, List.length_take, List.length_drop, hl]
      rw [Nat.add_mul, Nat.one_mul] at h1 ⊢
      omega
    · have h1 : (t + (k + 1)) * C ≤ R * C := Nat.mul_le_mul_right C (by omega)
      rw [Nat.add_mul, Nat.add_mul, Nat.one_mul] at h1
      have hlen : ((l.drop (t * C)).take (k * C)).length = k * C := by rw [List.length_take, List.length_drop, hl]; omega
      have htk : ∀ j m, j < m → nth ((l.drop (t * C)).take m) j = nth l (t * C + j) := by
        intro j m hj
        unfold nth
        simp only [List.getD_eq_getElem?_getD, List.getElem?_take, if_pos hj, List.getElem?_drop]
      have hi' : i < k * C + C := by
        rw [List.length_append, hlen, rowL_length (by rw [hl]; exact Nat.mul_le_mul_right C (by omega))] at hi
        exact hi
      rw [htk i _ (by rw [Nat.add_mul, Nat.one_mul]; exact hi')]
      by_cases e2 : i < k * C
      · rw [nth_append_left _ _ _ (by rw [hlen]; exact e2), htk i _ e2]
      · rw [nth_append_right _ _ _ (by rw [hlen]; omega), hlen, rowL_nth (by omega), Nat.add_mul]
        congr 1; omega

/-- the rows of the Hermite form that are not zeros -/
def rankN (x : MX × MX) : Nat := nzN x.1.c.toNat x.1.l x.1.r.toNat
def basO (a : MX) : Option MX := (hermO a).map fun x => ⟨(rankN x : Nat), a.c, x.1.l.take (rankN x * a.c.toNat)⟩
def kerO (a : MX) : Option MX := (hermO a).bind fun x => basO ⟨((a.r.toNat - rankN x : Nat) : Int), a.r, x.2.l.drop (rankN x * a.r.toNat)⟩
/-- what is known where there is a Hermite form -/
theorem hermO_some {R C : Nat} {l : List Int} (h : isMat R C l = true) {x : MX × MX} (hx : hermO ⟨R, C, l⟩ = some x) :
    ∃ (T : Nat) (a u : List Int), x = (⟨R, C, a⟩, ⟨R, R, u⟩) ∧ Ok2 R C (a, u) ∧ Stair R C T a ∧ rankN x = T := by
  rw [hermO_nat h] at hx
  obtain ⟨⟨T, a, u⟩, h1, h2⟩ := Option.map_eq_some_iff.1 hx
  have H := hermF_HI (ok2_start h) (Nat.le_refl C) h1
  refine ⟨T, a, u, h2.symm, H.ok, H.stair, ?_⟩
  rw [← h2]
  show nzN (C : Int).toNat a (R : Int).toNat = T
  rw [Int.toNat_natCast, Int.toNat_natCast, H.stair.nzN R (Nat.le_refl _)]
  have := H.stair.tR
  simp only at this ⊢
  omega
theorem basO_ok {a m : MX} (h : basO a = some m) : m.ok = true := by
  unfold basO at h
  obtain ⟨x, h1, h2⟩ := Option.map_eq_some_iff.1 h
  cases hm : a.ok
  · rw [hermO_no hm] at h1; cases h1
  · obtain ⟨R, C, e1, e2, hR, hC, hl, hn⟩ := isMat_ok hm
    obtain ⟨r, c, l⟩ := a
    simp only at e1 e2
    subst e1 e2
    obtain ⟨T, b, u, rfl, ok, st, hT⟩ := hermO_some hm h1
    rw [hT] at h2
    rw [← h2]
    show isMat T C _ = true
    have h3 : T * C ≤ R * C := Nat.mul_le_mul_right C st.tR
    rw [isMat_made (Nat.le_trans st.tR hR) hC (by rw [Int.toNat_natCast, List.length_take, ok.l1]; omega)]
    rw [allNum_iff]
    intro i hi
    have hb : b.length = R * C := ok.l1
    change i < (b.take (T * (C : Int).toNat)).length at hi
    rw [Int.toNat_natCast, List.length_take] at hi
    rw [Int.toNat_natCast]
    have := (allNum_iff _).1 ok.n1 i (by show i < b.length; omega)
    have e : nth (List.take (T * C) b) i = nth b i := by
      unfold nth; simp only [List.getD_eq_getElem?_getD, List.getElem?_take, if_pos (show i < T * C by omega)]
    rw [e]; exact this
theorem kerO_ok {a m : MX} (h : kerO a = some m) : m.ok = true := by
  unfold kerO at h
  obtain ⟨x, _, h2⟩ := Option.bind_eq_some_iff.1 h
  exact basO_ok h2

theorem mat2_some {r1 c1 r2 c2 : Int} {l1 l2 : List Int} {w w' : World} {e : Ending} (h : Mat2Ret (some (⟨r1, c1, l1⟩, ⟨r2, c2, l2⟩)) w e w') :
    ∃ A1 k1 A2 k2, e = .returned (.tuple #[.agg #[.int .i64 r1, .int .i64 c1, .slice A1 l1.length k1], .agg #[.int .i64 r2, .int .i64 c2, .slice A2 l2.length k2], .bool true]) ∧ Own w' w.heap.size (.slice A1 l1.length k1) l1 ∧ Own w' w.heap.size (.slice A2 l2.length k2) l2 ∧ (∀ g, (Value.slice A1 l1.length k1).ownBlock = some g → (Value.slice A2 l2.length k2).ownBlock ≠ some g) ∧ Grows w w' := by
  obtain ⟨v1, v2, rfl, o1, o2, hne, g⟩ := mat2_out h
  obtain ⟨A1, k1, rfl, _, _⟩ := o1.val
  obtain ⟨A2, k2, rfl, _, _⟩ := o2.val
  exact ⟨A1, k1, A2, k2, rfl, o1, o2, hne, g⟩
theorem mat2_none {w w' : World} {e : Ending} (h : Mat2Ret none w e w') :
    ∃ A1 k1 A2 k2, e = .returned (.tuple #[.agg #[.int .i64 0, .int .i64 0, .slice A1 0 k1], .agg #[.int .i64 0, .int .i64 0, .slice A2 0 k2], .bool false]) ∧ Grows w w' := by
  obtain ⟨v1, v2, rfl, o1, o2, hne, g⟩ := mat2_out h
  obtain ⟨A1, k1, rfl, _, _⟩ := o1.val
  obtain ⟨A2, k2, rfl, _, _⟩ := o2.val
  exact ⟨A1, k1, A2, k2, rfl, g⟩
theorem matRet_some {r c : Int} {l : List Int} {w w' : World} {e : Ending} (h : MatRet (some ⟨r, c, l⟩) w e w') :
    ∃ A k, e = .returned (.tuple #[.agg #[.int .i64 r, .int .i64 c, .slice A l.length k], .bool true]) ∧ Own w' w.heap.size (.slice A l.length k) l ∧ Grows w w' := by
  obtain ⟨v1, rfl, o1, g⟩ := matRet_out h
  obtain ⟨A1, k1, rfl, _, _⟩ := o1.val
  exact ⟨A1, k1, rfl, o1, g⟩
theorem matRet_none {w w' : World} {e : Ending} (h : MatRet none w e w') :
    ∃ A k, e = .returned (.tuple #[.agg #[.int .i64 0, .int .i64 0, .slice A 0 k], .bool false]) ∧ Grows w w' := by
  obtain ⟨v1, rfl, o1, g⟩ := matRet_out h
  obtain ⟨A1, k1, rfl, _, _⟩ := o1.val
  exact ⟨A1, k1, rfl, g⟩
theorem MBox.c012 {w : World} {b : Nat} {r c : Int} {v : Value} (h : MBox w b r c v) : w.cell? ⟨b, 0, none⟩ = some (.int .i64 r) ∧ w.cell? ⟨b, 1, none⟩ = some (.int .i64 c) ∧ w.cell? ⟨b, 2, none⟩ = some v := h.cells
section
set_option maxHeartbeats 2000000
theorem sBas_c (r c : Int) (A : Option Addr) (l : List Int) (n cap : Nat) (w : World) (hn : l.length = n) (ha : Rd w A l) (hl : n ≤ 1099511627776) :
    Calls Try.prog 23 #[.agg #[.int .i64 r, .int .i64 c, .slice A n cap]] w (MatRet (basO ⟨r, c, l⟩) w) := by
  have HH := Lib.hid fun w h => sHerm_c r c A l n cap w hn h hl
  obtain ⟨w1, hw1, mg, mr, hs1, g01⟩ := one_mat w r c (.slice A n cap)
  have HW1 := Lib.hid hw1
  have HS1 := Lib.hid hs1
  have ha1 : Rd w1 A l := ha.grows g01
  clear hw1 hs1 hn
  obtain ⟨RES, hRES⟩ : ∃ x, x = basO ⟨r, c, l⟩ := ⟨_, rfl⟩
  rw [← hRES]
  unfold basO at hRES
  cases hh : hermO ⟨r, c, l⟩ with
  | none =>
    rw [hh] at hRES
    obtain rfl : RES = none := hRES
    rw [hh] at HH
    clear hh
    go_enter Try.func23, Try.ntmps23
    go_wp2_with fail
    rw [← HW1.out]
    refine (HH.out _ ha1).mono ?_; rintro e w2 hop; obtain ⟨A1, k1, A2, k2, rfl, g2⟩ := mat2_none hop; clear hop
    have hz1 := (mg.grows g2).lt
    have hz2 : ¬ w.heap.size = w2.heap.size := by omega
    have hz3 : ¬ w.heap.size + 1 = w2.heap.size := by have := (mr.grows (w' := w2) (by exact bel1 g2)).lt; omega
    (have zr := MBox.grows mr (w' := w2) (by exact bel1 g2); obtain ⟨zr0, zr1, zr2⟩ := zr.cells; have zrf := zr.fz; have zrl := zr.lt; go_wp2_with fail; refine bodyPost_ret (v := .tuple #[.agg #[.int .i64 0, .int .i64 0, .slice none 0 0], .bool false]) ?_ rfl ?_; (simp [results, Try.results23, go_sem, zr0, zr1, zr2, zrf, zrl, hz1, hz2, hz3]); exact ⟨_, rfl, Own.nil _ _, by exact bel2 g2 g01⟩)
  | some x =>
    have hm : isMat r c l = true := by
      cases e : isMat r c l
      · rw [hermO_no (a := ⟨r, c, l⟩) e] at hh; cases hh
      · rfl
    obtain ⟨R, C, rfl, rfl, hR, hC, hlen, hnum⟩ := isMat_nat hm
    obtain ⟨T, a, u, rfl, ok, st, hT⟩ := hermO_some hm hh
    rw [hh] at HH hRES
    simp only [Option.map_some, hT, Int.toNat_natCast] at hRES
    have HR := Lib.hid hRES
    have hal : a.length = R * C := ok.l1
    have hRC : R * C ≤ 576 := Nat.mul_le_mul hR hC
    have htR := st.tR
    have CN := fun W A cp h => l12Rows_c R C A a (R * C) cp W hal rfl hR hC h
    have HT := Lib.hid (show nzN C a R = T by rw [st.nzN R (Nat.le_refl _)]; omega)
    have hTC : T * C ≤ R * C := Nat.mul_le_mul_right C htR
    have t1 := castMul T C
    have t2 : (T : Int) * (C : Int) ≤ ((R * C : Nat) : Int) := castMulLe hTC
    have t3 : ((T : Int) * (C : Int)).toNat = T * C := by rw [← Int.natCast_mul, Int.toNat_natCast]
    rw [HT.out] at CN
    have CN' := Lib.hid CN
    have HAL := Lib.hid hal
    have HTC := Lib.hid hTC
    clear hh hm hRES hlen hnum ok st CN hal hT
    go_enter Try.func23, Try.ntmps23
    go_wp2_with fail
    rw [← HW1.out]
    refine (HH.out _ ha1).mono ?_; rintro e w2 hop; obtain ⟨A1, k1, A2, k2, rfl, o1, o2, hne, g2⟩ := mat2_some hop; clear hop
    rw [HAL.out] at o1 ⊢
    have hcp := (o1.caps).2.1
    have hz1 := (mg.grows g2).lt
    have hz3 := (mr.grows g2).lt
    have hz2 : ¬ w.heap.size = w2.heap.size := by omega
    have mr2 := mr.grows g2
    obtain ⟨w3, hw3⟩ : ∃ w3, w3 = (w2.alloc (.cells #[.int .i64 R, .int .i64 C, .slice A1 (R * C) k1] 26)).alloc (.cells #[.int .i64 R, .int .i64 R, .slice A2 u.length k2] 26) := ⟨_, rfl⟩
    have mh : MBox w3 w2.heap.size R C (.slice A1 (R * C) k1) := by rw [hw3]; exact (MBox.mk_ _ _ _ _ _).alloc _
    have g23 : Grows w2 w3 := by rw [hw3]; exact bel0
    have HW3 := Lib.hid hw3
    have hr1 := o1.rd'
    clear hw3
    go_wp2_with fail
    rw [← HW3.out]
    refine (CN'.out _ _ _ (by exact (Rd.grows hr1 (by exact bel1 g23)))).mono ?_; rintro e w4 ⟨rfl, g4⟩
    have g24 : Grows w2 w4 := by exact bel2 g4 g23
    have mh4 := mh.grows g4
    have mr4 := mr2.grows g24
    have hr4 := (hr1.grows g24).take_ (T * C)
    have hs4 := mr4.lt
    have hlen4 : (a.take (T * C)).length = T * C := by rw [List.length_take, HAL.out]; have := HTC.out; omega
    have HL4 := Lib.hid hlen4
    have hTC2 := HTC.out
    have hwr : IntKind.i64.wrap ((T : Int) * (C : Int)) = (T : Int) * (C : Int) := IntWalk.i64_in _ (by omega)
    have t5 : (T : Int) * (C : Int) ≤ (k1 : Int) := by omega
    have hnew : Own (w4.alloc (.cells #[] 3)).drew w4.heap.size (.slice (some ⟨w4.heap.size, 0, none⟩) 0 0) [] := (Own.new_ w4 rfl (Nat.le_refl _)).drew
    clear hlen4
    go_wp2_with fail
    (refine wp_region_heldL (fun W => W.cell? ⟨w2.heap.size, 0, none⟩ = some (.int .i64 R) ∧ W.cell? ⟨w2.heap.size, 1, none⟩ = some (.int .i64 C) ∧ W.cell? ⟨w2.heap.size, 2, none⟩ = some (.slice A1 (R * C) k1)) (by kernel_rfl) (by ((try dsimp only); (first | exact (MBox.cells mh7) | ((have _tt := mh7); refine MBox.cells (v := .slice A1 (R * C) k1) ?_; ((repeat' (first | with_reducible exact mh7 | with_reducible refine MBox.alloc ?_ _ | with_reducible refine MBox.drew_ ?_ | with_reducible refine MBox.far ?_ ?_ _)); all_goals (first | omega | (simp; done) | (simp; omega)))) | exact (mh4.grows (by exact bel0)).cells))) (fun hHeld => ?_); refine heldL_take (i := 0) (v := _) (by rfl) (by kernel_rfl) (by kernel_rfl) (by kernel_rfl) (fun _ _ _ h => h) (Or.inl ⟨by rfl, fun wS hSw => by ((try dsimp only at hSw); go_simp; (try with_reducible rfl))⟩) (by assumption) ?_; simp only [Act.put, List.setIfInBounds_toArray, List.set_cons_zero, List.set_cons_succ]; refine heldL_take (i := 1) (v := _) (by rfl) (by kernel_rfl) (by kernel_rfl) (by kernel_rfl) (fun _ _ _ h => h) (Or.inl ⟨by rfl, fun wS hSw => by ((try dsimp only at hSw); go_simp; (try with_reducible rfl))⟩) (by assumption) ?_; simp only [Act.put, List.setIfInBounds_toArray, List.set_cons_zero, List.set_cons_succ]; refine heldL_take (i := 2) (v := _) (by rfl) (by kernel_rfl) (by kernel_rfl) (by kernel_rfl) (fun _ _ _ h => h) (Or.inl ⟨by rfl, fun wS hSw => by ((try dsimp only at hSw); go_simp; (try with_reducible rfl))⟩) (by assumption) ?_; simp only [Act.put, List.setIfInBounds_toArray, List.set_cons_zero, List.set_cons_succ]; refine heldL_take (i := 4) (v := _) (by rfl) (by kernel_rfl) (by kernel_rfl) (by kernel_rfl) (fun _ _ _ h => h) (Or.inl ⟨by rfl, fun wS hSw => by ((try dsimp only at hSw); go_simp; (try with_reducible rfl))⟩) (by assumption) ?_; simp only [Act.put, List.setIfInBounds_toArray, List.set_cons_zero, List.set_cons_succ]; refine heldL_take (i := 5) (v := _) (by rfl) (by kernel_rfl) (by kernel_rfl) (by kernel_rfl) (fun _ _ _ h => h) (Or.inl ⟨by rfl, fun wS hSw => by ((try dsimp only at hSw); go_simp; (try with_reducible rfl))⟩) (by assumption) ?_; simp only [Act.put, List.setIfInBounds_toArray, List.set_cons_zero, List.set_cons_succ]; refine heldL_take (i := 6) (v := _) (by rfl) (by kernel_rfl) (by kernel_rfl) (by kernel_rfl) (fun _ _ _ h => h) (Or.inl ⟨by rfl, fun wS hSw => by ((try dsimp only at hSw); go_simp; (try with_reducible rfl))⟩) (by assumption) ?_; simp only [Act.put, List.setIfInBounds_toArray, List.set_cons_zero, List.set_cons_succ]; refine heldL_take (i := 7) (v := _) (by rfl) (by kernel_rfl) (by kernel_rfl) (by kernel_rfl) (fun _ _ _ h => h) (Or.inl ⟨by rfl, fun wS hSw => by ((try dsimp only at hSw); go_simp; (try with_reducible rfl))⟩) (by assumption) ?_; simp only [Act.put, List.setIfInBounds_toArray, List.set_cons_zero, List.set_cons_succ]; refine heldL_take (i := 8) (v := _) (by rfl) (by kernel_rfl) (by kernel_rfl) (by kernel_rfl) (fun _ _ _ h => h) (Or.inl ⟨by rfl, fun wS hSw => by ((try dsimp only at hSw); go_simp; (try with_reducible rfl))⟩) (by assumption) ?_; simp only [Act.put, List.setIfInBounds_toArray, List.set_cons_zero, List.set_cons_succ]; refine heldL_take (i := 9) (v := _) (by rfl) (by kernel_rfl) (by kernel_rfl) (by kernel_rfl) (fun _ _ _ h => h) (Or.inl ⟨by rfl, fun wS hSw => by ((try dsimp only at hSw); go_simp; (try with_reducible rfl))⟩) (by assumption) ?_; simp only [Act.put, List.setIfInBounds_toArray, List.set_cons_zero, List.set_cons_succ]; refine heldL_take (i := 10) (v := _) (by rfl) (by kernel_rfl) (by kernel_rfl) (by kernel_rfl) (fun _ _ _ h => h) (Or.inl ⟨by rfl, fun wS hSw => by ((try dsimp only at hSw); go_simp; (try with_reducible rfl))⟩) (by assumption) ?_; simp only [Act.put, List.setIfInBounds_toArray, List.set_cons_zero, List.set_cons_succ]; refine heldL_step (i := 3) (by kernel_rfl) (by rfl) (fun K hK => ?_); go_simp; refine hK.out _ _ (by ((try dsimp only); (first | exact (MBox.cells mh7) | ((have _tt := mh7); refine MBox.cells (v := .slice A1 (R * C) k1) ?_; ((repeat' (first | with_reducible exact mh7 | with_reducible refine MBox.alloc ?_ _ | with_reducible refine MBox.drew_ ?_ | with_reducible refine MBox.far ?_ ?_ _)); all_goals (first | omega | (simp; done) | (simp; omega)))) | exact (mh4.grows (by exact bel0)).cells))) (fun hHeld => ?_); clear hK K; (try simp only [Act.put, List.setIfInBounds_toArray, List.set_cons_zero, List.set_cons_succ]); refine heldL_step (i := 11) (by kernel_rfl) (by rfl) (fun K hK => ?_); (refine step_app rfl (.tmp 22) (.tmp 29) rfl _ w4.heap.size _ [] (by rfl) hnew A1 (a.take (T * C)) (T * C) k1 (by rfl) HL4.out (by exact (Rd.grows hr4 (by exact bel0))) (by simp; omega) (by simp) ?_; intro v7 w7 ho7 hg7 hv7; have hb7 : Below w4.heap.size w4 w7 := Below.trans (show Grows w4 (w4.alloc (.cells #[] 3)).drew by exact bel0) (below_app hnew (by simp) hg7); rw [List.nil_append] at ho7; obtain ⟨A7, c7, rfl, _, _⟩ := ho7.val; have mh7 := mh4.keep hb7 mh4.lt; have mr7 := mr4.keep hb7 mr4.lt; obtain ⟨r0, r1, r2⟩ := mr7.cells; have rf := mr7.fz; have rl := mr7.lt; have hs7 := hb7.size) ; refine hK.out _ _ (by ((try dsimp only); (first | exact (MBox.cells mh7) | ((have _tt := mh7); refine MBox.cells (v := .slice A1 (R * C) k1) ?_; ((repeat' (first | with_reducible exact mh7 | with_reducible refine MBox.alloc ?_ _ | with_reducible refine MBox.drew_ ?_ | with_reducible refine MBox.far ?_ ?_ _)); all_goals (first | omega | (simp; done) | (simp; omega)))) | exact (mh4.grows (by exact bel0)).cells))) (fun hHeld => ?_); clear hK K; (try simp only [Act.put, List.setIfInBounds_toArray, List.set_cons_zero, List.set_cons_succ]); refine heldL_take (i := 12) (v := _) (by rfl) (by kernel_rfl) (by kernel_rfl) (by kernel_rfl) (fun _ _ _ h => h) (Or.inl ⟨by rfl, fun wS hSw => by ((try dsimp only at hSw); go_simp; (try with_reducible rfl))⟩) (by assumption) ?_; simp only [Act.put, List.setIfInBounds_toArray, List.set_cons_zero, List.set_cons_succ]; refine heldL_step (i := 13) (by kernel_rfl) (by rfl) (fun K hK => ?_); go_simp; refine hK.out _ _ (by ((try dsimp only); (first | exact (MBox.cells mh7) | ((have _tt := mh7); refine MBox.cells (v := .slice A1 (R * C) k1) ?_; ((repeat' (first | with_reducible exact mh7 | with_reducible refine MBox.alloc ?_ _ | with_reducible refine MBox.drew_ ?_ | with_reducible refine MBox.far ?_ ?_ _)); all_goals (first | omega | (simp; done) | (simp; omega)))) | exact (mh4.grows (by exact bel0)).cells))) (fun hHeld => ?_); clear hK K; (try simp only [Act.put, List.setIfInBounds_toArray, List.set_cons_zero, List.set_cons_succ]); refine heldL_take (i := 14) (v := _) (by rfl) (by kernel_rfl) (by kernel_rfl) (by kernel_rfl) (fun _ _ _ h => h) (Or.inl ⟨by rfl, fun wS hSw => by ((try dsimp only at hSw); go_simp; (try with_reducible rfl))⟩) (by assumption) ?_; simp only [Act.put, List.setIfInBounds_toArray, List.set_cons_zero, List.set_cons_succ]; refine wpAnyH_done (by kernel_rfl) ?_ _; refine NoPanic.normal ?_)
    go_wp2_with fail
    obtain rfl : RES = some ⟨T, C, a.take (T * C)⟩ := HR.out
    refine bodyPost_ret (v := .tuple #[.agg #[.int .i64 T, .int .i64 C, .slice A7 (a.take (T * C)).length c7], .bool true]) ?_ rfl ?_
    · simp [results, Try.results23, go_sem, r0, r1, r2, rf, rl]
    · have hs1 := Below.size g01
      have hs2 := Below.size g2
      have hs24 := Below.size g24
      have hf : ∀ g, (Value.slice A7 (a.take (T * C)).length c7).ownBlock = some g → g ≠ w.heap.size + 1 := fun g hg => by have := (World.ownsRow.lt ho7 g hg).1; omega
      have ho9 : Own w7 w.heap.size (.slice A7 (a.take (T * C)).length c7) (oM (some ⟨(T : Int), (C : Int), a.take (T * C)⟩)).l := ho7.less (by omega)
      have gg : Grows w w7 := by exact bel4 hb7 g24 g2 g01
      exact ⟨_, rfl, ((ho9.far (p := ⟨w.heap.size + 1, 0, none⟩) hf _).far (p := ⟨w.heap.size + 1, 1, none⟩) hf _).far (p := ⟨w.heap.size + 1, 2, none⟩) hf _, by exact bel1 gg⟩
end
end Go.Proofs.Ythajmffhgbenpaa
