/- Contracts and lemmas, put together. -/
import Derived.Test.YticmopedbgoflaaPkD
import Derived.Test.YticmopedbgoflaaPkT
import Derived.Test.YticmopedbgoflaaQCong
/- Plain: the vectors whose products with a vector are multiples of a number, and their index. -/
namespace Go.Proofs.Yticmopedbgoflaa
set_option linter.unusedSimpArgs false
set_option linter.unusedVariables false
open Go.RowKit

theorem nat_bez (a b : Nat) : ∃ x y : Int, (Nat.gcd a b : Int) = a * x + b * y := by
  induction a, b using Nat.gcd.induction with
  | H0 b => exact ⟨0, 1, by simp⟩
  | H1 a b ha ih =>
    obtain ⟨x, y, h⟩ := ih
    rw [Nat.gcd_rec]
    refine ⟨y - (b / a : Nat) * x, x, ?_⟩
    rw [h]
    have e : (b : Int) = (a : Int) * (b / a : Nat) + (b % a : Nat) := by exact_mod_cast (Nat.div_add_mod b a).symm
    rw [Int.mul_sub]
    have e2 : (b : Int) * x = (a : Int) * ((b / a : Nat) * x) + (b % a : Nat) * x := by
      conv => lhs; rw [e]
      rw [Int.add_mul, Int.mul_assoc]
    omega
theorem gcd_bez (a b : Int) : ∃ x y : Int, gcdI a b = a * x + b * y := by
  obtain ⟨x, y, h⟩ := nat_bez a.natAbs b.natAbs
  have sg : ∀ c : Int, ∃ s : Int, (c.natAbs : Int) = c * s := fun c => by
    rcases Int.le_total 0 c with h | h
    · exact ⟨1, by omega⟩
    · exact ⟨-1, by omega⟩
  obtain ⟨s, hs⟩ := sg a
  obtain ⟨t, ht⟩ := sg b
  refine ⟨s * x, t * y, ?_⟩
  show ((Nat.gcd a.natAbs b.natAbs : Nat) : Int) = _
  rw [h, hs, ht, Int.mul_assoc, Int.mul_assoc]
/-- the greatest common divisor of a number and the first numbers of a list -/
def gF (n : Int) (v : List Int) : Nat → Int
  | 0 => n
  | i + 1 => gcdI (gF n v i) (nth v i)
theorem gF_pos {n : Int} (hn : 1 ≤ n) (v : List Int) (i : Nat) : 1 ≤ gF n v i ∧ gF n v i ≤ n := by
  induction i with
  | zero => exact ⟨hn, Int.le_refl _⟩
  | succ i ih =>
    rw [gF]
    have h1 : 0 < Int.gcd (gF n v i) (nth v i) := Int.gcd_pos_of_ne_zero_left _ (by omega)
    have h2 : Int.gcd (gF n v i) (nth v i) ≤ (gF n v i).natAbs := Int.gcd_le_natAbs_left _ (by omega)
    unfold gcdI
    omega
theorem gF_dvd (n : Int) (v : List Int) (i : Nat) : gF n v i ∣ n ∧ ∀ j, j < i → gF n v i ∣ nth v j := by
  induction i with
  | zero => exact ⟨Int.dvd_refl _, fun j hj => absurd hj (Nat.not_lt_zero _)⟩
  | succ i ih =>
    rw [gF]
    have h1 : gcdI (gF n v i) (nth v i) ∣ gF n v i := Int.gcd_dvd_left ..
    have h2 : gcdI (gF n v i) (nth v i) ∣ nth v i := Int.gcd_dvd_right ..
    refine ⟨Int.dvd_trans h1 ih.1, fun j hj => ?_⟩
    by_cases e : j = i
    · rw [e]; exact h2
    · exact Int.dvd_trans h1 (ih.2 j (by omega))
theorem gF_bez (n : Int) (v : List Int) (i : Nat) : ∃ (w : Nat → Int) (c : Int), sumN i (fun j => w j * nth v j) = gF n v i - c * n := by
  induction i with
  | zero => exact ⟨fun _ => 0, 1, by simp [sumN, gF]⟩
  | succ i ih =>
    obtain ⟨w, c, h⟩ := ih
    obtain ⟨x, y, e⟩ := gcd_bez (gF n v i) (nth v i)
    refine ⟨fun j => if j = i then y else x * w j, x * c, ?_⟩
    show sumN i (fun j => (if j = i then y else x * w j) * nth v j) + (if i = i then y else x * w i) * nth v i = _
    rw [if_pos rfl]
    have e1 : sumN i (fun j => (if j = i then y else x * w j) * nth v j) = x * sumN i (fun j => w j * nth v j) := by
      rw [← sumN_mul]
      exact sumN_congr fun j hj => by rw [if_neg (by omega), Int.mul_assoc]
    rw [e1, h, gF, e, Int.mul_sub, Int.mul_comm x (gF n v i), Int.mul_comm y, Int.mul_assoc]; omega
theorem sumN_dvd {n : Nat} {d : Int} {f : Nat → Int} (h : ∀ i, i < n → d ∣ f i) : d ∣ sumN n f := by
  induction n with
  | zero => exact ⟨0, by simp [sumN]⟩
  | succ n ih => rw [sumN]; exact Int.dvd_add (ih fun i hi => h i (by omega)) (h n (by omega))
/-- the product with a vector -/
def dotV (v : List Int) (y : Nat → Int) : Int := sumN v.length fun j => y j * nth v j
theorem conO_D {v : List Int} {n : Int} {m : MX} (h : conO v n = some m) :
    1 ≤ n ∧ v.length + 1 ≤ 24 ∧ allNum v = true ∧ isNum n = true ∧ ∃ (T : Nat) (l : List Int), m = ⟨T, v.length, l⟩ ∧ latB T v.length l = true ∧ ∀ y, n ∣ dotV v y ↔ InL T v.length (mt v.length l) y := by
  unfold conO at h
  split at h
  · rename_i hn
    unfold cutO at h
    obtain ⟨k, hk, h2⟩ := Option.bind_eq_some_iff.1 h
    obtain ⟨M, hM⟩ : ∃ M, M = v.length := ⟨_, rfl⟩
    rw [← hM] at hk h2
    have hok : isMat ((M + 1 : Nat) : Int) ((1 : Nat) : Int) (v ++ [n]) = true := by
      cases e : isMat ((M + 1 : Nat) : Int) ((1 : Nat) : Int) (v ++ [n])
      · have : hermO ⟨((M + 1 : Nat) : Int), 1, v ++ [n]⟩ = none := hermO_no e
        unfold kerO at hk
        rw [this] at hk; cases hk
      · rfl
    obtain ⟨R1, C1, e1, e2, hR, hC, hlen, hnum⟩ := isMat_nat hok
    have hnum' := (allNum_iff _).2 hnum
    have hk' : kerO ⟨((M + 1 : Nat) : Int), ((1 : Nat) : Int), v ++ [n]⟩ = some k := hk
    obtain ⟨T0, a, u, p, _, hTR, _, HD, _, B, hker⟩ := kerO_D hok hk'
    obtain ⟨r, c, kl⟩ := k
    have er : r = ((M + 1 - T0 : Nat) : Int) := B.r
    have ec : c = ((M + 1 : Nat) : Int) := B.c
    have hkl : kl.length = (M + 1 - T0) * (M + 1) := B.len
    subst er ec
    simp only [Int.toNat_natCast] at h2
    have hkn : allNum kl = true := by
      obtain ⟨hm1, _⟩ := latB_parts B.lat
      obtain ⟨_, _, _, _, _, _, _, hn⟩ := isMat_nat hm1
      exact (allNum_iff kl).2 hn
    have hfm : isMat ((M + 1 - T0 : Nat) : Int) (M : Int) (fcL (M + 1 - T0) (M + 1) M kl) = true := by
      rw [isMat_made (by omega) (by omega) (fcL_length _ _ _ _)]; exact fcL_num hkn
    obtain ⟨T, hT, BB⟩ := basO_D hfm h2
    have hcells : ∀ i j, i < M + 1 - T0 → j < M → mt M (fcL (M + 1 - T0) (M + 1) M kl) i j = mt (M + 1) kl i j := fun i j hi hj => by
      unfold mt fcL; rw [tab_nth _ hi hj]
    have hnv : allNum v = true := (allNum_iff v).2 fun i hi => by
      have := hnum i (by rw [List.length_append]; omega)
      rwa [nth_append_left _ _ _ hi] at this
    have hnn : isNum n = true := by
      have := hnum v.length (by rw [List.length_append]; simp)
      rw [nth_append_right _ _ _ (Nat.le_refl _), Nat.sub_self] at this
      exact this
    obtain ⟨r, c, l⟩ := m
    have er : r = (T : Int) := BB.r
    have ec : c = (M : Int) := BB.c
    subst er ec
    refine ⟨hn, by omega, hnv, hnn, T, l, by rw [← hM], by rw [← hM]; exact BB.lat, fun y => ?_⟩
    rw [← hM]
    -- the product of a vector of the kernel's length
    have prod : ∀ x : Nat → Int, lc (M + 1) (mt 1 (v ++ [n])) x 0 = dotV v x + x M * n := fun x => by
      unfold lc dotV
      rw [sumN, hM]
      have e1 : mt 1 (v ++ [n]) v.length 0 = n := by
        unfold mt
        rw [nth_append_right _ _ _ (by omega), show v.length * 1 + 0 - v.length = 0 by omega]; rfl
      rw [e1]
      congr 1
      refine sumN_congr fun i hi => ?_
      unfold mt
      rw [nth_append_left _ _ _ (by omega), show i * 1 + 0 = i by omega]
    rw [← BB.same y]
    constructor
    · rintro ⟨q, hq⟩
      -- extend y by -q
      have hx : ∀ j, j < 1 → lc (M + 1) (mt 1 (v ++ [n])) (fun i => if i = M then -q else y i) j = 0 := fun j hj => by
        obtain rfl : j = 0 := by omega
        rw [prod, if_pos rfl]
        have : dotV v (fun i => if i = M then -q else y i) = dotV v y := sumN_congr fun i hi => by show (if i = M then -q else y i) * _ = _; rw [if_neg (by omega)]
        rw [this, hq, Int.neg_mul, Int.mul_comm]; omega
      obtain ⟨z, hz⟩ := (hker _).1 hx
      refine ⟨z, fun j hj => ?_⟩
      have e5 : (if j = M then -q else y j) = lc (M + 1 - T0) (mt (M + 1) kl) z j := hz j (by omega)
      rw [if_neg (by omega)] at e5
      rw [e5]
      exact lc_congr fun i hi => by rw [hcells i j hi hj]
    · rintro ⟨z, hz⟩
      have hx := (hker (fun j => lc (M + 1 - T0) (mt (M + 1) kl) z j)).2 ⟨z, fun j _ => rfl⟩ 0 (by omega)
      rw [prod] at hx
      have : dotV v (fun j => lc (M + 1 - T0) (mt (M + 1) kl) z j) = dotV v y := sumN_congr fun i hi => by
        rw [hz i (by omega)]
        congr 1
        exact lc_congr fun k hk => by rw [hcells k i hk (by omega)]
      rw [this] at hx
      exact ⟨-(lc (M + 1 - T0) (mt (M + 1) kl) z M), by rw [Int.mul_neg, Int.mul_comm]; omega⟩
  · cases h
theorem mt_idL {R : Nat} (y : Nat → Int) {j : Nat} (hj : j < R) : lc R (mt R (idL R)) y j = y j := by
  unfold lc
  rw [← sumN_one hj y]
  exact sumN_congr fun i hi => by rw [idL_cell hi hj, Int.mul_comm]
theorem Her.one1 {d : Int} (hd : 0 < d) : Her 1 1 (fun _ _ => d) (fun _ => 0) :=
  ⟨fun _ _ => by omega, fun i k h1 h2 => by omega, fun _ _ => hd, fun i j _ h => by omega, fun k i h1 h2 => by omega⟩
theorem con_index {v : List Int} {n k : Int} {m : MX} (h : conO v n = some m) (hk : idxO ⟨v.length, v.length, idL v.length⟩ m = some k) : k = n.tdiv (gF n v v.length) := by
  obtain ⟨hn, hM, hnv, hnn, T, l, rfl, hl, hL⟩ := conO_D h
  obtain ⟨rfl, _, _, _, hh, p, H, hH, rfl⟩ := idxO_D hk
  obtain ⟨M, hM'⟩ : ∃ M, M = v.length := ⟨_, rfl⟩
  have hg := gF_pos hn v v.length
  obtain ⟨hgn, hgv⟩ := gF_dvd n v v.length
  obtain ⟨w, c, hw⟩ := gF_bez n v v.length
  obtain ⟨d, hd⟩ := hgn
  generalize gF n v v.length = g at *
  have hd0 : 0 < d := by
    rcases Int.lt_or_le 0 d with h | h
    · exact h
    · have h3 : g * d ≤ g * 0 := Int.mul_le_mul_of_nonneg_left h (by omega)
      omega
  have inH : ∀ y, InL v.length v.length (mt v.length hh) y ↔ n ∣ dotV v y := fun y => by
    rw [hH y]
    have e1 : InL v.length v.length (mt v.length l) (fun j => lc v.length (mt v.length (idL v.length)) y j) ↔ InL v.length v.length (mt v.length l) y := ⟨fun h => h.congr fun j hj => (mt_idL y hj).symm, fun h => h.congr fun j hj => mt_idL y hj⟩
    rw [e1, hL y]
  have dsub : ∀ x y : Nat → Int, dotV v (fun j => x j - y j) = dotV v x - dotV v y := fun x y => by
    unfold dotV
    have : sumN v.length (fun j => (x j - y j) * nth v j) = sumN v.length (fun j => x j * nth v j + -(y j * nth v j)) := sumN_congr fun j _ => by rw [Int.sub_mul]; omega
    rw [this, sumN_add, sumN_neg]; omega
  have gd : ∀ y : Nat → Int, g ∣ dotV v y := fun y => sumN_dvd fun j hj => by
    obtain ⟨q, hq⟩ := hgv j hj
    exact ⟨y j * q, by rw [hq]; rw [← Int.mul_assoc, Int.mul_comm (y j) g, Int.mul_assoc]⟩
  have D1 := Her.one1 hd0
  have le1 := index_le H D1 (fun y _ => dotV v y / g) fun x y hxy => by
    rw [inH, dsub]
    obtain ⟨t, ht⟩ := hxy
    have e := ht 0 (by omega)
    have e2 : lc 1 (fun _ _ => d) t 0 = t 0 * d := by unfold lc; simp [sumN]
    rw [e2] at e
    obtain ⟨a, ha⟩ := gd x
    obtain ⟨b, hb⟩ := gd y
    have e3 : dotV v x / g - dotV v y / g = t 0 * d := e
    rw [ha, hb, Int.mul_ediv_cancel_left _ (by omega), Int.mul_ediv_cancel_left _ (by omega)] at e3
    refine ⟨t 0, ?_⟩
    rw [ha, hb, hd, ← Int.mul_sub, e3, Int.mul_comm (t 0) d, Int.mul_assoc]
  have le2 := index_le D1 H (fun y j => y 0 * w j) fun x y hxy => by
    rw [inH] at hxy
    have e1 : dotV v (fun j => x 0 * w j - y 0 * w j) = (x 0 - y 0) * (g - c * n) := by
      rw [← hw, ← sumN_mul]
      exact sumN_congr fun j _ => by show (x 0 * w j - y 0 * w j) * _ = _; rw [← Int.sub_mul, Int.mul_assoc]
    rw [e1] at hxy
    obtain ⟨q, hq⟩ := hxy
    -- n ∣ (x0 - y0) * g
    have e2 : (x 0 - y 0) * g = n * (q + (x 0 - y 0) * c) := by
      rw [Int.mul_sub] at hq
      have : (x 0 - y 0) * (c * n) = n * ((x 0 - y 0) * c) := by rw [← Int.mul_assoc, Int.mul_comm]
      rw [Int.mul_add]; omega
    have e3 : x 0 - y 0 = (q + (x 0 - y 0) * c) * d := by
      have e4 : g * (x 0 - y 0) = g * ((q + (x 0 - y 0) * c) * d) := by
        rw [Int.mul_comm, e2]
        generalize q + (x 0 - y 0) * c = z
        rw [hd, Int.mul_comm z d, Int.mul_assoc]
      exact Int.eq_of_mul_eq_mul_left (by omega) e4
    exact ⟨fun _ => q + (x 0 - y 0) * c, fun j hj => by
      obtain rfl : j = 0 := by omega
      show x 0 - y 0 = _
      unfold lc
      simp only [sumN]; omega⟩
  have e1 : prodN 1 (fun _ => d.toNat) = d.toNat := by simp [prodN]
  rw [e1] at le1 le2
  have e2 : n.tdiv g = d := by rw [hd, Int.mul_comm]; exact Int.mul_tdiv_cancel _ (by omega)
  rw [e2]
  omega
/-- the products of its rows -/
theorem con_prod {v : List Int} {n : Int} {m p : MX} (h : conO v n = some m) (hp : mulO m ⟨v.length, 1, v⟩ = some p) : ∀ i, i < p.l.length → (nth p.l i).tmod n = 0 := by
  obtain ⟨hn, hM, hnv, hnn, T, l, rfl, hl, hL⟩ := conO_D h
  unfold mulO at hp
  split at hp
  · cases hp
    intro i hi
    simp only [Int.toNat_natCast] at hi ⊢
    change i < (mulL T v.length (1 : Int).toNat l v).length at hi
    rw [mulL_length] at hi
    have hiT : i < T := by simpa using hi
    have e1 : nth (mulL T v.length (1 : Int).toNat l v) i = dotTo l v v.length 1 i 0 v.length := by
      have : i = i * 1 + 0 := by omega
      conv => lhs; rw [this]
      unfold mulL
      exact tab_nth (R := T) (C := 1) _ hiT (by omega)
    have e2 : ∀ t, dotTo l v v.length 1 i 0 t = sumN t (fun j => mt v.length l i j * nth v j) := fun t => by
      induction t with
      | zero => rfl
      | succ t ih => rw [dotTo, ih, sumN, show t * 1 + 0 = t by omega]; rfl
    show (nth (mulL T v.length (1 : Int).toNat l v) i).tmod n = 0
    rw [e1, e2]
    have := (hL (mt v.length l i)).2 (InL.row hiT)
    obtain ⟨q, hq⟩ := this
    have hq' : sumN v.length (fun j => mt v.length l i j * nth v j) = n * q := hq
    rw [hq', Int.mul_tmod_right]
  · cases hp
end Go.Proofs.Yticmopedbgoflaa
