/- Contracts and lemmas, put together. -/
import Derived.Deep.DeepCutAuto
import Derived.Test.YticmopedbgoflaaPkA
import Derived.Test.YticmopedbgoflaaPkD
/- Contracts: fractions rounded down and to the nearest number, the diagonal of a matrix. -/
namespace Go.Proofs.Yticmopedbgoflaa
set_option linter.unusedSimpArgs false
set_option linter.unusedVariables false
open Go.RowKit

section
set_option maxHeartbeats 2000000
theorem iFloorQ_c (q : Q2) (w : World) : Calls Try.prog 132 #[.agg #[.int .i64 q.1, .int .i64 q.2]] w fun e w' => e = .returned (.int .i64 (floorQ q)) ∧ Grows w w' := by
  have CI := fun W => iIsRatio_c q.1 q.2 W
  change ∀ W, Calls Try.prog 180 #[.agg #[.int .i64 q.1, .int .i64 q.2]] W (fun e w' => e = .returned (.bool (okQ q)) ∧ Grows W w') at CI
  obtain ⟨w1, hw1⟩ : ∃ w1, w1 = w.alloc (.cells #[.int .i64 q.1, .int .i64 q.2] 102) := ⟨_, rfl⟩
  have mq : QBox w1 w.heap.size q := by rw [hw1]; exact QBox.new_ _ _ _ rfl
  have HG : Grows w w1 := by rw [hw1]; exact bel0
  have HW1 := Lib.hid hw1
  obtain ⟨RES, hRES⟩ : ∃ x, x = floorQ q := ⟨_, rfl⟩
  rw [← hRES]
  unfold floorQ at hRES
  cases hok : okQ q
  · rw [hok] at CI hRES
    have CI' := Lib.hid CI
    have HR := Lib.hid hRES
    clear CI hok hRES hw1
    go_enter Try.func132, Try.ntmps132
    go_wp2_with fail
    rw [← HW1.out]
    refine (CI'.out _).mono ?_; rintro e w2 ⟨rfl, g2⟩
    go_wp2_with fail
    go_ret
    exact ⟨by rw [HR.out]; rfl, by exact bel2 g2 HG⟩
  · have hb := okQ_bd hok
    rw [hok] at CI hRES
    have CI' := Lib.hid CI
    have HR := Lib.hid hRES
    have CD := Lib.hid fun W => floorDiv_c q.1 q.2 W (by omega) (by omega) (by omega) (by omega)
    clear CI hok hRES hw1
    go_enter Try.func132, Try.ntmps132
    go_wp2_with fail
    rw [← HW1.out]
    refine (CI'.out _).mono ?_; rintro e w2 ⟨rfl, g2⟩
    obtain ⟨q0, q1⟩ := (mq.grows g2).cells
    go_wp2_with fail
    refine (CD.out _).mono ?_; rintro e w3 ⟨rfl, rfl⟩
    go_wp2_with fail
    go_ret
    exact ⟨by rw [HR.out]; rfl, by exact bel2 g2 HG⟩
theorem iRoundQ_c (q : Q2) (w : World) : Calls Try.prog 141 #[.agg #[.int .i64 q.1, .int .i64 q.2]] w fun e w' => e = .returned (.int .i64 (roundQ q)) ∧ Grows w w' := by
  have CI := fun W => iIsRatio_c q.1 q.2 W
  change ∀ W, Calls Try.prog 180 #[.agg #[.int .i64 q.1, .int .i64 q.2]] W (fun e w' => e = .returned (.bool (okQ q)) ∧ Grows W w') at CI
  obtain ⟨w1, hw1⟩ : ∃ w1, w1 = w.alloc (.cells #[.int .i64 q.1, .int .i64 q.2] 102) := ⟨_, rfl⟩
  have mq : QBox w1 w.heap.size q := by rw [hw1]; exact QBox.new_ _ _ _ rfl
  have HG : Grows w w1 := by rw [hw1]; exact bel0
  have HW1 := Lib.hid hw1
  obtain ⟨RES, hRES⟩ : ∃ x, x = roundQ q := ⟨_, rfl⟩
  rw [← hRES]
  unfold roundQ at hRES
  cases hok : okQ q
  · rw [hok] at CI hRES
    have CI' := Lib.hid CI
    have HR := Lib.hid hRES
    clear CI hok hRES hw1
    go_enter Try.func141, Try.ntmps141
    go_wp2_with fail
    rw [← HW1.out]
    refine (CI'.out _).mono ?_; rintro e w2 ⟨rfl, g2⟩
    go_wp2_with fail
    go_ret
    exact ⟨by rw [HR.out]; rfl, by exact bel2 g2 HG⟩
  · have hb := okQ_bd hok
    rw [hok] at CI hRES
    have CI' := Lib.hid CI
    have HR := Lib.hid hRES
    have CD := Lib.hid fun W => floorDiv_c (2 * q.1 + q.2) (2 * q.2) W (by omega) (by omega) (by omega) (by omega)
    have k1 : IntKind.i64.wrap (2 * q.1) = 2 * q.1 := IntWalk.i64_in _ (by omega)
    have k2 : IntKind.i64.wrap (2 * q.1 + q.2) = 2 * q.1 + q.2 := IntWalk.i64_in _ (by omega)
    have k3 : IntKind.i64.wrap (2 * q.2) = 2 * q.2 := IntWalk.i64_in _ (by omega)
    clear CI hok hRES hw1
    go_enter Try.func141, Try.ntmps141
    go_wp2_with fail
    rw [← HW1.out]
    refine (CI'.out _).mono ?_; rintro e w2 ⟨rfl, g2⟩
    obtain ⟨q0, q1⟩ := (mq.grows g2).cells
    go_wp2_with fail
    refine (CD.out _).mono ?_; rintro e w3 ⟨rfl, rfl⟩
    go_wp2_with fail
    go_ret
    exact ⟨by rw [HR.out]; rfl, by exact bel2 g2 HG⟩
theorem sFloorQ_c (q : Q2) (w : World) : Calls Try.prog 139 #[.agg #[.int .i64 q.1, .int .i64 q.2]] w fun e w' => e = .returned (.int .i64 (floorQ q)) ∧ Grows w w' := by
  have CI := fun W => sIsRatio_c q.1 q.2 W
  change ∀ W, Calls Try.prog 189 #[.agg #[.int .i64 q.1, .int .i64 q.2]] W (fun e w' => e = .returned (.bool (okQ q)) ∧ Grows W w') at CI
  obtain ⟨w1, hw1⟩ : ∃ w1, w1 = w.alloc (.cells #[.int .i64 q.1, .int .i64 q.2] 102) := ⟨_, rfl⟩
  have mq : QBox w1 w.heap.size q := by rw [hw1]; exact QBox.new_ _ _ _ rfl
  have HG : Grows w w1 := by rw [hw1]; exact bel0
  have HW1 := Lib.hid hw1
  obtain ⟨RES, hRES⟩ : ∃ x, x = floorQ q := ⟨_, rfl⟩
  rw [← hRES]
  unfold floorQ at hRES
  cases hok : okQ q
  · rw [hok] at CI hRES
    have CI' := Lib.hid CI
    have HR := Lib.hid hRES
    clear CI hok hRES hw1
    go_enter Try.func139, Try.ntmps139
    go_wp2_with fail
    rw [← HW1.out]
    refine (CI'.out _).mono ?_; rintro e w2 ⟨rfl, g2⟩
    go_wp2_with fail
    go_ret
    exact ⟨by rw [HR.out]; rfl, by exact bel2 g2 HG⟩
  · have hb := okQ_bd hok
    rw [hok] at CI hRES
    have CI' := Lib.hid CI
    have HR := Lib.hid hRES
    have CD := Lib.hid fun W => l1Floor_c q.1 q.2 W (by omega) (by omega) (by omega) (by omega)
    clear CI hok hRES hw1
    go_enter Try.func139, Try.ntmps139
    go_wp2_with fail
    rw [← HW1.out]
    refine (CI'.out _).mono ?_; rintro e w2 ⟨rfl, g2⟩
    obtain ⟨q0, q1⟩ := (mq.grows g2).cells
    go_wp2_with fail
    refine (CD.out _).mono ?_; rintro e w3 ⟨rfl, rfl⟩
    go_wp2_with fail
    go_ret
    exact ⟨by rw [HR.out]; rfl, by exact bel2 g2 HG⟩
theorem sRoundQ_c (q : Q2) (w : World) : Calls Try.prog 187 #[.agg #[.int .i64 q.1, .int .i64 q.2]] w fun e w' => e = .returned (.int .i64 (roundQ q)) ∧ Grows w w' := by
  have CI := fun W => sIsRatio_c q.1 q.2 W
  change ∀ W, Calls Try.prog 189 #[.agg #[.int .i64 q.1, .int .i64 q.2]] W (fun e w' => e = .returned (.bool (okQ q)) ∧ Grows W w') at CI
  obtain ⟨w1, hw1⟩ : ∃ w1, w1 = w.alloc (.cells #[.int .i64 q.1, .int .i64 q.2] 102) := ⟨_, rfl⟩
  have mq : QBox w1 w.heap.size q := by rw [hw1]; exact QBox.new_ _ _ _ rfl
  have HG : Grows w w1 := by rw [hw1]; exact bel0
  have HW1 := Lib.hid hw1
  obtain ⟨RES, hRES⟩ : ∃ x, x = roundQ q := ⟨_, rfl⟩
  rw [← hRES]
  unfold roundQ at hRES
  cases hok : okQ q
  · rw [hok] at CI hRES
    have CI' := Lib.hid CI
    have HR := Lib.hid hRES
    clear CI hok hRES hw1
    go_enter Try.func187, Try.ntmps187
    go_wp2_with fail
    rw [← HW1.out]
    refine (CI'.out _).mono ?_; rintro e w2 ⟨rfl, g2⟩
    go_wp2_with fail
    go_ret
    exact ⟨by rw [HR.out]; rfl, by exact bel2 g2 HG⟩
  · have hb := okQ_bd hok
    rw [hok] at CI hRES
    have CI' := Lib.hid CI
    have HR := Lib.hid hRES
    have CD := Lib.hid fun W => l1Floor_c (2 * q.1 + q.2) (2 * q.2) W (by omega) (by omega) (by omega) (by omega)
    have k1 : IntKind.i64.wrap (2 * q.1) = 2 * q.1 := IntWalk.i64_in _ (by omega)
    have k2 : IntKind.i64.wrap (2 * q.1 + q.2) = 2 * q.1 + q.2 := IntWalk.i64_in _ (by omega)
    have k3 : IntKind.i64.wrap (2 * q.2) = 2 * q.2 := IntWalk.i64_in _ (by omega)
    clear CI hok hRES hw1
    go_enter Try.func187, Try.ntmps187
    go_wp2_with fail
    rw [← HW1.out]
    refine (CI'.out _).mono ?_; rintro e w2 ⟨rfl, g2⟩
    obtain ⟨q0, q1⟩ := (mq.grows g2).cells
    go_wp2_with fail
    refine (CD.out _).mono ?_; rintro e w3 ⟨rfl, rfl⟩
    go_wp2_with fail
    go_ret
    exact ⟨by rw [HR.out]; rfl, by exact bel2 g2 HG⟩
end
end Go.Proofs.Yticmopedbgoflaa
