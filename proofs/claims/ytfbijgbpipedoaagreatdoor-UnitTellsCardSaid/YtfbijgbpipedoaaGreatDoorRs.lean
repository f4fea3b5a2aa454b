/- Walks of ratio's functions: Sub and Div. -/
import Derived.Test.YtfbijgbpipedoaaGreatDoorRr
namespace Go.Proofs.YtfbijgbpipedoaaGreatDoor
open Go.RowKit Ra

set_option maxHeartbeats 2000000 in
theorem div_not (a b : Q) (w : World) (HB : Hid (∀ w, Calls Tryz.prog 61 #[.agg #[.int .i64 b.n, .int .i64 b.d]] w fun e w' => e = .returned (.bool false) ∧ Below w.heap.size w w')) :
    Calls Tryz.prog 37 #[.agg #[.int .i64 a.n, .int .i64 a.d], .agg #[.int .i64 b.n, .int .i64 b.d]] w fun e w' => e = .returned (.tuple #[.agg #[.int .i64 0, .int .i64 0], .int .i64 1]) ∧ Below w.heap.size w w' := by
  obtain ⟨W, hW⟩ : ∃ W, W = Two a b w := ⟨_, rfl⟩
  have T0 : TwoAt a b w.heap.size W := by rw [hW]; exact two_at a b w
  have B0 : Below w.heap.size w W := by rw [hW]; exact two_below a b w
  unfold Two at hW
  have HW := Lib.hid hW
  clear hW
  go_enter Tryz.func37, Tryz.ntmps37
  go_wp2_with fail
  rw [← HW.out]
  refine (HB.out _).mono ?_
  rintro e w1 ⟨rfl, b1⟩
  obtain ⟨c1, c2, c3, c4, c5, c6, c7, c8, c9⟩ := T0.below b1
  go_wp2_with fail
  refine bodyPost_ret (v := .tuple #[.agg #[.int .i64 0, .int .i64 0], .int .i64 1]) (by simp [results, Tryz.results37, go_sem, *]) rfl ⟨rfl, ?_⟩
  exact Below.setCell (Below.setCell (Below.trans B0 (b1.mono B0.size)) (by simp only; omega) _) (by simp only; omega) _

set_option maxHeartbeats 2000000 in
theorem div_zero (a b : Q) (w : World) (HB : Hid (∀ w, Calls Tryz.prog 61 #[.agg #[.int .i64 b.n, .int .i64 b.d]] w fun e w' => e = .returned (.bool true) ∧ Below w.heap.size w w')) (Hz : Hid (b.n = 0)) :
    Calls Tryz.prog 37 #[.agg #[.int .i64 a.n, .int .i64 a.d], .agg #[.int .i64 b.n, .int .i64 b.d]] w fun e w' => e = .returned (.tuple #[.agg #[.int .i64 0, .int .i64 0], .int .i64 1]) ∧ Below w.heap.size w w' := by
  obtain ⟨W, hW⟩ : ∃ W, W = Two a b w := ⟨_, rfl⟩
  have T0 : TwoAt a b w.heap.size W := by rw [hW]; exact two_at a b w
  have B0 : Below w.heap.size w W := by rw [hW]; exact two_below a b w
  unfold Two at hW
  have HW := Lib.hid hW
  clear hW
  go_enter Tryz.func37, Tryz.ntmps37
  go_wp2_with fail
  rw [← HW.out]
  refine (HB.out _).mono ?_
  rintro e w1 ⟨rfl, b1⟩
  obtain ⟨c1, c2, c3, c4, c5, c6, c7, c8, c9⟩ := T0.below b1
  have hz := Hz.out
  rw [hz] at c3
  go_wp2_with fail
  refine bodyPost_ret (v := .tuple #[.agg #[.int .i64 0, .int .i64 0], .int .i64 1]) (by simp [results, Tryz.results37, go_sem, *]) rfl ⟨rfl, ?_⟩
  exact Below.setCell (Below.setCell (Below.trans B0 (b1.mono B0.size)) (by simp only; omega) _) (by simp only; omega) _

set_option maxHeartbeats 2000000 in
theorem div_neg (a b : Q) (x y v u er : Int) (w : World) (HB : Hid (∀ w, Calls Tryz.prog 61 #[.agg #[.int .i64 b.n, .int .i64 b.d]] w fun e w' => e = .returned (.bool true) ∧ Below w.heap.size w w'))
    (nz : (b.n == 0) = false) (lt : b.n < 0) (ex : IntKind.i64.wrap (-b.d) = x) (ey : IntKind.i64.wrap (-b.n) = y)
    (HV : Hid (∀ w, Calls Tryz.prog 62 #[.agg #[.int .i64 a.n, .int .i64 a.d], .agg #[.int .i64 x, .int .i64 y]] w fun e w' => e = .returned (.tuple #[.agg #[.int .i64 v, .int .i64 u], .int .i64 er]) ∧ Below w.heap.size w w')) :
    Calls Tryz.prog 37 #[.agg #[.int .i64 a.n, .int .i64 a.d], .agg #[.int .i64 b.n, .int .i64 b.d]] w fun e w' => e = .returned (.tuple #[.agg #[.int .i64 v, .int .i64 u], .int .i64 er]) ∧ Below w.heap.size w w' := by
  obtain ⟨W, hW⟩ : ∃ W, W = Two a b w := ⟨_, rfl⟩
  have T0 : TwoAt a b w.heap.size W := by rw [hW]; exact two_at a b w
  have B0 : Below w.heap.size w W := by rw [hW]; exact two_below a b w
  unfold Two at hW
  have HW := Lib.hid hW
  clear hW
  go_enter Tryz.func37, Tryz.ntmps37
  go_wp2_with fail
  rw [← HW.out]
  refine (HB.out _).mono ?_
  rintro e w1 ⟨rfl, b1⟩
  have T1 := T0.below b1
  have B1 := Below.trans B0 (b1.mono B0.size)
  obtain ⟨c1, c2, c3, c4, c5, c6, c7, c8, c9⟩ := T1
  go_wp2_with fail
  refine (HV.out _).mono ?_
  rintro e w2 ⟨rfl, b2⟩
  have T2 := TwoAt.below ⟨c1, c2, c3, c4, c5, c6, c7, c8, c9⟩ b2
  have B2 := Below.trans B1 (b2.mono B1.size)
  clear c1 c2 c3 c4 c5 c6 c7 c8 c9
  obtain ⟨c1, c2, c3, c4, c5, c6, c7, c8, c9⟩ := T2
  go_wp2_with fail
  refine bodyPost_ret (v := .tuple #[.agg #[.int .i64 v, .int .i64 u], .int .i64 er]) (by simp [results, Tryz.results37, go_sem, *]) rfl ⟨rfl, ?_⟩
  exact Below.setCell (Below.setCell B2 (by simp only; omega) _) (by simp only; omega) _

set_option maxHeartbeats 2000000 in
theorem div_pos (a b : Q) (v u er : Int) (w : World) (HB : Hid (∀ w, Calls Tryz.prog 61 #[.agg #[.int .i64 b.n, .int .i64 b.d]] w fun e w' => e = .returned (.bool true) ∧ Below w.heap.size w w'))
    (nz : (b.n == 0) = false) (lt : ¬ b.n < 0)
    (HV : Hid (∀ w, Calls Tryz.prog 62 #[.agg #[.int .i64 a.n, .int .i64 a.d], .agg #[.int .i64 b.d, .int .i64 b.n]] w fun e w' => e = .returned (.tuple #[.agg #[.int .i64 v, .int .i64 u], .int .i64 er]) ∧ Below w.heap.size w w')) :
    Calls Tryz.prog 37 #[.agg #[.int .i64 a.n, .int .i64 a.d], .agg #[.int .i64 b.n, .int .i64 b.d]] w fun e w' => e = .returned (.tuple #[.agg #[.int .i64 v, .int .i64 u], .int .i64 er]) ∧ Below w.heap.size w w' := by
  obtain ⟨W, hW⟩ : ∃ W, W = Two a b w := ⟨_, rfl⟩
  have T0 : TwoAt a b w.heap.size W := by rw [hW]; exact two_at a b w
  have B0 : Below w.heap.size w W := by rw [hW]; exact two_below a b w
  unfold Two at hW
  have HW := Lib.hid hW
  clear hW
  go_enter Tryz.func37, Tryz.ntmps37
  go_wp2_with fail
  rw [← HW.out]
  refine (HB.out _).mono ?_
  rintro e w1 ⟨rfl, b1⟩
  have T1 := T0.below b1
  have B1 := Below.trans B0 (b1.mono B0.size)
  obtain ⟨c1, c2, c3, c4, c5, c6, c7, c8, c9⟩ := T1
  go_wp2_with fail
  refine (HV.out _).mono ?_
  rintro e w2 ⟨rfl, b2⟩
  have T2 := TwoAt.below ⟨c1, c2, c3, c4, c5, c6, c7, c8, c9⟩ b2
  have B2 := Below.trans B1 (b2.mono B1.size)
  clear c1 c2 c3 c4 c5 c6 c7 c8 c9
  obtain ⟨c1, c2, c3, c4, c5, c6, c7, c8, c9⟩ := T2
  go_wp2_with fail
  refine bodyPost_ret (v := .tuple #[.agg #[.int .i64 v, .int .i64 u], .int .i64 er]) (by simp [results, Tryz.results37, go_sem, *]) rfl ⟨rfl, ?_⟩
  exact Below.setCell (Below.setCell B2 (by simp only; omega) _) (by simp only; omega) _

theorem div_any (a b : Q) (w : World) (ha : Q64 a) (hb : Q64 b) :
    Calls Tryz.prog 37 #[Qv a, Qv b] w fun e w' => e = .returned (.tuple #[Qv (divV a b), .int .i64 (divE a b)]) ∧ Below w.heap.size w w' := by
  unfold divV divE
  by_cases rb : rightB b = true
  rotate_left
  · rw [Bool.not_eq_true] at rb
    rw [rb]
    exact div_not a b w (Lib.hid (right_end hb false rb))
  rw [rb]
  have hB := (right_iff b).1 rb
  have l1 := hB.lo; have l2 := hB.hi; have l3 := hB.den; have l4 := hB.pos
  by_cases hz : b.n = 0
  · have : (b.n != 0) = false := by simp [hz]
    rw [this]
    exact div_zero a b w (Lib.hid (right_end hb true rb)) (Lib.hid hz)
  have hnz : (b.n == 0) = false := by simp [hz]
  have : (b.n != 0) = true := by simp [hz]
  rw [this]
  unfold inv
  by_cases hs : b.n < 0
  · rw [if_pos hs]
    exact div_neg a b _ _ _ _ _ w (Lib.hid (right_end hb true rb)) hnz hs (IntWalk.i64_in _ (by omega)) (IntWalk.i64_in _ (by omega)) (Lib.hid fun w => mul_any a ⟨-b.d, -b.n⟩ w ha ⟨by simp only; omega, by simp only; omega, by simp only; omega, by simp only; omega⟩)
  · rw [if_neg hs]
    exact div_pos a b _ _ _ w (Lib.hid (right_end hb true rb)) hnz hs (Lib.hid fun w => mul_any a ⟨b.d, b.n⟩ w ha ⟨by simp only; omega, by simp only; omega, by simp only; omega, by simp only; omega⟩)

end Go.Proofs.YtfbijgbpipedoaaGreatDoor
