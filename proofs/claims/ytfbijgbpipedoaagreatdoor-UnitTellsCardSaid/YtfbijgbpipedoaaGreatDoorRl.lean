/- Walks of ratio's functions: Mul, of right ratios, one of which is zero. -/
import Derived.Test.YtfbijgbpipedoaaGreatDoorRk
namespace Go.Proofs.YtfbijgbpipedoaaGreatDoor
open Go.RowKit Ra

set_option maxHeartbeats 2000000 in
theorem mul_zero1 (a b : Q) (w : World) (ha : Q64 a) (hb : Q64 b) (h : rightB a = true) (h2 : rightB b = true) (hz : a.n = 0) :
    Calls Tryz.prog 62 #[.agg #[.int .i64 a.n, .int .i64 a.d], .agg #[.int .i64 b.n, .int .i64 b.d]] w fun e w' => e = .returned (.tuple #[.agg #[.int .i64 0, .int .i64 1], .int .i64 0]) ∧ Below w.heap.size w w' := by
  have HA := Lib.hid (right_end ha true h)
  have HB := Lib.hid (right_end hb true h2)
  have Hz := Lib.hid hz
  clear hz
  obtain ⟨W, hW⟩ : ∃ W, W = Two a b w := ⟨_, rfl⟩
  have T0 : TwoAt a b w.heap.size W := by rw [hW]; exact two_at a b w
  have B0 : Below w.heap.size w W := by rw [hW]; exact two_below a b w
  unfold Two at hW
  have HW := Lib.hid hW
  clear hW h ha h2 hb
  go_enter Tryz.func62, Tryz.ntmps62
  go_wp2_with fail
  rw [← HW.out]
  refine (HA.out _).mono ?_
  rintro e w1 ⟨rfl, b1⟩
  have T1 := T0.below b1
  have B1 := Below.trans B0 (b1.mono B0.size)
  obtain ⟨c1, c2, c3, c4, c5, c6, c7, c8, c9⟩ := T1
  go_wp2_with fail
  refine (HB.out _).mono ?_
  rintro e w2 ⟨rfl, b2⟩
  have T2 := TwoAt.below ⟨c1, c2, c3, c4, c5, c6, c7, c8, c9⟩ b2
  have B2 := Below.trans B1 (b2.mono B1.size)
  clear c1 c2 c3 c4 c5 c6 c7 c8 c9
  obtain ⟨c1, c2, c3, c4, c5, c6, c7, c8, c9⟩ := T2
  have hz := Hz.out
  rw [hz] at c1
  go_wp2_with fail
  refine bodyPost_ret (v := .tuple #[.agg #[.int .i64 0, .int .i64 1], .int .i64 0]) (by simp [results, Tryz.results62, go_sem, *]) rfl ⟨rfl, ?_⟩
  exact Below.setCell (Below.setCell B2 (by simp only; omega) _) (by simp only; omega) _

set_option maxHeartbeats 2000000 in
theorem mul_zero2 (a b : Q) (w : World) (ha : Q64 a) (hb : Q64 b) (h : rightB a = true) (h2 : rightB b = true) (hy : ¬ a.n = 0) (hz : b.n = 0) :
    Calls Tryz.prog 62 #[.agg #[.int .i64 a.n, .int .i64 a.d], .agg #[.int .i64 b.n, .int .i64 b.d]] w fun e w' => e = .returned (.tuple #[.agg #[.int .i64 0, .int .i64 1], .int .i64 0]) ∧ Below w.heap.size w w' := by
  have HA := Lib.hid (right_end ha true h)
  have HB := Lib.hid (right_end hb true h2)
  have Hz := Lib.hid hz
  clear hz
  obtain ⟨W, hW⟩ : ∃ W, W = Two a b w := ⟨_, rfl⟩
  have T0 : TwoAt a b w.heap.size W := by rw [hW]; exact two_at a b w
  have B0 : Below w.heap.size w W := by rw [hW]; exact two_below a b w
  unfold Two at hW
  have HW := Lib.hid hW
  clear hW h ha h2 hb
  go_enter Tryz.func62, Tryz.ntmps62
  go_wp2_with fail
  rw [← HW.out]
  refine (HA.out _).mono ?_
  rintro e w1 ⟨rfl, b1⟩
  have T1 := T0.below b1
  have B1 := Below.trans B0 (b1.mono B0.size)
  obtain ⟨c1, c2, c3, c4, c5, c6, c7, c8, c9⟩ := T1
  go_wp2_with fail
  refine (HB.out _).mono ?_
  rintro e w2 ⟨rfl, b2⟩
  have T2 := TwoAt.below ⟨c1, c2, c3, c4, c5, c6, c7, c8, c9⟩ b2
  have B2 := Below.trans B1 (b2.mono B1.size)
  clear c1 c2 c3 c4 c5 c6 c7 c8 c9
  obtain ⟨c1, c2, c3, c4, c5, c6, c7, c8, c9⟩ := T2
  have hz := Hz.out
  rw [hz] at c3
  go_wp2_with fail
  refine bodyPost_ret (v := .tuple #[.agg #[.int .i64 0, .int .i64 1], .int .i64 0]) (by simp [results, Tryz.results62, go_sem, *]) rfl ⟨rfl, ?_⟩
  exact Below.setCell (Below.setCell B2 (by simp only; omega) _) (by simp only; omega) _

end Go.Proofs.YtfbijgbpipedoaaGreatDoor
