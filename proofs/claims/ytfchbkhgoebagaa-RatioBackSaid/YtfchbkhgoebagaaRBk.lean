/- The walk of RatioBack. -/
import Derived.Test.YtfchbkhgoebagaaRFa
namespace Go.Proofs.Ytfchbkhgoebagaa
open Go.RowKit Ra

set_option maxRecDepth 100000 in
set_option maxHeartbeats 4000000 in
theorem back_no0 (a b s p : Q) (w : World)
    (H1 : Hid (∀ w, Calls Try.prog 8 #[] w fun e w' => e = .returned (.bool true) ∧ Below w.heap.size w w'))
    (H2 : Hid (∀ w, Calls Try.prog 16 #[.agg #[.int .i64 a.n, .int .i64 a.d], .agg #[.int .i64 b.n, .int .i64 b.d]] w fun e w' => e = .returned (.tuple #[.agg #[.int .i64 s.n, .int .i64 s.d], .int .i64 1]) ∧ Below w.heap.size w w'))
    (H3 : Hid (∀ w, Calls Try.prog 20 #[.agg #[.int .i64 a.n, .int .i64 a.d], .agg #[.int .i64 b.n, .int .i64 b.d]] w fun e w' => e = .returned (.tuple #[.agg #[.int .i64 p.n, .int .i64 p.d], .int .i64 1]) ∧ Below w.heap.size w w'))
    (H4 : Hid (∀ w, Calls Try.prog 9 #[.agg #[.int .i64 a.n, .int .i64 a.d]] w fun e w' => e = .returned (.bool false) ∧ Below w.heap.size w w'))
    : Calls Try.prog 5 #[.agg #[.int .i64 a.n, .int .i64 a.d], .agg #[.int .i64 b.n, .int .i64 b.d]] w fun e w' => e = .returned (.bool true) ∧ Below w.heap.size w w' := by
  obtain ⟨W, hW⟩ : ∃ W, W = Par a b w := ⟨_, rfl⟩
  have hat := par_bx a b w
  rw [← hW] at hat
  obtain ⟨⟨ka, la⟩, ⟨kb, lb⟩, B0⟩ := hat
  unfold Par at hW
  have HW := Lib.hid hW
  clear hW
  have na := World.block_lt_of_cell? W _ ka
  simp only at na
  have nb := World.block_lt_of_cell? W _ kb
  simp only at nb
  go_enter Try.func5, Try.ntmps5
  go_wp2_with fail
  rw [← HW.out]
  refine (H1.out _).mono ?_
  rintro e w1 ⟨rfl, b1⟩
  have s1 : Below W.heap.size W w1 := below_step (by repeat first | exact Below.refl _ _ | refine below_drewN ?_ _ | refine Below.drew ?_ | refine Below.setCell ?_ (by simp <;> omega) _ | refine Below.alloc ?_ (by simp) _) b1 rfl
  have ka' := bx_keep s1 ⟨ka, la⟩
  clear ka la na
  obtain ⟨ka, la⟩ := ka'
  have kb' := bx_keep s1 ⟨kb, lb⟩
  clear kb lb nb
  obtain ⟨kb, lb⟩ := kb'
  have na := World.block_lt_of_cell? w1 _ ka
  simp only at na
  have nb := World.block_lt_of_cell? w1 _ kb
  simp only at nb
  have B1 := Below.trans B0 (s1.mono B0.size)
  go_wp2_with fail
  refine (H2.out _).mono ?_
  rintro e w2 ⟨rfl, b2⟩
  have s2 : Below w1.heap.size w1 w2 := below_step (by repeat first | exact Below.refl _ _ | refine below_drewN ?_ _ | refine Below.drew ?_ | refine Below.setCell ?_ (by simp <;> omega) _ | refine Below.alloc ?_ (by simp) _) b2 rfl
  have ka' := bx_keep s2 ⟨ka, la⟩
  clear ka la na
  obtain ⟨ka, la⟩ := ka'
  have kb' := bx_keep s2 ⟨kb, lb⟩
  clear kb lb nb
  obtain ⟨kb, lb⟩ := kb'
  have na := World.block_lt_of_cell? w2 _ ka
  simp only at na
  have nb := World.block_lt_of_cell? w2 _ kb
  simp only at nb
  have B2 := Below.trans B1 (s2.mono B1.size)
  clear B1
  go_wp2_with fail
  refine (H3.out _).mono ?_
  rintro e w3 ⟨rfl, b3⟩
  have s3 : Below w2.heap.size w2 w3 := below_step (by repeat first | exact Below.refl _ _ | refine below_drewN ?_ _ | refine Below.drew ?_ | refine Below.setCell ?_ (by simp <;> omega) _ | refine Below.alloc ?_ (by simp) _) b3 rfl
  have ka' := bx_keep s3 ⟨ka, la⟩
  clear ka la na
  obtain ⟨ka, la⟩ := ka'
  have kb' := bx_keep s3 ⟨kb, lb⟩
  clear kb lb nb
  obtain ⟨kb, lb⟩ := kb'
  obtain ⟨ks1, ls1⟩ := bx_new b3 (by simp)
  have na := World.block_lt_of_cell? w3 _ ka
  simp only at na
  have nb := World.block_lt_of_cell? w3 _ kb
  simp only at nb
  have ns1 := World.block_lt_of_cell? w3 _ ks1
  simp only at ns1
  have B3 := Below.trans B2 (s3.mono B2.size)
  clear B2
  go_wp2_with fail
  refine (H4.out _).mono ?_
  rintro e w4 ⟨rfl, b4⟩
  have s4 : Below w3.heap.size w3 w4 := below_step (by repeat first | exact Below.refl _ _ | refine below_drewN ?_ _ | refine Below.drew ?_ | refine Below.setCell ?_ (by simp <;> omega) _ | refine Below.alloc ?_ (by simp) _) b4 rfl
  have ka' := bx_keep s4 ⟨ka, la⟩
  clear ka la na
  obtain ⟨ka, la⟩ := ka'
  have kb' := bx_keep s4 ⟨kb, lb⟩
  clear kb lb nb
  obtain ⟨kb, lb⟩ := kb'
  have ks1' := bx_keep s4 ⟨ks1, ls1⟩
  clear ks1 ls1 ns1
  obtain ⟨ks1, ls1⟩ := ks1'
  obtain ⟨kp1, lp1⟩ := bx_new b4 (by simp)
  have na := World.block_lt_of_cell? w4 _ ka
  simp only at na
  have nb := World.block_lt_of_cell? w4 _ kb
  simp only at nb
  have ns1 := World.block_lt_of_cell? w4 _ ks1
  simp only at ns1
  have np1 := World.block_lt_of_cell? w4 _ kp1
  simp only at np1
  have B4 := Below.trans B3 (s4.mono B3.size)
  clear B3
  go_wp2_with fail
  go_ret
  exact ⟨rfl, Below.trans B4 (Below.mono (by repeat first | exact Below.refl _ _ | refine below_drewN ?_ _ | refine Below.drew ?_ | refine Below.setCell ?_ (by simp <;> omega) _ | refine Below.alloc ?_ (by simp) _) B4.size)⟩

set_option maxRecDepth 100000 in
set_option maxHeartbeats 4000000 in
theorem back_no1 (a b s p : Q) (w : World)
    (H1 : Hid (∀ w, Calls Try.prog 8 #[] w fun e w' => e = .returned (.bool true) ∧ Below w.heap.size w w'))
    (H2 : Hid (∀ w, Calls Try.prog 16 #[.agg #[.int .i64 a.n, .int .i64 a.d], .agg #[.int .i64 b.n, .int .i64 b.d]] w fun e w' => e = .returned (.tuple #[.agg #[.int .i64 s.n, .int .i64 s.d], .int .i64 1]) ∧ Below w.heap.size w w'))
    (H3 : Hid (∀ w, Calls Try.prog 20 #[.agg #[.int .i64 a.n, .int .i64 a.d], .agg #[.int .i64 b.n, .int .i64 b.d]] w fun e w' => e = .returned (.tuple #[.agg #[.int .i64 p.n, .int .i64 p.d], .int .i64 1]) ∧ Below w.heap.size w w'))
    (H4 : Hid (∀ w, Calls Try.prog 9 #[.agg #[.int .i64 a.n, .int .i64 a.d]] w fun e w' => e = .returned (.bool true) ∧ Below w.heap.size w w'))
    (H5 : Hid (∀ w, Calls Try.prog 9 #[.agg #[.int .i64 b.n, .int .i64 b.d]] w fun e w' => e = .returned (.bool false) ∧ Below w.heap.size w w'))
    : Calls Try.prog 5 #[.agg #[.int .i64 a.n, .int .i64 a.d], .agg #[.int .i64 b.n, .int .i64 b.d]] w fun e w' => e = .returned (.bool true) ∧ Below w.heap.size w w' := by
  obtain ⟨W, hW⟩ : ∃ W, W = Par a b w := ⟨_, rfl⟩
  have hat := par_bx a b w
  rw [← hW] at hat
  obtain ⟨⟨ka, la⟩, ⟨kb, lb⟩, B0⟩ := hat
  unfold Par at hW
  have HW := Lib.hid hW
  clear hW
  have na := World.block_lt_of_cell? W _ ka
  simp only at na
  have nb := World.block_lt_of_cell? W _ kb
  simp only at nb
  go_enter Try.func5, Try.ntmps5
  go_wp2_with fail
  rw [← HW.out]
  refine (H1.out _).mono ?_
  rintro e w1 ⟨rfl, b1⟩
  have s1 : Below W.heap.size W w1 := below_step (by repeat first | exact Below.refl _ _ | refine below_drewN ?_ _ | refine Below.drew ?_ | refine Below.setCell ?_ (by simp <;> omega) _ | refine Below.alloc ?_ (by simp) _) b1 rfl
  have ka' := bx_keep s1 ⟨ka, la⟩
  clear ka la na
  obtain ⟨ka, la⟩ := ka'
  have kb' := bx_keep s1 ⟨kb, lb⟩
  clear kb lb nb
  obtain ⟨kb, lb⟩ := kb'
  have na := World.block_lt_of_cell? w1 _ ka
  simp only at na
  have nb := World.block_lt_of_cell? w1 _ kb
  simp only at nb
  have B1 := Below.trans B0 (s1.mono B0.size)
  go_wp2_with fail
  refine (H2.out _).mono ?_
  rintro e w2 ⟨rfl, b2⟩
  have s2 : Below w1.heap.size w1 w2 := below_step (by repeat first | exact Below.refl _ _ | refine below_drewN ?_ _ | refine Below.drew ?_ | refine Below.setCell ?_ (by simp <;> omega) _ | refine Below.alloc ?_ (by simp) _) b2 rfl
  have ka' := bx_keep s2 ⟨ka, la⟩
  clear ka la na
  obtain ⟨ka, la⟩ := ka'
  have kb' := bx_keep s2 ⟨kb, lb⟩
  clear kb lb nb
  obtain ⟨kb, lb⟩ := kb'
  have na := World.block_lt_of_cell? w2 _ ka
  simp only at na
  have nb := World.block_lt_of_cell? w2 _ kb
  simp only at nb
  have B2 := Below.trans B1 (s2.mono B1.size)
  clear B1
  go_wp2_with fail
  refine (H3.out _).mono ?_
  rintro e w3 ⟨rfl, b3⟩
  have s3 : Below w2.heap.size w2 w3 := below_step (by repeat first | exact Below.refl _ _ | refine below_drewN ?_ _ | refine Below.drew ?_ | refine Below.setCell ?_ (by simp <;> omega) _ | refine Below.alloc ?_ (by simp) _) b3 rfl
  have ka' := bx_keep s3 ⟨ka, la⟩
  clear ka la na
  obtain ⟨ka, la⟩ := ka'
  have kb' := bx_keep s3 ⟨kb, lb⟩
  clear kb lb nb
  obtain ⟨kb, lb⟩ := kb'
  obtain ⟨ks1, ls1⟩ := bx_new b3 (by simp)
  have na := World.block_lt_of_cell? w3 _ ka
  simp only at na
  have nb := World.block_lt_of_cell? w3 _ kb
  simp only at nb
  have ns1 := World.block_lt_of_cell? w3 _ ks1
  simp only at ns1
  have B3 := Below.trans B2 (s3.mono B2.size)
  clear B2
  go_wp2_with fail
  refine (H4.out _).mono ?_
  rintro e w4 ⟨rfl, b4⟩
  have s4 : Below w3.heap.size w3 w4 := below_step (by repeat first | exact Below.refl _ _ | refine below_drewN ?_ _ | refine Below.drew ?_ | refine Below.setCell ?_ (by simp <;> omega) _ | refine Below.alloc ?_ (by simp) _) b4 rfl
  have ka' := bx_keep s4 ⟨ka, la⟩
  clear ka la na
  obtain ⟨ka, la⟩ := ka'
  have kb' := bx_keep s4 ⟨kb, lb⟩
  clear kb lb nb
  obtain ⟨kb, lb⟩ := kb'
  have ks1' := bx_keep s4 ⟨ks1, ls1⟩
  clear ks1 ls1 ns1
  obtain ⟨ks1, ls1⟩ := ks1'
  obtain ⟨kp1, lp1⟩ := bx_new b4 (by simp)
  have na := World.block_lt_of_cell? w4 _ ka
  simp only at na
  have nb := World.block_lt_of_cell? w4 _ kb
  simp only at nb
  have ns1 := World.block_lt_of_cell? w4 _ ks1
  simp only at ns1
  have np1 := World.block_lt_of_cell? w4 _ kp1
  simp only at np1
  have B4 := Below.trans B3 (s4.mono B3.size)
  clear B3
  go_wp2_with fail
  refine (H5.out _).mono ?_
  rintro e w5 ⟨rfl, b5⟩
  have s5 : Below w4.heap.size w4 w5 := below_step (by repeat first | exact Below.refl _ _ | refine below_drewN ?_ _ | refine Below.drew ?_ | refine Below.setCell ?_ (by simp <;> omega) _ | refine Below.alloc ?_ (by simp) _) b5 rfl
  have ka' := bx_keep s5 ⟨ka, la⟩
  clear ka la na
  obtain ⟨ka, la⟩ := ka'
  have kb' := bx_keep s5 ⟨kb, lb⟩
  clear kb lb nb
  obtain ⟨kb, lb⟩ := kb'
  have ks1' := bx_keep s5 ⟨ks1, ls1⟩
  clear ks1 ls1 ns1
  obtain ⟨ks1, ls1⟩ := ks1'
  have kp1' := bx_keep s5 ⟨kp1, lp1⟩
  clear kp1 lp1 np1
  obtain ⟨kp1, lp1⟩ := kp1'
  have na := World.block_lt_of_cell? w5 _ ka
  simp only at na
  have nb := World.block_lt_of_cell? w5 _ kb
  simp only at nb
  have ns1 := World.block_lt_of_cell? w5 _ ks1
  simp only at ns1
  have np1 := World.block_lt_of_cell? w5 _ kp1
  simp only at np1
  have B5 := Below.trans B4 (s5.mono B4.size)
  clear B4
  go_wp2_with fail
  go_ret
  exact ⟨rfl, Below.trans B5 (Below.mono (by repeat first | exact Below.refl _ _ | refine below_drewN ?_ _ | refine Below.drew ?_ | refine Below.setCell ?_ (by simp <;> omega) _ | refine Below.alloc ?_ (by simp) _) B5.size)⟩

set_option maxRecDepth 100000 in
set_option maxHeartbeats 4000000 in
theorem back_0nz (a b s p : Q) (w : World)
    (H1 : Hid (∀ w, Calls Try.prog 8 #[] w fun e w' => e = .returned (.bool true) ∧ Below w.heap.size w w'))
    (H2 : Hid (∀ w, Calls Try.prog 16 #[.agg #[.int .i64 a.n, .int .i64 a.d], .agg #[.int .i64 b.n, .int .i64 b.d]] w fun e w' => e = .returned (.tuple #[.agg #[.int .i64 s.n, .int .i64 s.d], .int .i64 0]) ∧ Below w.heap.size w w'))
    (H3 : Hid (∀ w, Calls Try.prog 20 #[.agg #[.int .i64 a.n, .int .i64 a.d], .agg #[.int .i64 b.n, .int .i64 b.d]] w fun e w' => e = .returned (.tuple #[.agg #[.int .i64 p.n, .int .i64 p.d], .int .i64 0]) ∧ Below w.heap.size w w'))
    (H4 : Hid (∀ w, Calls Try.prog 9 #[.agg #[.int .i64 a.n, .int .i64 a.d]] w fun e w' => e = .returned (.bool true) ∧ Below w.heap.size w w'))
    (H5 : Hid (∀ w, Calls Try.prog 9 #[.agg #[.int .i64 b.n, .int .i64 b.d]] w fun e w' => e = .returned (.bool true) ∧ Below w.heap.size w w'))
    (H6 : Hid (∀ w, Calls Try.prog 18 #[.agg #[.int .i64 s.n, .int .i64 s.d], .agg #[.int .i64 b.n, .int .i64 b.d]] w fun e w' => e = .returned (.tuple #[.agg #[.int .i64 a.n, .int .i64 a.d], .int .i64 0]) ∧ Below w.heap.size w w'))
    (H7 : Hid (∀ w, Calls Try.prog 9 #[.agg #[.int .i64 s.n, .int .i64 s.d]] w fun e w' => e = .returned (.bool true) ∧ Below w.heap.size w w'))
    (H8 : Hid (∀ w, Calls Try.prog 22 #[.agg #[.int .i64 p.n, .int .i64 p.d], .agg #[.int .i64 b.n, .int .i64 b.d]] w fun e w' => e = .returned (.tuple #[.agg #[.int .i64 a.n, .int .i64 a.d], .int .i64 0]) ∧ Below w.heap.size w w'))
    (H9 : Hid (∀ w, Calls Try.prog 9 #[.agg #[.int .i64 p.n, .int .i64 p.d]] w fun e w' => e = .returned (.bool true) ∧ Below w.heap.size w w'))
    (nz : (b.n == 0) = false)
    : Calls Try.prog 5 #[.agg #[.int .i64 a.n, .int .i64 a.d], .agg #[.int .i64 b.n, .int .i64 b.d]] w fun e w' => e = .returned (.bool true) ∧ Below w.heap.size w w' := by
  obtain ⟨W, hW⟩ : ∃ W, W = Par a b w := ⟨_, rfl⟩
  have hat := par_bx a b w
  rw [← hW] at hat
  obtain ⟨⟨ka, la⟩, ⟨kb, lb⟩, B0⟩ := hat
  unfold Par at hW
  have HW := Lib.hid hW
  clear hW
  have na := World.block_lt_of_cell? W _ ka
  simp only at na
  have nb := World.block_lt_of_cell? W _ kb
  simp only at nb
  go_enter Try.func5, Try.ntmps5
  go_wp2_with fail
  rw [← HW.out]
  refine (H1.out _).mono ?_
  rintro e w1 ⟨rfl, b1⟩
  have s1 : Below W.heap.size W w1 := below_step (by repeat first | exact Below.refl _ _ | refine below_drewN ?_ _ | refine Below.drew ?_ | refine Below.setCell ?_ (by simp <;> omega) _ | refine Below.alloc ?_ (by simp) _) b1 rfl
  have ka' := bx_keep s1 ⟨ka, la⟩
  clear ka la na
  obtain ⟨ka, la⟩ := ka'
  have kb' := bx_keep s1 ⟨kb, lb⟩
  clear kb lb nb
  obtain ⟨kb, lb⟩ := kb'
  have na := World.block_lt_of_cell? w1 _ ka
  simp only at na
  have nb := World.block_lt_of_cell? w1 _ kb
  simp only at nb
  have B1 := Below.trans B0 (s1.mono B0.size)
  go_wp2_with fail
  refine (H2.out _).mono ?_
  rintro e w2 ⟨rfl, b2⟩
  have s2 : Below w1.heap.size w1 w2 := below_step (by repeat first | exact Below.refl _ _ | refine below_drewN ?_ _ | refine Below.drew ?_ | refine Below.setCell ?_ (by simp <;> omega) _ | refine Below.alloc ?_ (by simp) _) b2 rfl
  have ka' := bx_keep s2 ⟨ka, la⟩
  clear ka la na
  obtain ⟨ka, la⟩ := ka'
  have kb' := bx_keep s2 ⟨kb, lb⟩
  clear kb lb nb
  obtain ⟨kb, lb⟩ := kb'
  have na := World.block_lt_of_cell? w2 _ ka
  simp only at na
  have nb := World.block_lt_of_cell? w2 _ kb
  simp only at nb
  have B2 := Below.trans B1 (s2.mono B1.size)
  clear B1
  go_wp2_with fail
  refine (H3.out _).mono ?_
  rintro e w3 ⟨rfl, b3⟩
  have s3 : Below w2.heap.size w2 w3 := below_step (by repeat first | exact Below.refl _ _ | refine below_drewN ?_ _ | refine Below.drew ?_ | refine Below.setCell ?_ (by simp <;> omega) _ | refine Below.alloc ?_ (by simp) _) b3 rfl
  have ka' := bx_keep s3 ⟨ka, la⟩
  clear ka la na
  obtain ⟨ka, la⟩ := ka'
  have kb' := bx_keep s3 ⟨kb, lb⟩
  clear kb lb nb
  obtain ⟨kb, lb⟩ := kb'
  obtain ⟨ks1, ls1⟩ := bx_new b3 (by simp)
  have na := World.block_lt_of_cell? w3 _ ka
  simp only at na
  have nb := World.block_lt_of_cell? w3 _ kb
  simp only at nb
  have ns1 := World.block_lt_of_cell? w3 _ ks1
  simp only at ns1
  have B3 := Below.trans B2 (s3.mono B2.size)
  clear B2
  go_wp2_with fail
  refine (H4.out _).mono ?_
  rintro e w4 ⟨rfl, b4⟩
  have s4 : Below w3.heap.size w3 w4 := below_step (by repeat first | exact Below.refl _ _ | refine below_drewN ?_ _ | refine Below.drew ?_ | refine Below.setCell ?_ (by simp <;> omega) _ | refine Below.alloc ?_ (by simp) _) b4 rfl
  have ka' := bx_keep s4 ⟨ka, la⟩
  clear ka la na
  obtain ⟨ka, la⟩ := ka'
  have kb' := bx_keep s4 ⟨kb, lb⟩
  clear kb lb nb
  obtain ⟨kb, lb⟩ := kb'
  have ks1' := bx_keep s4 ⟨ks1, ls1⟩
  clear ks1 ls1 ns1
  obtain ⟨ks1, ls1⟩ := ks1'
  obtain ⟨kp1, lp1⟩ := bx_new b4 (by simp)
  have na := World.block_lt_of_cell? w4 _ ka
  simp only at na
  have nb := World.block_lt_of_cell? w4 _ kb
  simp only at nb
  have ns1 := World.block_lt_of_cell? w4 _ ks1
  simp only at ns1
  have np1 := World.block_lt_of_cell? w4 _ kp1
  simp only at np1
  have B4 := Below.trans B3 (s4.mono B3.size)
  clear B3
  go_wp2_with fail
  refine (H5.out _).mono ?_
  rintro e w5 ⟨rfl, b5⟩
  have s5 : Below w4.heap.size w4 w5 := below_step (by repeat first | exact Below.refl _ _ | refine below_drewN ?_ _ | refine Below.drew ?_ | refine Below.setCell ?_ (by simp <;> omega) _ | refine Below.alloc ?_ (by simp) _) b5 rfl
  have ka' := bx_keep s5 ⟨ka, la⟩
  clear ka la na
  obtain ⟨ka, la⟩ := ka'
  have kb' := bx_keep s5 ⟨kb, lb⟩
  clear kb lb nb
  obtain ⟨kb, lb⟩ := kb'
  have ks1' := bx_keep s5 ⟨ks1, ls1⟩
  clear ks1 ls1 ns1
  obtain ⟨ks1, ls1⟩ := ks1'
  have kp1' := bx_keep s5 ⟨kp1, lp1⟩
  clear kp1 lp1 np1
  obtain ⟨kp1, lp1⟩ := kp1'
  have na := World.block_lt_of_cell? w5 _ ka
  simp only at na
  have nb := World.block_lt_of_cell? w5 _ kb
  simp only at nb
  have ns1 := World.block_lt_of_cell? w5 _ ks1
  simp only at ns1
  have np1 := World.block_lt_of_cell? w5 _ kp1
  simp only at np1
  have B5 := Below.trans B4 (s5.mono B4.size)
  clear B4
  go_wp2_with fail
  refine (H6.out _).mono ?_
  rintro e w6 ⟨rfl, b6⟩
  have s6 : Below w5.heap.size w5 w6 := below_step (by repeat first | exact Below.refl _ _ | refine below_drewN ?_ _ | refine Below.drew ?_ | refine Below.setCell ?_ (by simp <;> omega) _ | refine Below.alloc ?_ (by simp) _) b6 rfl
  have ka' := bx_keep s6 ⟨ka, la⟩
  clear ka la na
  obtain ⟨ka, la⟩ := ka'
  have kb' := bx_keep s6 ⟨kb, lb⟩
  clear kb lb nb
  obtain ⟨kb, lb⟩ := kb'
  have ks1' := bx_keep s6 ⟨ks1, ls1⟩
  clear ks1 ls1 ns1
  obtain ⟨ks1, ls1⟩ := ks1'
  have kp1' := bx_keep s6 ⟨kp1, lp1⟩
  clear kp1 lp1 np1
  obtain ⟨kp1, lp1⟩ := kp1'
  have na := World.block_lt_of_cell? w6 _ ka
  simp only at na
  have nb := World.block_lt_of_cell? w6 _ kb
  simp only at nb
  have ns1 := World.block_lt_of_cell? w6 _ ks1
  simp only at ns1
  have np1 := World.block_lt_of_cell? w6 _ kp1
  simp only at np1
  have B6 := Below.trans B5 (s6.mono B5.size)
  clear B5
  go_wp2_with fail
  refine (H7.out _).mono ?_
  rintro e w7 ⟨rfl, b7⟩
  have s7 : Below w6.heap.size w6 w7 := below_step (by repeat first | exact Below.refl _ _ | refine below_drewN ?_ _ | refine Below.drew ?_ | refine Below.setCell ?_ (by simp <;> omega) _ | refine Below.alloc ?_ (by simp) _) b7 rfl
  have ka' := bx_keep s7 ⟨ka, la⟩
  clear ka la na
  obtain ⟨ka, la⟩ := ka'
  have kb' := bx_keep s7 ⟨kb, lb⟩
  clear kb lb nb
  obtain ⟨kb, lb⟩ := kb'
  have ks1' := bx_keep s7 ⟨ks1, ls1⟩
  clear ks1 ls1 ns1
  obtain ⟨ks1, ls1⟩ := ks1'
  have kp1' := bx_keep s7 ⟨kp1, lp1⟩
  clear kp1 lp1 np1
  obtain ⟨kp1, lp1⟩ := kp1'
  obtain ⟨kx1, lx1⟩ := bx_new b7 (by simp)
  have na := World.block_lt_of_cell? w7 _ ka
  simp only at na
  have nb := World.block_lt_of_cell? w7 _ kb
  simp only at nb
  have ns1 := World.block_lt_of_cell? w7 _ ks1
  simp only at ns1
  have np1 := World.block_lt_of_cell? w7 _ kp1
  simp only at np1
  have nx1 := World.block_lt_of_cell? w7 _ kx1
  simp only at nx1
  have B7 := Below.trans B6 (s7.mono B6.size)
  clear B6
  go_wp2_with fail
  refine (H8.out _).mono ?_
  rintro e w8 ⟨rfl, b8⟩
  have s8 : Below w7.heap.size w7 w8 := below_step (by repeat first | exact Below.refl _ _ | refine below_drewN ?_ _ | refine Below.drew ?_ | refine Below.setCell ?_ (by simp <;> omega) _ | refine Below.alloc ?_ (by simp) _) b8 rfl
  have ka' := bx_keep s8 ⟨ka, la⟩
  clear ka la na
  obtain ⟨ka, la⟩ := ka'
  have kb' := bx_keep s8 ⟨kb, lb⟩
  clear kb lb nb
  obtain ⟨kb, lb⟩ := kb'
  have ks1' := bx_keep s8 ⟨ks1, ls1⟩
  clear ks1 ls1 ns1
  obtain ⟨ks1, ls1⟩ := ks1'
  have kp1' := bx_keep s8 ⟨kp1, lp1⟩
  clear kp1 lp1 np1
  obtain ⟨kp1, lp1⟩ := kp1'
  have kx1' := bx_keep s8 ⟨kx1, lx1⟩
  clear kx1 lx1 nx1
  obtain ⟨kx1, lx1⟩ := kx1'
  have na := World.block_lt_of_cell? w8 _ ka
  simp only at na
  have nb := World.block_lt_of_cell? w8 _ kb
  simp only at nb
  have ns1 := World.block_lt_of_cell? w8 _ ks1
  simp only at ns1
  have np1 := World.block_lt_of_cell? w8 _ kp1
  simp only at np1
  have nx1 := World.block_lt_of_cell? w8 _ kx1
  simp only at nx1
  have B8 := Below.trans B7 (s8.mono B7.size)
  clear B7
  go_wp2_with fail
  refine (H9.out _).mono ?_
  rintro e w9 ⟨rfl, b9⟩
  have s9 : Below w8.heap.size w8 w9 := below_step (by repeat first | exact Below.refl _ _ | refine below_drewN ?_ _ | refine Below.drew ?_ | refine Below.setCell ?_ (by simp <;> omega) _ | refine Below.alloc ?_ (by simp) _) b9 rfl
  have ka' := bx_keep s9 ⟨ka, la⟩
  clear ka la na
  obtain ⟨ka, la⟩ := ka'
  have kb' := bx_keep s9 ⟨kb, lb⟩
  clear kb lb nb
  obtain ⟨kb, lb⟩ := kb'
  have ks1' := bx_keep s9 ⟨ks1, ls1⟩
  clear ks1 ls1 ns1
  obtain ⟨ks1, ls1⟩ := ks1'
  have kp1' := bx_keep s9 ⟨kp1, lp1⟩
  clear kp1 lp1 np1
  obtain ⟨kp1, lp1⟩ := kp1'
  have kx1' := bx_keep s9 ⟨kx1, lx1⟩
  clear kx1 lx1 nx1
  obtain ⟨kx1, lx1⟩ := kx1'
  obtain ⟨kx2, lx2⟩ := bx_new b9 (by simp)
  have na := World.block_lt_of_cell? w9 _ ka
  simp only at na
  have nb := World.block_lt_of_cell? w9 _ kb
  simp only at nb
  have ns1 := World.block_lt_of_cell? w9 _ ks1
  simp only at ns1
  have np1 := World.block_lt_of_cell? w9 _ kp1
  simp only at np1
  have nx1 := World.block_lt_of_cell? w9 _ kx1
  simp only at nx1
  have nx2 := World.block_lt_of_cell? w9 _ kx2
  simp only at nx2
  have B9 := Below.trans B8 (s9.mono B8.size)
  clear B8
  go_wp2_with fail
  go_ret
  exact ⟨rfl, Below.trans B9 (Below.mono (by repeat first | exact Below.refl _ _ | refine below_drewN ?_ _ | refine Below.drew ?_ | refine Below.setCell ?_ (by simp <;> omega) _ | refine Below.alloc ?_ (by simp) _) B9.size)⟩

set_option maxRecDepth 100000 in
set_option maxHeartbeats 4000000 in
theorem back_0z (a b s p : Q) (w : World)
    (H1 : Hid (∀ w, Calls Try.prog 8 #[] w fun e w' => e = .returned (.bool true) ∧ Below w.heap.size w w'))
    (H2 : Hid (∀ w, Calls Try.prog 16 #[.agg #[.int .i64 a.n, .int .i64 a.d], .agg #[.int .i64 b.n, .int .i64 b.d]] w fun e w' => e = .returned (.tuple #[.agg #[.int .i64 s.n, .int .i64 s.d], .int .i64 0]) ∧ Below w.heap.size w w'))
    (H3 : Hid (∀ w, Calls Try.prog 20 #[.agg #[.int .i64 a.n, .int .i64 a.d], .agg #[.int .i64 b.n, .int .i64 b.d]] w fun e w' => e = .returned (.tuple #[.agg #[.int .i64 p.n, .int .i64 p.d], .int .i64 0]) ∧ Below w.heap.size w w'))
    (H4 : Hid (∀ w, Calls Try.prog 9 #[.agg #[.int .i64 a.n, .int .i64 a.d]] w fun e w' => e = .returned (.bool true) ∧ Below w.heap.size w w'))
    (H5 : Hid (∀ w, Calls Try.prog 9 #[.agg #[.int .i64 b.n, .int .i64 b.d]] w fun e w' => e = .returned (.bool true) ∧ Below w.heap.size w w'))
    (H6 : Hid (∀ w, Calls Try.prog 18 #[.agg #[.int .i64 s.n, .int .i64 s.d], .agg #[.int .i64 b.n, .int .i64 b.d]] w fun e w' => e = .returned (.tuple #[.agg #[.int .i64 a.n, .int .i64 a.d], .int .i64 0]) ∧ Below w.heap.size w w'))
    (H7 : Hid (∀ w, Calls Try.prog 9 #[.agg #[.int .i64 s.n, .int .i64 s.d]] w fun e w' => e = .returned (.bool true) ∧ Below w.heap.size w w'))
    (nz : (b.n == 0) = true)
    : Calls Try.prog 5 #[.agg #[.int .i64 a.n, .int .i64 a.d], .agg #[.int .i64 b.n, .int .i64 b.d]] w fun e w' => e = .returned (.bool true) ∧ Below w.heap.size w w' := by
  obtain ⟨W, hW⟩ : ∃ W, W = Par a b w := ⟨_, rfl⟩
  have hat := par_bx a b w
  rw [← hW] at hat
  obtain ⟨⟨ka, la⟩, ⟨kb, lb⟩, B0⟩ := hat
  unfold Par at hW
  have HW := Lib.hid hW
  clear hW
  have na := World.block_lt_of_cell? W _ ka
  simp only at na
  have nb := World.block_lt_of_cell? W _ kb
  simp only at nb
  go_enter Try.func5, Try.ntmps5
  go_wp2_with fail
  rw [← HW.out]
  refine (H1.out _).mono ?_
  rintro e w1 ⟨rfl, b1⟩
  have s1 : Below W.heap.size W w1 := below_step (by repeat first | exact Below.refl _ _ | refine below_drewN ?_ _ | refine Below.drew ?_ | refine Below.setCell ?_ (by simp <;> omega) _ | refine Below.alloc ?_ (by simp) _) b1 rfl
  have ka' := bx_keep s1 ⟨ka, la⟩
  clear ka la na
  obtain ⟨ka, la⟩ := ka'
  have kb' := bx_keep s1 ⟨kb, lb⟩
  clear kb lb nb
  obtain ⟨kb, lb⟩ := kb'
  have na := World.block_lt_of_cell? w1 _ ka
  simp only at na
  have nb := World.block_lt_of_cell? w1 _ kb
  simp only at nb
  have B1 := Below.trans B0 (s1.mono B0.size)
  go_wp2_with fail
  refine (H2.out _).mono ?_
  rintro e w2 ⟨rfl, b2⟩
  have s2 : Below w1.heap.size w1 w2 := below_step (by repeat first | exact Below.refl _ _ | refine below_drewN ?_ _ | refine Below.drew ?_ | refine Below.setCell ?_ (by simp <;> omega) _ | refine Below.alloc ?_ (by simp) _) b2 rfl
  have ka' := bx_keep s2 ⟨ka, la⟩
  clear ka la na
  obtain ⟨ka, la⟩ := ka'
  have kb' := bx_keep s2 ⟨kb, lb⟩
  clear kb lb nb
  obtain ⟨kb, lb⟩ := kb'
  have na := World.block_lt_of_cell? w2 _ ka
  simp only at na
  have nb := World.block_lt_of_cell? w2 _ kb
  simp only at nb
  have B2 := Below.trans B1 (s2.mono B1.size)
  clear B1
  go_wp2_with fail
  refine (H3.out _).mono ?_
  rintro e w3 ⟨rfl, b3⟩
  have s3 : Below w2.heap.size w2 w3 := below_step (by repeat first | exact Below.refl _ _ | refine below_drewN ?_ _ | refine Below.drew ?_ | refine Below.setCell ?_ (by simp <;> omega) _ | refine Below.alloc ?_ (by simp) _) b3 rfl
  have ka' := bx_keep s3 ⟨ka, la⟩
  clear ka la na
  obtain ⟨ka, la⟩ := ka'
  have kb' := bx_keep s3 ⟨kb, lb⟩
  clear kb lb nb
  obtain ⟨kb, lb⟩ := kb'
  obtain ⟨ks1, ls1⟩ := bx_new b3 (by simp)
  have na := World.block_lt_of_cell? w3 _ ka
  simp only at na
  have nb := World.block_lt_of_cell? w3 _ kb
  simp only at nb
  have ns1 := World.block_lt_of_cell? w3 _ ks1
  simp only at ns1
  have B3 := Below.trans B2 (s3.mono B2.size)
  clear B2
  go_wp2_with fail
  refine (H4.out _).mono ?_
  rintro e w4 ⟨rfl, b4⟩
  have s4 : Below w3.heap.size w3 w4 := below_step (by repeat first | exact Below.refl _ _ | refine below_drewN ?_ _ | refine Below.drew ?_ | refine Below.setCell ?_ (by simp <;> omega) _ | refine Below.alloc ?_ (by simp) _) b4 rfl
  have ka' := bx_keep s4 ⟨ka, la⟩
  clear ka la na
  obtain ⟨ka, la⟩ := ka'
  have kb' := bx_keep s4 ⟨kb, lb⟩
  clear kb lb nb
  obtain ⟨kb, lb⟩ := kb'
  have ks1' := bx_keep s4 ⟨ks1, ls1⟩
  clear ks1 ls1 ns1
  obtain ⟨ks1, ls1⟩ := ks1'
  obtain ⟨kp1, lp1⟩ := bx_new b4 (by simp)
  have na := World.block_lt_of_cell? w4 _ ka
  simp only at na
  have nb := World.block_lt_of_cell? w4 _ kb
  simp only at nb
  have ns1 := World.block_lt_of_cell? w4 _ ks1
  simp only at ns1
  have np1 := World.block_lt_of_cell? w4 _ kp1
  simp only at np1
  have B4 := Below.trans B3 (s4.mono B3.size)
  clear B3
  go_wp2_with fail
  refine (H5.out _).mono ?_
  rintro e w5 ⟨rfl, b5⟩
  have s5 : Below w4.heap.size w4 w5 := below_step (by repeat first | exact Below.refl _ _ | refine below_drewN ?_ _ | refine Below.drew ?_ | refine Below.setCell ?_ (by simp <;> omega) _ | refine Below.alloc ?_ (by simp) _) b5 rfl
  have ka' := bx_keep s5 ⟨ka, la⟩
  clear ka la na
  obtain ⟨ka, la⟩ := ka'
  have kb' := bx_keep s5 ⟨kb, lb⟩
  clear kb lb nb
  obtain ⟨kb, lb⟩ := kb'
  have ks1' := bx_keep s5 ⟨ks1, ls1⟩
  clear ks1 ls1 ns1
  obtain ⟨ks1, ls1⟩ := ks1'
  have kp1' := bx_keep s5 ⟨kp1, lp1⟩
  clear kp1 lp1 np1
  obtain ⟨kp1, lp1⟩ := kp1'
  have na := World.block_lt_of_cell? w5 _ ka
  simp only at na
  have nb := World.block_lt_of_cell? w5 _ kb
  simp only at nb
  have ns1 := World.block_lt_of_cell? w5 _ ks1
  simp only at ns1
  have np1 := World.block_lt_of_cell? w5 _ kp1
  simp only at np1
  have B5 := Below.trans B4 (s5.mono B4.size)
  clear B4
  go_wp2_with fail
  refine (H6.out _).mono ?_
  rintro e w6 ⟨rfl, b6⟩
  have s6 : Below w5.heap.size w5 w6 := below_step (by repeat first | exact Below.refl _ _ | refine below_drewN ?_ _ | refine Below.drew ?_ | refine Below.setCell ?_ (by simp <;> omega) _ | refine Below.alloc ?_ (by simp) _) b6 rfl
  have ka' := bx_keep s6 ⟨ka, la⟩
  clear ka la na
  obtain ⟨ka, la⟩ := ka'
  have kb' := bx_keep s6 ⟨kb, lb⟩
  clear kb lb nb
  obtain ⟨kb, lb⟩ := kb'
  have ks1' := bx_keep s6 ⟨ks1, ls1⟩
  clear ks1 ls1 ns1
  obtain ⟨ks1, ls1⟩ := ks1'
  have kp1' := bx_keep s6 ⟨kp1, lp1⟩
  clear kp1 lp1 np1
  obtain ⟨kp1, lp1⟩ := kp1'
  have na := World.block_lt_of_cell? w6 _ ka
  simp only at na
  have nb := World.block_lt_of_cell? w6 _ kb
  simp only at nb
  have ns1 := World.block_lt_of_cell? w6 _ ks1
  simp only at ns1
  have np1 := World.block_lt_of_cell? w6 _ kp1
  simp only at np1
  have B6 := Below.trans B5 (s6.mono B5.size)
  clear B5
  go_wp2_with fail
  refine (H7.out _).mono ?_
  rintro e w7 ⟨rfl, b7⟩
  have s7 : Below w6.heap.size w6 w7 := below_step (by repeat first | exact Below.refl _ _ | refine below_drewN ?_ _ | refine Below.drew ?_ | refine Below.setCell ?_ (by simp <;> omega) _ | refine Below.alloc ?_ (by simp) _) b7 rfl
  have ka' := bx_keep s7 ⟨ka, la⟩
  clear ka la na
  obtain ⟨ka, la⟩ := ka'
  have kb' := bx_keep s7 ⟨kb, lb⟩
  clear kb lb nb
  obtain ⟨kb, lb⟩ := kb'
  have ks1' := bx_keep s7 ⟨ks1, ls1⟩
  clear ks1 ls1 ns1
  obtain ⟨ks1, ls1⟩ := ks1'
  have kp1' := bx_keep s7 ⟨kp1, lp1⟩
  clear kp1 lp1 np1
  obtain ⟨kp1, lp1⟩ := kp1'
  obtain ⟨kx1, lx1⟩ := bx_new b7 (by simp)
  have na := World.block_lt_of_cell? w7 _ ka
  simp only at na
  have nb := World.block_lt_of_cell? w7 _ kb
  simp only at nb
  have ns1 := World.block_lt_of_cell? w7 _ ks1
  simp only at ns1
  have np1 := World.block_lt_of_cell? w7 _ kp1
  simp only at np1
  have nx1 := World.block_lt_of_cell? w7 _ kx1
  simp only at nx1
  have B7 := Below.trans B6 (s7.mono B6.size)
  clear B6
  go_wp2_with fail
  go_ret
  exact ⟨rfl, Below.trans B7 (Below.mono (by repeat first | exact Below.refl _ _ | refine below_drewN ?_ _ | refine Below.drew ?_ | refine Below.setCell ?_ (by simp <;> omega) _ | refine Below.alloc ?_ (by simp) _) B7.size)⟩

set_option maxRecDepth 100000 in
set_option maxHeartbeats 4000000 in
theorem back_0x (a b s p : Q) (w : World)
    (H1 : Hid (∀ w, Calls Try.prog 8 #[] w fun e w' => e = .returned (.bool true) ∧ Below w.heap.size w w'))
    (H2 : Hid (∀ w, Calls Try.prog 16 #[.agg #[.int .i64 a.n, .int .i64 a.d], .agg #[.int .i64 b.n, .int .i64 b.d]] w fun e w' => e = .returned (.tuple #[.agg #[.int .i64 s.n, .int .i64 s.d], .int .i64 0]) ∧ Below w.heap.size w w'))
    (H3 : Hid (∀ w, Calls Try.prog 20 #[.agg #[.int .i64 a.n, .int .i64 a.d], .agg #[.int .i64 b.n, .int .i64 b.d]] w fun e w' => e = .returned (.tuple #[.agg #[.int .i64 p.n, .int .i64 p.d], .int .i64 3]) ∧ Below w.heap.size w w'))
    (H4 : Hid (∀ w, Calls Try.prog 9 #[.agg #[.int .i64 a.n, .int .i64 a.d]] w fun e w' => e = .returned (.bool true) ∧ Below w.heap.size w w'))
    (H5 : Hid (∀ w, Calls Try.prog 9 #[.agg #[.int .i64 b.n, .int .i64 b.d]] w fun e w' => e = .returned (.bool true) ∧ Below w.heap.size w w'))
    (H6 : Hid (∀ w, Calls Try.prog 18 #[.agg #[.int .i64 s.n, .int .i64 s.d], .agg #[.int .i64 b.n, .int .i64 b.d]] w fun e w' => e = .returned (.tuple #[.agg #[.int .i64 a.n, .int .i64 a.d], .int .i64 0]) ∧ Below w.heap.size w w'))
    (H7 : Hid (∀ w, Calls Try.prog 9 #[.agg #[.int .i64 s.n, .int .i64 s.d]] w fun e w' => e = .returned (.bool true) ∧ Below w.heap.size w w'))
    : Calls Try.prog 5 #[.agg #[.int .i64 a.n, .int .i64 a.d], .agg #[.int .i64 b.n, .int .i64 b.d]] w fun e w' => e = .returned (.bool true) ∧ Below w.heap.size w w' := by
  obtain ⟨W, hW⟩ : ∃ W, W = Par a b w := ⟨_, rfl⟩
  have hat := par_bx a b w
  rw [← hW] at hat
  obtain ⟨⟨ka, la⟩, ⟨kb, lb⟩, B0⟩ := hat
  unfold Par at hW
  have HW := Lib.hid hW
  clear hW
  have na := World.block_lt_of_cell? W _ ka
  simp only at na
  have nb := World.block_lt_of_cell? W _ kb
  simp only at nb
  go_enter Try.func5, Try.ntmps5
  go_wp2_with fail
  rw [← HW.out]
  refine (H1.out _).mono ?_
  rintro e w1 ⟨rfl, b1⟩
  have s1 : Below W.heap.size W w1 := below_step (by repeat first | exact Below.refl _ _ | refine below_drewN ?_ _ | refine Below.drew ?_ | refine Below.setCell ?_ (by simp <;> omega) _ | refine Below.alloc ?_ (by simp) _) b1 rfl
  have ka' := bx_keep s1 ⟨ka, la⟩
  clear ka la na
  obtain ⟨ka, la⟩ := ka'
  have kb' := bx_keep s1 ⟨kb, lb⟩
  clear kb lb nb
  obtain ⟨kb, lb⟩ := kb'
  have na := World.block_lt_of_cell? w1 _ ka
  simp only at na
  have nb := World.block_lt_of_cell? w1 _ kb
  simp only at nb
  have B1 := Below.trans B0 (s1.mono B0.size)
  go_wp2_with fail
  refine (H2.out _).mono ?_
  rintro e w2 ⟨rfl, b2⟩
  have s2 : Below w1.heap.size w1 w2 := below_step (by repeat first | exact Below.refl _ _ | refine below_drewN ?_ _ | refine Below.drew ?_ | refine Below.setCell ?_ (by simp <;> omega) _ | refine Below.alloc ?_ (by simp) _) b2 rfl
  have ka' := bx_keep s2 ⟨ka, la⟩
  clear ka la na
  obtain ⟨ka, la⟩ := ka'
  have kb' := bx_keep s2 ⟨kb, lb⟩
  clear kb lb nb
  obtain ⟨kb, lb⟩ := kb'
  have na := World.block_lt_of_cell? w2 _ ka
  simp only at na
  have nb := World.block_lt_of_cell? w2 _ kb
  simp only at nb
  have B2 := Below.trans B1 (s2.mono B1.size)
  clear B1
  go_wp2_with fail
  refine (H3.out _).mono ?_
  rintro e w3 ⟨rfl, b3⟩
  have s3 : Below w2.heap.size w2 w3 := below_step (by repeat first | exact Below.refl _ _ | refine below_drewN ?_ _ | refine Below.drew ?_ | refine Below.setCell ?_ (by simp <;> omega) _ | refine Below.alloc ?_ (by simp) _) b3 rfl
  have ka' := bx_keep s3 ⟨ka, la⟩
  clear ka la na
  obtain ⟨ka, la⟩ := ka'
  have kb' := bx_keep s3 ⟨kb, lb⟩
  clear kb lb nb
  obtain ⟨kb, lb⟩ := kb'
  obtain ⟨ks1, ls1⟩ := bx_new b3 (by simp)
  have na := World.block_lt_of_cell? w3 _ ka
  simp only at na
  have nb := World.block_lt_of_cell? w3 _ kb
  simp only at nb
  have ns1 := World.block_lt_of_cell? w3 _ ks1
  simp only at ns1
  have B3 := Below.trans B2 (s3.mono B2.size)
  clear B2
  go_wp2_with fail
  refine (H4.out _).mono ?_
  rintro e w4 ⟨rfl, b4⟩
  have s4 : Below w3.heap.size w3 w4 := below_step (by repeat first | exact Below.refl _ _ | refine below_drewN ?_ _ | refine Below.drew ?_ | refine Below.setCell ?_ (by simp <;> omega) _ | refine Below.alloc ?_ (by simp) _) b4 rfl
  have ka' := bx_keep s4 ⟨ka, la⟩
  clear ka la na
  obtain ⟨ka, la⟩ := ka'
  have kb' := bx_keep s4 ⟨kb, lb⟩
  clear kb lb nb
  obtain ⟨kb, lb⟩ := kb'
  have ks1' := bx_keep s4 ⟨ks1, ls1⟩
  clear ks1 ls1 ns1
  obtain ⟨ks1, ls1⟩ := ks1'
  obtain ⟨kp1, lp1⟩ := bx_new b4 (by simp)
  have na := World.block_lt_of_cell? w4 _ ka
  simp only at na
  have nb := World.block_lt_of_cell? w4 _ kb
  simp only at nb
  have ns1 := World.block_lt_of_cell? w4 _ ks1
  simp only at ns1
  have np1 := World.block_lt_of_cell? w4 _ kp1
  simp only at np1
  have B4 := Below.trans B3 (s4.mono B3.size)
  clear B3
  go_wp2_with fail
  refine (H5.out _).mono ?_
  rintro e w5 ⟨rfl, b5⟩
  have s5 : Below w4.heap.size w4 w5 := below_step (by repeat first | exact Below.refl _ _ | refine below_drewN ?_ _ | refine Below.drew ?_ | refine Below.setCell ?_ (by simp <;> omega) _ | refine Below.alloc ?_ (by simp) _) b5 rfl
  have ka' := bx_keep s5 ⟨ka, la⟩
  clear ka la na
  obtain ⟨ka, la⟩ := ka'
  have kb' := bx_keep s5 ⟨kb, lb⟩
  clear kb lb nb
  obtain ⟨kb, lb⟩ := kb'
  have ks1' := bx_keep s5 ⟨ks1, ls1⟩
  clear ks1 ls1 ns1
  obtain ⟨ks1, ls1⟩ := ks1'
  have kp1' := bx_keep s5 ⟨kp1, lp1⟩
  clear kp1 lp1 np1
  obtain ⟨kp1, lp1⟩ := kp1'
  have na := World.block_lt_of_cell? w5 _ ka
  simp only at na
  have nb := World.block_lt_of_cell? w5 _ kb
  simp only at nb
  have ns1 := World.block_lt_of_cell? w5 _ ks1
  simp only at ns1
  have np1 := World.block_lt_of_cell? w5 _ kp1
  simp only at np1
  have B5 := Below.trans B4 (s5.mono B4.size)
  clear B4
  go_wp2_with fail
  refine (H6.out _).mono ?_
  rintro e w6 ⟨rfl, b6⟩
  have s6 : Below w5.heap.size w5 w6 := below_step (by repeat first | exact Below.refl _ _ | refine below_drewN ?_ _ | refine Below.drew ?_ | refine Below.setCell ?_ (by simp <;> omega) _ | refine Below.alloc ?_ (by simp) _) b6 rfl
  have ka' := bx_keep s6 ⟨ka, la⟩
  clear ka la na
  obtain ⟨ka, la⟩ := ka'
  have kb' := bx_keep s6 ⟨kb, lb⟩
  clear kb lb nb
  obtain ⟨kb, lb⟩ := kb'
  have ks1' := bx_keep s6 ⟨ks1, ls1⟩
  clear ks1 ls1 ns1
  obtain ⟨ks1, ls1⟩ := ks1'
  have kp1' := bx_keep s6 ⟨kp1, lp1⟩
  clear kp1 lp1 np1
  obtain ⟨kp1, lp1⟩ := kp1'
  have na := World.block_lt_of_cell? w6 _ ka
  simp only at na
  have nb := World.block_lt_of_cell? w6 _ kb
  simp only at nb
  have ns1 := World.block_lt_of_cell? w6 _ ks1
  simp only at ns1
  have np1 := World.block_lt_of_cell? w6 _ kp1
  simp only at np1
  have B6 := Below.trans B5 (s6.mono B5.size)
  clear B5
  go_wp2_with fail
  refine (H7.out _).mono ?_
  rintro e w7 ⟨rfl, b7⟩
  have s7 : Below w6.heap.size w6 w7 := below_step (by repeat first | exact Below.refl _ _ | refine below_drewN ?_ _ | refine Below.drew ?_ | refine Below.setCell ?_ (by simp <;> omega) _ | refine Below.alloc ?_ (by simp) _) b7 rfl
  have ka' := bx_keep s7 ⟨ka, la⟩
  clear ka la na
  obtain ⟨ka, la⟩ := ka'
  have kb' := bx_keep s7 ⟨kb, lb⟩
  clear kb lb nb
  obtain ⟨kb, lb⟩ := kb'
  have ks1' := bx_keep s7 ⟨ks1, ls1⟩
  clear ks1 ls1 ns1
  obtain ⟨ks1, ls1⟩ := ks1'
  have kp1' := bx_keep s7 ⟨kp1, lp1⟩
  clear kp1 lp1 np1
  obtain ⟨kp1, lp1⟩ := kp1'
  obtain ⟨kx1, lx1⟩ := bx_new b7 (by simp)
  have na := World.block_lt_of_cell? w7 _ ka
  simp only at na
  have nb := World.block_lt_of_cell? w7 _ kb
  simp only at nb
  have ns1 := World.block_lt_of_cell? w7 _ ks1
  simp only at ns1
  have np1 := World.block_lt_of_cell? w7 _ kp1
  simp only at np1
  have nx1 := World.block_lt_of_cell? w7 _ kx1
  simp only at nx1
  have B7 := Below.trans B6 (s7.mono B6.size)
  clear B6
  go_wp2_with fail
  go_ret
  exact ⟨rfl, Below.trans B7 (Below.mono (by repeat first | exact Below.refl _ _ | refine below_drewN ?_ _ | refine Below.drew ?_ | refine Below.setCell ?_ (by simp <;> omega) _ | refine Below.alloc ?_ (by simp) _) B7.size)⟩

set_option maxRecDepth 100000 in
set_option maxHeartbeats 4000000 in
theorem back_3nz (a b s p : Q) (w : World)
    (H1 : Hid (∀ w, Calls Try.prog 8 #[] w fun e w' => e = .returned (.bool true) ∧ Below w.heap.size w w'))
    (H2 : Hid (∀ w, Calls Try.prog 16 #[.agg #[.int .i64 a.n, .int .i64 a.d], .agg #[.int .i64 b.n, .int .i64 b.d]] w fun e w' => e = .returned (.tuple #[.agg #[.int .i64 s.n, .int .i64 s.d], .int .i64 3]) ∧ Below w.heap.size w w'))
    (H3 : Hid (∀ w, Calls Try.prog 20 #[.agg #[.int .i64 a.n, .int .i64 a.d], .agg #[.int .i64 b.n, .int .i64 b.d]] w fun e w' => e = .returned (.tuple #[.agg #[.int .i64 p.n, .int .i64 p.d], .int .i64 0]) ∧ Below w.heap.size w w'))
    (H4 : Hid (∀ w, Calls Try.prog 9 #[.agg #[.int .i64 a.n, .int .i64 a.d]] w fun e w' => e = .returned (.bool true) ∧ Below w.heap.size w w'))
    (H5 : Hid (∀ w, Calls Try.prog 9 #[.agg #[.int .i64 b.n, .int .i64 b.d]] w fun e w' => e = .returned (.bool true) ∧ Below w.heap.size w w'))
    (H6 : Hid (∀ w, Calls Try.prog 22 #[.agg #[.int .i64 p.n, .int .i64 p.d], .agg #[.int .i64 b.n, .int .i64 b.d]] w fun e w' => e = .returned (.tuple #[.agg #[.int .i64 a.n, .int .i64 a.d], .int .i64 0]) ∧ Below w.heap.size w w'))
    (H7 : Hid (∀ w, Calls Try.prog 9 #[.agg #[.int .i64 p.n, .int .i64 p.d]] w fun e w' => e = .returned (.bool true) ∧ Below w.heap.size w w'))
    (nz : (b.n == 0) = false)
    : Calls Try.prog 5 #[.agg #[.int .i64 a.n, .int .i64 a.d], .agg #[.int .i64 b.n, .int .i64 b.d]] w fun e w' => e = .returned (.bool true) ∧ Below w.heap.size w w' := by
  obtain ⟨W, hW⟩ : ∃ W, W = Par a b w := ⟨_, rfl⟩
  have hat := par_bx a b w
  rw [← hW] at hat
  obtain ⟨⟨ka, la⟩, ⟨kb, lb⟩, B0⟩ := hat
  unfold Par at hW
  have HW := Lib.hid hW
  clear hW
  have na := World.block_lt_of_cell? W _ ka
  simp only at na
  have nb := World.block_lt_of_cell? W _ kb
  simp only at nb
  go_enter Try.func5, Try.ntmps5
  go_wp2_with fail
  rw [← HW.out]
  refine (H1.out _).mono ?_
  rintro e w1 ⟨rfl, b1⟩
  have s1 : Below W.heap.size W w1 := below_step (by repeat first | exact Below.refl _ _ | refine below_drewN ?_ _ | refine Below.drew ?_ | refine Below.setCell ?_ (by simp <;> omega) _ | refine Below.alloc ?_ (by simp) _) b1 rfl
  have ka' := bx_keep s1 ⟨ka, la⟩
  clear ka la na
  obtain ⟨ka, la⟩ := ka'
  have kb' := bx_keep s1 ⟨kb, lb⟩
  clear kb lb nb
  obtain ⟨kb, lb⟩ := kb'
  have na := World.block_lt_of_cell? w1 _ ka
  simp only at na
  have nb := World.block_lt_of_cell? w1 _ kb
  simp only at nb
  have B1 := Below.trans B0 (s1.mono B0.size)
  go_wp2_with fail
  refine (H2.out _).mono ?_
  rintro e w2 ⟨rfl, b2⟩
  have s2 : Below w1.heap.size w1 w2 := below_step (by repeat first | exact Below.refl _ _ | refine below_drewN ?_ _ | refine Below.drew ?_ | refine Below.setCell ?_ (by simp <;> omega) _ | refine Below.alloc ?_ (by simp) _) b2 rfl
  have ka' := bx_keep s2 ⟨ka, la⟩
  clear ka la na
  obtain ⟨ka, la⟩ := ka'
  have kb' := bx_keep s2 ⟨kb, lb⟩
  clear kb lb nb
  obtain ⟨kb, lb⟩ := kb'
  have na := World.block_lt_of_cell? w2 _ ka
  simp only at na
  have nb := World.block_lt_of_cell? w2 _ kb
  simp only at nb
  have B2 := Below.trans B1 (s2.mono B1.size)
  clear B1
  go_wp2_with fail
  refine (H3.out _).mono ?_
  rintro e w3 ⟨rfl, b3⟩
  have s3 : Below w2.heap.size w2 w3 := below_step (by repeat first | exact Below.refl _ _ | refine below_drewN ?_ _ | refine Below.drew ?_ | refine Below.setCell ?_ (by simp <;> omega) _ | refine Below.alloc ?_ (by simp) _) b3 rfl
  have ka' := bx_keep s3 ⟨ka, la⟩
  clear ka la na
  obtain ⟨ka, la⟩ := ka'
  have kb' := bx_keep s3 ⟨kb, lb⟩
  clear kb lb nb
  obtain ⟨kb, lb⟩ := kb'
  obtain ⟨ks1, ls1⟩ := bx_new b3 (by simp)
  have na := World.block_lt_of_cell? w3 _ ka
  simp only at na
  have nb := World.block_lt_of_cell? w3 _ kb
  simp only at nb
  have ns1 := World.block_lt_of_cell? w3 _ ks1
  simp only at ns1
  have B3 := Below.trans B2 (s3.mono B2.size)
  clear B2
  go_wp2_with fail
  refine (H4.out _).mono ?_
  rintro e w4 ⟨rfl, b4⟩
  have s4 : Below w3.heap.size w3 w4 := below_step (by repeat first | exact Below.refl _ _ | refine below_drewN ?_ _ | refine Below.drew ?_ | refine Below.setCell ?_ (by simp <;> omega) _ | refine Below.alloc ?_ (by simp) _) b4 rfl
  have ka' := bx_keep s4 ⟨ka, la⟩
  clear ka la na
  obtain ⟨ka, la⟩ := ka'
  have kb' := bx_keep s4 ⟨kb, lb⟩
  clear kb lb nb
  obtain ⟨kb, lb⟩ := kb'
  have ks1' := bx_keep s4 ⟨ks1, ls1⟩
  clear ks1 ls1 ns1
  obtain ⟨ks1, ls1⟩ := ks1'
  obtain ⟨kp1, lp1⟩ := bx_new b4 (by simp)
  have na := World.block_lt_of_cell? w4 _ ka
  simp only at na
  have nb := World.block_lt_of_cell? w4 _ kb
  simp only at nb
  have ns1 := World.block_lt_of_cell? w4 _ ks1
  simp only at ns1
  have np1 := World.block_lt_of_cell? w4 _ kp1
  simp only at np1
  have B4 := Below.trans B3 (s4.mono B3.size)
  clear B3
  go_wp2_with fail
  refine (H5.out _).mono ?_
  rintro e w5 ⟨rfl, b5⟩
  have s5 : Below w4.heap.size w4 w5 := below_step (by repeat first | exact Below.refl _ _ | refine below_drewN ?_ _ | refine Below.drew ?_ | refine Below.setCell ?_ (by simp <;> omega) _ | refine Below.alloc ?_ (by simp) _) b5 rfl
  have ka' := bx_keep s5 ⟨ka, la⟩
  clear ka la na
  obtain ⟨ka, la⟩ := ka'
  have kb' := bx_keep s5 ⟨kb, lb⟩
  clear kb lb nb
  obtain ⟨kb, lb⟩ := kb'
  have ks1' := bx_keep s5 ⟨ks1, ls1⟩
  clear ks1 ls1 ns1
  obtain ⟨ks1, ls1⟩ := ks1'
  have kp1' := bx_keep s5 ⟨kp1, lp1⟩
  clear kp1 lp1 np1
  obtain ⟨kp1, lp1⟩ := kp1'
  have na := World.block_lt_of_cell? w5 _ ka
  simp only at na
  have nb := World.block_lt_of_cell? w5 _ kb
  simp only at nb
  have ns1 := World.block_lt_of_cell? w5 _ ks1
  simp only at ns1
  have np1 := World.block_lt_of_cell? w5 _ kp1
  simp only at np1
  have B5 := Below.trans B4 (s5.mono B4.size)
  clear B4
  go_wp2_with fail
  refine (H6.out _).mono ?_
  rintro e w6 ⟨rfl, b6⟩
  have s6 : Below w5.heap.size w5 w6 := below_step (by repeat first | exact Below.refl _ _ | refine below_drewN ?_ _ | refine Below.drew ?_ | refine Below.setCell ?_ (by simp <;> omega) _ | refine Below.alloc ?_ (by simp) _) b6 rfl
  have ka' := bx_keep s6 ⟨ka, la⟩
  clear ka la na
  obtain ⟨ka, la⟩ := ka'
  have kb' := bx_keep s6 ⟨kb, lb⟩
  clear kb lb nb
  obtain ⟨kb, lb⟩ := kb'
  have ks1' := bx_keep s6 ⟨ks1, ls1⟩
  clear ks1 ls1 ns1
  obtain ⟨ks1, ls1⟩ := ks1'
  have kp1' := bx_keep s6 ⟨kp1, lp1⟩
  clear kp1 lp1 np1
  obtain ⟨kp1, lp1⟩ := kp1'
  have na := World.block_lt_of_cell? w6 _ ka
  simp only at na
  have nb := World.block_lt_of_cell? w6 _ kb
  simp only at nb
  have ns1 := World.block_lt_of_cell? w6 _ ks1
  simp only at ns1
  have np1 := World.block_lt_of_cell? w6 _ kp1
  simp only at np1
  have B6 := Below.trans B5 (s6.mono B5.size)
  clear B5
  go_wp2_with fail
  refine (H7.out _).mono ?_
  rintro e w7 ⟨rfl, b7⟩
  have s7 : Below w6.heap.size w6 w7 := below_step (by repeat first | exact Below.refl _ _ | refine below_drewN ?_ _ | refine Below.drew ?_ | refine Below.setCell ?_ (by simp <;> omega) _ | refine Below.alloc ?_ (by simp) _) b7 rfl
  have ka' := bx_keep s7 ⟨ka, la⟩
  clear ka la na
  obtain ⟨ka, la⟩ := ka'
  have kb' := bx_keep s7 ⟨kb, lb⟩
  clear kb lb nb
  obtain ⟨kb, lb⟩ := kb'
  have ks1' := bx_keep s7 ⟨ks1, ls1⟩
  clear ks1 ls1 ns1
  obtain ⟨ks1, ls1⟩ := ks1'
  have kp1' := bx_keep s7 ⟨kp1, lp1⟩
  clear kp1 lp1 np1
  obtain ⟨kp1, lp1⟩ := kp1'
  obtain ⟨kx2, lx2⟩ := bx_new b7 (by simp)
  have na := World.block_lt_of_cell? w7 _ ka
  simp only at na
  have nb := World.block_lt_of_cell? w7 _ kb
  simp only at nb
  have ns1 := World.block_lt_of_cell? w7 _ ks1
  simp only at ns1
  have np1 := World.block_lt_of_cell? w7 _ kp1
  simp only at np1
  have nx2 := World.block_lt_of_cell? w7 _ kx2
  simp only at nx2
  have B7 := Below.trans B6 (s7.mono B6.size)
  clear B6
  go_wp2_with fail
  go_ret
  exact ⟨rfl, Below.trans B7 (Below.mono (by repeat first | exact Below.refl _ _ | refine below_drewN ?_ _ | refine Below.drew ?_ | refine Below.setCell ?_ (by simp <;> omega) _ | refine Below.alloc ?_ (by simp) _) B7.size)⟩

set_option maxRecDepth 100000 in
set_option maxHeartbeats 4000000 in
theorem back_3z (a b s p : Q) (w : World)
    (H1 : Hid (∀ w, Calls Try.prog 8 #[] w fun e w' => e = .returned (.bool true) ∧ Below w.heap.size w w'))
    (H2 : Hid (∀ w, Calls Try.prog 16 #[.agg #[.int .i64 a.n, .int .i64 a.d], .agg #[.int .i64 b.n, .int .i64 b.d]] w fun e w' => e = .returned (.tuple #[.agg #[.int .i64 s.n, .int .i64 s.d], .int .i64 3]) ∧ Below w.heap.size w w'))
    (H3 : Hid (∀ w, Calls Try.prog 20 #[.agg #[.int .i64 a.n, .int .i64 a.d], .agg #[.int .i64 b.n, .int .i64 b.d]] w fun e w' => e = .returned (.tuple #[.agg #[.int .i64 p.n, .int .i64 p.d], .int .i64 0]) ∧ Below w.heap.size w w'))
    (H4 : Hid (∀ w, Calls Try.prog 9 #[.agg #[.int .i64 a.n, .int .i64 a.d]] w fun e w' => e = .returned (.bool true) ∧ Below w.heap.size w w'))
    (H5 : Hid (∀ w, Calls Try.prog 9 #[.agg #[.int .i64 b.n, .int .i64 b.d]] w fun e w' => e = .returned (.bool true) ∧ Below w.heap.size w w'))
    (nz : (b.n == 0) = true)
    : Calls Try.prog 5 #[.agg #[.int .i64 a.n, .int .i64 a.d], .agg #[.int .i64 b.n, .int .i64 b.d]] w fun e w' => e = .returned (.bool true) ∧ Below w.heap.size w w' := by
  obtain ⟨W, hW⟩ : ∃ W, W = Par a b w := ⟨_, rfl⟩
  have hat := par_bx a b w
  rw [← hW] at hat
  obtain ⟨⟨ka, la⟩, ⟨kb, lb⟩, B0⟩ := hat
  unfold Par at hW
  have HW := Lib.hid hW
  clear hW
  have na := World.block_lt_of_cell? W _ ka
  simp only at na
  have nb := World.block_lt_of_cell? W _ kb
  simp only at nb
  go_enter Try.func5, Try.ntmps5
  go_wp2_with fail
  rw [← HW.out]
  refine (H1.out _).mono ?_
  rintro e w1 ⟨rfl, b1⟩
  have s1 : Below W.heap.size W w1 := below_step (by repeat first | exact Below.refl _ _ | refine below_drewN ?_ _ | refine Below.drew ?_ | refine Below.setCell ?_ (by simp <;> omega) _ | refine Below.alloc ?_ (by simp) _) b1 rfl
  have ka' := bx_keep s1 ⟨ka, la⟩
  clear ka la na
  obtain ⟨ka, la⟩ := ka'
  have kb' := bx_keep s1 ⟨kb, lb⟩
  clear kb lb nb
  obtain ⟨kb, lb⟩ := kb'
  have na := World.block_lt_of_cell? w1 _ ka
  simp only at na
  have nb := World.block_lt_of_cell? w1 _ kb
  simp only at nb
  have B1 := Below.trans B0 (s1.mono B0.size)
  go_wp2_with fail
  refine (H2.out _).mono ?_
  rintro e w2 ⟨rfl, b2⟩
  have s2 : Below w1.heap.size w1 w2 := below_step (by repeat first | exact Below.refl _ _ | refine below_drewN ?_ _ | refine Below.drew ?_ | refine Below.setCell ?_ (by simp <;> omega) _ | refine Below.alloc ?_ (by simp) _) b2 rfl
  have ka' := bx_keep s2 ⟨ka, la⟩
  clear ka la na
  obtain ⟨ka, la⟩ := ka'
  have kb' := bx_keep s2 ⟨kb, lb⟩
  clear kb lb nb
  obtain ⟨kb, lb⟩ := kb'
  have na := World.block_lt_of_cell? w2 _ ka
  simp only at na
  have nb := World.block_lt_of_cell? w2 _ kb
  simp only at nb
  have B2 := Below.trans B1 (s2.mono B1.size)
  clear B1
  go_wp2_with fail
  refine (H3.out _).mono ?_
  rintro e w3 ⟨rfl, b3⟩
  have s3 : Below w2.heap.size w2 w3 := below_step (by repeat first | exact Below.refl _ _ | refine below_drewN ?_ _ | refine Below.drew ?_ | refine Below.setCell ?_ (by simp <;> omega) _ | refine Below.alloc ?_ (by simp) _) b3 rfl
  have ka' := bx_keep s3 ⟨ka, la⟩
  clear ka la na
  obtain ⟨ka, la⟩ := ka'
  have kb' := bx_keep s3 ⟨kb, lb⟩
  clear kb lb nb
  obtain ⟨kb, lb⟩ := kb'
  obtain ⟨ks1, ls1⟩ := bx_new b3 (by simp)
  have na := World.block_lt_of_cell? w3 _ ka
  simp only at na
  have nb := World.block_lt_of_cell? w3 _ kb
  simp only at nb
  have ns1 := World.block_lt_of_cell? w3 _ ks1
  simp only at ns1
  have B3 := Below.trans B2 (s3.mono B2.size)
  clear B2
  go_wp2_with fail
  refine (H4.out _).mono ?_
  rintro e w4 ⟨rfl, b4⟩
  have s4 : Below w3.heap.size w3 w4 := below_step (by repeat first | exact Below.refl _ _ | refine below_drewN ?_ _ | refine Below.drew ?_ | refine Below.setCell ?_ (by simp <;> omega) _ | refine Below.alloc ?_ (by simp) _) b4 rfl
  have ka' := bx_keep s4 ⟨ka, la⟩
  clear ka la na
  obtain ⟨ka, la⟩ := ka'
  have kb' := bx_keep s4 ⟨kb, lb⟩
  clear kb lb nb
  obtain ⟨kb, lb⟩ := kb'
  have ks1' := bx_keep s4 ⟨ks1, ls1⟩
  clear ks1 ls1 ns1
  obtain ⟨ks1, ls1⟩ := ks1'
  obtain ⟨kp1, lp1⟩ := bx_new b4 (by simp)
  have na := World.block_lt_of_cell? w4 _ ka
  simp only at na
  have nb := World.block_lt_of_cell? w4 _ kb
  simp only at nb
  have ns1 := World.block_lt_of_cell? w4 _ ks1
  simp only at ns1
  have np1 := World.block_lt_of_cell? w4 _ kp1
  simp only at np1
  have B4 := Below.trans B3 (s4.mono B3.size)
  clear B3
  go_wp2_with fail
  refine (H5.out _).mono ?_
  rintro e w5 ⟨rfl, b5⟩
  have s5 : Below w4.heap.size w4 w5 := below_step (by repeat first | exact Below.refl _ _ | refine below_drewN ?_ _ | refine Below.drew ?_ | refine Below.setCell ?_ (by simp <;> omega) _ | refine Below.alloc ?_ (by simp) _) b5 rfl
  have ka' := bx_keep s5 ⟨ka, la⟩
  clear ka la na
  obtain ⟨ka, la⟩ := ka'
  have kb' := bx_keep s5 ⟨kb, lb⟩
  clear kb lb nb
  obtain ⟨kb, lb⟩ := kb'
  have ks1' := bx_keep s5 ⟨ks1, ls1⟩
  clear ks1 ls1 ns1
  obtain ⟨ks1, ls1⟩ := ks1'
  have kp1' := bx_keep s5 ⟨kp1, lp1⟩
  clear kp1 lp1 np1
  obtain ⟨kp1, lp1⟩ := kp1'
  have na := World.block_lt_of_cell? w5 _ ka
  simp only at na
  have nb := World.block_lt_of_cell? w5 _ kb
  simp only at nb
  have ns1 := World.block_lt_of_cell? w5 _ ks1
  simp only at ns1
  have np1 := World.block_lt_of_cell? w5 _ kp1
  simp only at np1
  have B5 := Below.trans B4 (s5.mono B4.size)
  clear B4
  go_wp2_with fail
  go_ret
  exact ⟨rfl, Below.trans B5 (Below.mono (by repeat first | exact Below.refl _ _ | refine below_drewN ?_ _ | refine Below.drew ?_ | refine Below.setCell ?_ (by simp <;> omega) _ | refine Below.alloc ?_ (by simp) _) B5.size)⟩

set_option maxRecDepth 100000 in
set_option maxHeartbeats 4000000 in
theorem back_3x (a b s p : Q) (w : World)
    (H1 : Hid (∀ w, Calls Try.prog 8 #[] w fun e w' => e = .returned (.bool true) ∧ Below w.heap.size w w'))
    (H2 : Hid (∀ w, Calls Try.prog 16 #[.agg #[.int .i64 a.n, .int .i64 a.d], .agg #[.int .i64 b.n, .int .i64 b.d]] w fun e w' => e = .returned (.tuple #[.agg #[.int .i64 s.n, .int .i64 s.d], .int .i64 3]) ∧ Below w.heap.size w w'))
    (H3 : Hid (∀ w, Calls Try.prog 20 #[.agg #[.int .i64 a.n, .int .i64 a.d], .agg #[.int .i64 b.n, .int .i64 b.d]] w fun e w' => e = .returned (.tuple #[.agg #[.int .i64 p.n, .int .i64 p.d], .int .i64 3]) ∧ Below w.heap.size w w'))
    (H4 : Hid (∀ w, Calls Try.prog 9 #[.agg #[.int .i64 a.n, .int .i64 a.d]] w fun e w' => e = .returned (.bool true) ∧ Below w.heap.size w w'))
    (H5 : Hid (∀ w, Calls Try.prog 9 #[.agg #[.int .i64 b.n, .int .i64 b.d]] w fun e w' => e = .returned (.bool true) ∧ Below w.heap.size w w'))
    : Calls Try.prog 5 #[.agg #[.int .i64 a.n, .int .i64 a.d], .agg #[.int .i64 b.n, .int .i64 b.d]] w fun e w' => e = .returned (.bool true) ∧ Below w.heap.size w w' := by
  obtain ⟨W, hW⟩ : ∃ W, W = Par a b w := ⟨_, rfl⟩
  have hat := par_bx a b w
  rw [← hW] at hat
  obtain ⟨⟨ka, la⟩, ⟨kb, lb⟩, B0⟩ := hat
  unfold Par at hW
  have HW := Lib.hid hW
  clear hW
  have na := World.block_lt_of_cell? W _ ka
  simp only at na
  have nb := World.block_lt_of_cell? W _ kb
  simp only at nb
  go_enter Try.func5, Try.ntmps5
  go_wp2_with fail
  rw [← HW.out]
  refine (H1.out _).mono ?_
  rintro e w1 ⟨rfl, b1⟩
  have s1 : Below W.heap.size W w1 := below_step (by repeat first | exact Below.refl _ _ | refine below_drewN ?_ _ | refine Below.drew ?_ | refine Below.setCell ?_ (by simp <;> omega) _ | refine Below.alloc ?_ (by simp) _) b1 rfl
  have ka' := bx_keep s1 ⟨ka, la⟩
  clear ka la na
  obtain ⟨ka, la⟩ := ka'
  have kb' := bx_keep s1 ⟨kb, lb⟩
  clear kb lb nb
  obtain ⟨kb, lb⟩ := kb'
  have na := World.block_lt_of_cell? w1 _ ka
  simp only at na
  have nb := World.block_lt_of_cell? w1 _ kb
  simp only at nb
  have B1 := Below.trans B0 (s1.mono B0.size)
  go_wp2_with fail
  refine (H2.out _).mono ?_
  rintro e w2 ⟨rfl, b2⟩
  have s2 : Below w1.heap.size w1 w2 := below_step (by repeat first | exact Below.refl _ _ | refine below_drewN ?_ _ | refine Below.drew ?_ | refine Below.setCell ?_ (by simp <;> omega) _ | refine Below.alloc ?_ (by simp) _) b2 rfl
  have ka' := bx_keep s2 ⟨ka, la⟩
  clear ka la na
  obtain ⟨ka, la⟩ := ka'
  have kb' := bx_keep s2 ⟨kb, lb⟩
  clear kb lb nb
  obtain ⟨kb, lb⟩ := kb'
  have na := World.block_lt_of_cell? w2 _ ka
  simp only at na
  have nb := World.block_lt_of_cell? w2 _ kb
  simp only at nb
  have B2 := Below.trans B1 (s2.mono B1.size)
  clear B1
  go_wp2_with fail
  refine (H3.out _).mono ?_
  rintro e w3 ⟨rfl, b3⟩
  have s3 : Below w2.heap.size w2 w3 := below_step (by repeat first | exact Below.refl _ _ | refine below_drewN ?_ _ | refine Below.drew ?_ | refine Below.setCell ?_ (by simp <;> omega) _ | refine Below.alloc ?_ (by simp) _) b3 rfl
  have ka' := bx_keep s3 ⟨ka, la⟩
  clear ka la na
  obtain ⟨ka, la⟩ := ka'
  have kb' := bx_keep s3 ⟨kb, lb⟩
  clear kb lb nb
  obtain ⟨kb, lb⟩ := kb'
  obtain ⟨ks1, ls1⟩ := bx_new b3 (by simp)
  have na := World.block_lt_of_cell? w3 _ ka
  simp only at na
  have nb := World.block_lt_of_cell? w3 _ kb
  simp only at nb
  have ns1 := World.block_lt_of_cell? w3 _ ks1
  simp only at ns1
  have B3 := Below.trans B2 (s3.mono B2.size)
  clear B2
  go_wp2_with fail
  refine (H4.out _).mono ?_
  rintro e w4 ⟨rfl, b4⟩
  have s4 : Below w3.heap.size w3 w4 := below_step (by repeat first | exact Below.refl _ _ | refine below_drewN ?_ _ | refine Below.drew ?_ | refine Below.setCell ?_ (by simp <;> omega) _ | refine Below.alloc ?_ (by simp) _) b4 rfl
  have ka' := bx_keep s4 ⟨ka, la⟩
  clear ka la na
  obtain ⟨ka, la⟩ := ka'
  have kb' := bx_keep s4 ⟨kb, lb⟩
  clear kb lb nb
  obtain ⟨kb, lb⟩ := kb'
  have ks1' := bx_keep s4 ⟨ks1, ls1⟩
  clear ks1 ls1 ns1
  obtain ⟨ks1, ls1⟩ := ks1'
  obtain ⟨kp1, lp1⟩ := bx_new b4 (by simp)
  have na := World.block_lt_of_cell? w4 _ ka
  simp only at na
  have nb := World.block_lt_of_cell? w4 _ kb
  simp only at nb
  have ns1 := World.block_lt_of_cell? w4 _ ks1
  simp only at ns1
  have np1 := World.block_lt_of_cell? w4 _ kp1
  simp only at np1
  have B4 := Below.trans B3 (s4.mono B3.size)
  clear B3
  go_wp2_with fail
  refine (H5.out _).mono ?_
  rintro e w5 ⟨rfl, b5⟩
  have s5 : Below w4.heap.size w4 w5 := below_step (by repeat first | exact Below.refl _ _ | refine below_drewN ?_ _ | refine Below.drew ?_ | refine Below.setCell ?_ (by simp <;> omega) _ | refine Below.alloc ?_ (by simp) _) b5 rfl
  have ka' := bx_keep s5 ⟨ka, la⟩
  clear ka la na
  obtain ⟨ka, la⟩ := ka'
  have kb' := bx_keep s5 ⟨kb, lb⟩
  clear kb lb nb
  obtain ⟨kb, lb⟩ := kb'
  have ks1' := bx_keep s5 ⟨ks1, ls1⟩
  clear ks1 ls1 ns1
  obtain ⟨ks1, ls1⟩ := ks1'
  have kp1' := bx_keep s5 ⟨kp1, lp1⟩
  clear kp1 lp1 np1
  obtain ⟨kp1, lp1⟩ := kp1'
  have na := World.block_lt_of_cell? w5 _ ka
  simp only at na
  have nb := World.block_lt_of_cell? w5 _ kb
  simp only at nb
  have ns1 := World.block_lt_of_cell? w5 _ ks1
  simp only at ns1
  have np1 := World.block_lt_of_cell? w5 _ kp1
  simp only at np1
  have B5 := Below.trans B4 (s5.mono B4.size)
  clear B4
  go_wp2_with fail
  go_ret
  exact ⟨rfl, Below.trans B5 (Below.mono (by repeat first | exact Below.refl _ _ | refine below_drewN ?_ _ | refine Below.drew ?_ | refine Below.setCell ?_ (by simp <;> omega) _ | refine Below.alloc ?_ (by simp) _) B5.size)⟩

end Go.Proofs.Ytfchbkhgoebagaa
