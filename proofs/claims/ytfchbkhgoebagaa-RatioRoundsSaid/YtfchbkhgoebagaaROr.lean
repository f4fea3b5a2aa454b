/- The walk of RatioOrder. -/
import Derived.Test.YtfchbkhgoebagaaRFa
namespace Go.Proofs.Ytfchbkhgoebagaa
open Go.RowKit Ra

set_option maxRecDepth 100000 in
set_option maxHeartbeats 4000000 in
theorem order_no0 (a b c : Q) (w : World)
    (H1 : Hid (∀ w, Calls Try.prog 8 #[] w fun e w' => e = .returned (.bool true) ∧ Below w.heap.size w w'))
    (H2 : Hid (∀ w, Calls Try.prog 9 #[.agg #[.int .i64 a.n, .int .i64 a.d]] w fun e w' => e = .returned (.bool false) ∧ Below w.heap.size w w'))
    : Calls Try.prog 6 #[.agg #[.int .i64 a.n, .int .i64 a.d], .agg #[.int .i64 b.n, .int .i64 b.d], .agg #[.int .i64 c.n, .int .i64 c.d]] w fun e w' => e = .returned (.bool true) ∧ Below w.heap.size w w' := by
  obtain ⟨W, hW⟩ : ∃ W, W = Tri a b c w := ⟨_, rfl⟩
  have hat := tri_bx a b c w
  rw [← hW] at hat
  obtain ⟨⟨ka, la⟩, ⟨kb, lb⟩, ⟨kc, lc⟩, B0⟩ := hat
  unfold Tri Par at hW
  have HW := Lib.hid hW
  clear hW
  have na := World.block_lt_of_cell? W _ ka
  simp only at na
  have nb := World.block_lt_of_cell? W _ kb
  simp only at nb
  have nc := World.block_lt_of_cell? W _ kc
  simp only at nc
  go_enter Try.func6, Try.ntmps6
  go_wp2_with fail
  rw [← HW.out]
  refine (H1.out _).mono ?_
  rintro e w1 ⟨rfl, b1⟩
  have s1 : Below W.heap.size W w1 := below_step (by repeat first | exact Below.refl _ _ | refine below_drewN ?_ _ | refine Below.drew ?_ | refine Below.setCell ?_ (by simp <;> omega) _ | refine Below.alloc ?_ (by simp) _) b1 rfl
  have ka' := bx_keep s1 ⟨ka, la⟩
  clear ka la na
  obtain ⟨ka, la⟩ := ka'
  have kb' := bx_keep s1 ⟨kb, lb⟩
  clear kb lb nb
  obtain ⟨kb, lb⟩ := kb'
  have kc' := bx_keep s1 ⟨kc, lc⟩
  clear kc lc nc
  obtain ⟨kc, lc⟩ := kc'
  have na := World.block_lt_of_cell? w1 _ ka
  simp only at na
  have nb := World.block_lt_of_cell? w1 _ kb
  simp only at nb
  have nc := World.block_lt_of_cell? w1 _ kc
  simp only at nc
  have B1 := Below.trans B0 (s1.mono B0.size)
  go_wp2_with fail
  refine (H2.out _).mono ?_
  rintro e w2 ⟨rfl, b2⟩
  have s2 : Below w1.heap.size w1 w2 := below_step (by repeat first | exact Below.refl _ _ | refine below_drewN ?_ _ | refine Below.drew ?_ | refine Below.setCell ?_ (by simp <;> omega) _ | refine Below.alloc ?_ (by simp) _) b2 rfl
  have ka' := bx_keep s2 ⟨ka, la⟩
  clear ka la na
  obtain ⟨ka, la⟩ := ka'
  have kb' := bx_keep s2 ⟨kb, lb⟩
  clear kb lb nb
  obtain ⟨kb, lb⟩ := kb'
  have kc' := bx_keep s2 ⟨kc, lc⟩
  clear kc lc nc
  obtain ⟨kc, lc⟩ := kc'
  have na := World.block_lt_of_cell? w2 _ ka
  simp only at na
  have nb := World.block_lt_of_cell? w2 _ kb
  simp only at nb
  have nc := World.block_lt_of_cell? w2 _ kc
  simp only at nc
  have B2 := Below.trans B1 (s2.mono B1.size)
  clear B1
  go_wp2_with fail
  go_ret
  exact ⟨rfl, Below.trans B2 (Below.mono (by repeat first | exact Below.refl _ _ | refine below_drewN ?_ _ | refine Below.drew ?_ | refine Below.setCell ?_ (by simp <;> omega) _ | refine Below.alloc ?_ (by simp) _) B2.size)⟩

set_option maxRecDepth 100000 in
set_option maxHeartbeats 4000000 in
theorem order_no1 (a b c : Q) (w : World)
    (H1 : Hid (∀ w, Calls Try.prog 8 #[] w fun e w' => e = .returned (.bool true) ∧ Below w.heap.size w w'))
    (H2 : Hid (∀ w, Calls Try.prog 9 #[.agg #[.int .i64 a.n, .int .i64 a.d]] w fun e w' => e = .returned (.bool true) ∧ Below w.heap.size w w'))
    (H3 : Hid (∀ w, Calls Try.prog 9 #[.agg #[.int .i64 b.n, .int .i64 b.d]] w fun e w' => e = .returned (.bool false) ∧ Below w.heap.size w w'))
    : Calls Try.prog 6 #[.agg #[.int .i64 a.n, .int .i64 a.d], .agg #[.int .i64 b.n, .int .i64 b.d], .agg #[.int .i64 c.n, .int .i64 c.d]] w fun e w' => e = .returned (.bool true) ∧ Below w.heap.size w w' := by
  obtain ⟨W, hW⟩ : ∃ W, W = Tri a b c w := ⟨_, rfl⟩
  have hat := tri_bx a b c w
  rw [← hW] at hat
  obtain ⟨⟨ka, la⟩, ⟨kb, lb⟩, ⟨kc, lc⟩, B0⟩ := hat
  unfold Tri Par at hW
  have HW := Lib.hid hW
  clear hW
  have na := World.block_lt_of_cell? W _ ka
  simp only at na
  have nb := World.block_lt_of_cell? W _ kb
  simp only at nb
  have nc := World.block_lt_of_cell? W _ kc
  simp only at nc
  go_enter Try.func6, Try.ntmps6
  go_wp2_with fail
  rw [← HW.out]
  refine (H1.out _).mono ?_
  rintro e w1 ⟨rfl, b1⟩
  have s1 : Below W.heap.size W w1 := below_step (by repeat first | exact Below.refl _ _ | refine below_drewN ?_ _ | refine Below.drew ?_ | refine Below.setCell ?_ (by simp <;> omega) _ | refine Below.alloc ?_ (by simp) _) b1 rfl
  have ka' := bx_keep s1 ⟨ka, la⟩
  clear ka la na
  obtain ⟨ka, la⟩ := ka'
  have kb' := bx_keep s1 ⟨kb, lb⟩
  clear kb lb nb
  obtain ⟨kb, lb⟩ := kb'
  have kc' := bx_keep s1 ⟨kc, lc⟩
  clear kc lc nc
  obtain ⟨kc, lc⟩ := kc'
  have na := World.block_lt_of_cell? w1 _ ka
  simp only at na
  have nb := World.block_lt_of_cell? w1 _ kb
  simp only at nb
  have nc := World.block_lt_of_cell? w1 _ kc
  simp only at nc
  have B1 := Below.trans B0 (s1.mono B0.size)
  go_wp2_with fail
  refine (H2.out _).mono ?_
  rintro e w2 ⟨rfl, b2⟩
  have s2 : Below w1.heap.size w1 w2 := below_step (by repeat first | exact Below.refl _ _ | refine below_drewN ?_ _ | refine Below.drew ?_ | refine Below.setCell ?_ (by simp <;> omega) _ | refine Below.alloc ?_ (by simp) _) b2 rfl
  have ka' := bx_keep s2 ⟨ka, la⟩
  clear ka la na
  obtain ⟨ka, la⟩ := ka'
  have kb' := bx_keep s2 ⟨kb, lb⟩
  clear kb lb nb
  obtain ⟨kb, lb⟩ := kb'
  have kc' := bx_keep s2 ⟨kc, lc⟩
  clear kc lc nc
  obtain ⟨kc, lc⟩ := kc'
  have na := World.block_lt_of_cell? w2 _ ka
  simp only at na
  have nb := World.block_lt_of_cell? w2 _ kb
  simp only at nb
  have nc := World.block_lt_of_cell? w2 _ kc
  simp only at nc
  have B2 := Below.trans B1 (s2.mono B1.size)
  clear B1
  go_wp2_with fail
  refine (H3.out _).mono ?_
  rintro e w3 ⟨rfl, b3⟩
  have s3 : Below w2.heap.size w2 w3 := below_step (by repeat first | exact Below.refl _ _ | refine below_drewN ?_ _ | refine Below.drew ?_ | refine Below.setCell ?_ (by simp <;> omega) _ | refine Below.alloc ?_ (by simp) _) b3 rfl
  have ka' := bx_keep s3 ⟨ka, la⟩
  clear ka la na
  obtain ⟨ka, la⟩ := ka'
  have kb' := bx_keep s3 ⟨kb, lb⟩
  clear kb lb nb
  obtain ⟨kb, lb⟩ := kb'
  have kc' := bx_keep s3 ⟨kc, lc⟩
  clear kc lc nc
  obtain ⟨kc, lc⟩ := kc'
  have na := World.block_lt_of_cell? w3 _ ka
  simp only at na
  have nb := World.block_lt_of_cell? w3 _ kb
  simp only at nb
  have nc := World.block_lt_of_cell? w3 _ kc
  simp only at nc
  have B3 := Below.trans B2 (s3.mono B2.size)
  clear B2
  go_wp2_with fail
  go_ret
  exact ⟨rfl, Below.trans B3 (Below.mono (by repeat first | exact Below.refl _ _ | refine below_drewN ?_ _ | refine Below.drew ?_ | refine Below.setCell ?_ (by simp <;> omega) _ | refine Below.alloc ?_ (by simp) _) B3.size)⟩

set_option maxRecDepth 100000 in
set_option maxHeartbeats 4000000 in
theorem order_no2 (a b c : Q) (w : World)
    (H1 : Hid (∀ w, Calls Try.prog 8 #[] w fun e w' => e = .returned (.bool true) ∧ Below w.heap.size w w'))
    (H2 : Hid (∀ w, Calls Try.prog 9 #[.agg #[.int .i64 a.n, .int .i64 a.d]] w fun e w' => e = .returned (.bool true) ∧ Below w.heap.size w w'))
    (H3 : Hid (∀ w, Calls Try.prog 9 #[.agg #[.int .i64 b.n, .int .i64 b.d]] w fun e w' => e = .returned (.bool true) ∧ Below w.heap.size w w'))
    (H4 : Hid (∀ w, Calls Try.prog 9 #[.agg #[.int .i64 c.n, .int .i64 c.d]] w fun e w' => e = .returned (.bool false) ∧ Below w.heap.size w w'))
    : Calls Try.prog 6 #[.agg #[.int .i64 a.n, .int .i64 a.d], .agg #[.int .i64 b.n, .int .i64 b.d], .agg #[.int .i64 c.n, .int .i64 c.d]] w fun e w' => e = .returned (.bool true) ∧ Below w.heap.size w w' := by
  obtain ⟨W, hW⟩ : ∃ W, W = Tri a b c w := ⟨_, rfl⟩
  have hat := tri_bx a b c w
  rw [← hW] at hat
  obtain ⟨⟨ka, la⟩, ⟨kb, lb⟩, ⟨kc, lc⟩, B0⟩ := hat
  unfold Tri Par at hW
  have HW := Lib.hid hW
  clear hW
  have na := World.block_lt_of_cell? W _ ka
  simp only at na
  have nb := World.block_lt_of_cell? W _ kb
  simp only at nb
  have nc := World.block_lt_of_cell? W _ kc
  simp only at nc
  go_enter Try.func6, Try.ntmps6
  go_wp2_with fail
  rw [← HW.out]
  refine (H1.out _).mono ?_
  rintro e w1 ⟨rfl, b1⟩
  have s1 : Below W.heap.size W w1 := below_step (by repeat first | exact Below.refl _ _ | refine below_drewN ?_ _ | refine Below.drew ?_ | refine Below.setCell ?_ (by simp <;> omega) _ | refine Below.alloc ?_ (by simp) _) b1 rfl
  have ka' := bx_keep s1 ⟨ka, la⟩
  clear ka la na
  obtain ⟨ka, la⟩ := ka'
  have kb' := bx_keep s1 ⟨kb, lb⟩
  clear kb lb nb
  obtain ⟨kb, lb⟩ := kb'
  have kc' := bx_keep s1 ⟨kc, lc⟩
  clear kc lc nc
  obtain ⟨kc, lc⟩ := kc'
  have na := World.block_lt_of_cell? w1 _ ka
  simp only at na
  have nb := World.block_lt_of_cell? w1 _ kb
  simp only at nb
  have nc := World.block_lt_of_cell? w1 _ kc
  simp only at nc
  have B1 := Below.trans B0 (s1.mono B0.size)
  go_wp2_with fail
  refine (H2.out _).mono ?_
  rintro e w2 ⟨rfl, b2⟩
  have s2 : Below w1.heap.size w1 w2 := below_step (by repeat first | exact Below.refl _ _ | refine below_drewN ?_ _ | refine Below.drew ?_ | refine Below.setCell ?_ (by simp <;> omega) _ | refine Below.alloc ?_ (by simp) _) b2 rfl
  have ka' := bx_keep s2 ⟨ka, la⟩
  clear ka la na
  obtain ⟨ka, la⟩ := ka'
  have kb' := bx_keep s2 ⟨kb, lb⟩
  clear kb lb nb
  obtain ⟨kb, lb⟩ := kb'
  have kc' := bx_keep s2 ⟨kc, lc⟩
  clear kc lc nc
  obtain ⟨kc, lc⟩ := kc'
  have na := World.block_lt_of_cell? w2 _ ka
  simp only at na
  have nb := World.block_lt_of_cell? w2 _ kb
  simp only at nb
  have nc := World.block_lt_of_cell? w2 _ kc
  simp only at nc
  have B2 := Below.trans B1 (s2.mono B1.size)
  clear B1
  go_wp2_with fail
  refine (H3.out _).mono ?_
  rintro e w3 ⟨rfl, b3⟩
  have s3 : Below w2.heap.size w2 w3 := below_step (by repeat first | exact Below.refl _ _ | refine below_drewN ?_ _ | refine Below.drew ?_ | refine Below.setCell ?_ (by simp <;> omega) _ | refine Below.alloc ?_ (by simp) _) b3 rfl
  have ka' := bx_keep s3 ⟨ka, la⟩
  clear ka la na
  obtain ⟨ka, la⟩ := ka'
  have kb' := bx_keep s3 ⟨kb, lb⟩
  clear kb lb nb
  obtain ⟨kb, lb⟩ := kb'
  have kc' := bx_keep s3 ⟨kc, lc⟩
  clear kc lc nc
  obtain ⟨kc, lc⟩ := kc'
  have na := World.block_lt_of_cell? w3 _ ka
  simp only at na
  have nb := World.block_lt_of_cell? w3 _ kb
  simp only at nb
  have nc := World.block_lt_of_cell? w3 _ kc
  simp only at nc
  have B3 := Below.trans B2 (s3.mono B2.size)
  clear B2
  go_wp2_with fail
  refine (H4.out _).mono ?_
  rintro e w4 ⟨rfl, b4⟩
  have s4 : Below w3.heap.size w3 w4 := below_step (by repeat first | exact Below.refl _ _ | refine below_drewN ?_ _ | refine Below.drew ?_ | refine Below.setCell ?_ (by simp <;> omega) _ | refine Below.alloc ?_ (by simp) _) b4 rfl
  have ka' := bx_keep s4 ⟨ka, la⟩
  clear ka la na
  obtain ⟨ka, la⟩ := ka'
  have kb' := bx_keep s4 ⟨kb, lb⟩
  clear kb lb nb
  obtain ⟨kb, lb⟩ := kb'
  have kc' := bx_keep s4 ⟨kc, lc⟩
  clear kc lc nc
  obtain ⟨kc, lc⟩ := kc'
  have na := World.block_lt_of_cell? w4 _ ka
  simp only at na
  have nb := World.block_lt_of_cell? w4 _ kb
  simp only at nb
  have nc := World.block_lt_of_cell? w4 _ kc
  simp only at nc
  have B4 := Below.trans B3 (s4.mono B3.size)
  clear B3
  go_wp2_with fail
  go_ret
  exact ⟨rfl, Below.trans B4 (Below.mono (by repeat first | exact Below.refl _ _ | refine below_drewN ?_ _ | refine Below.drew ?_ | refine Below.setCell ?_ (by simp <;> omega) _ | refine Below.alloc ?_ (by simp) _) B4.size)⟩

set_option maxRecDepth 100000 in
set_option maxHeartbeats 4000000 in
theorem order_eqy1_0 (a c : Q) (u : Int) (w : World)
    (H1 : Hid (∀ w, Calls Try.prog 8 #[] w fun e w' => e = .returned (.bool true) ∧ Below w.heap.size w w'))
    (H2 : Hid (∀ w, Calls Try.prog 9 #[.agg #[.int .i64 a.n, .int .i64 a.d]] w fun e w' => e = .returned (.bool true) ∧ Below w.heap.size w w'))
    (H3 : Hid (∀ w, Calls Try.prog 9 #[.agg #[.int .i64 a.n, .int .i64 a.d]] w fun e w' => e = .returned (.bool true) ∧ Below w.heap.size w w'))
    (H4 : Hid (∀ w, Calls Try.prog 9 #[.agg #[.int .i64 c.n, .int .i64 c.d]] w fun e w' => e = .returned (.bool true) ∧ Below w.heap.size w w'))
    (H5 : Hid (∀ w, Calls Try.prog 24 #[.agg #[.int .i64 a.n, .int .i64 a.d], .agg #[.int .i64 a.n, .int .i64 a.d]] w fun e w' => e = .returned (.int .i64 (0)) ∧ Below w.heap.size w w'))
    (H6 : Hid (∀ w, Calls Try.prog 24 #[.agg #[.int .i64 a.n, .int .i64 a.d], .agg #[.int .i64 a.n, .int .i64 a.d]] w fun e w' => e = .returned (.int .i64 (0)) ∧ Below w.heap.size w w'))
    (H7 : Hid (∀ w, Calls Try.prog 24 #[.agg #[.int .i64 a.n, .int .i64 a.d], .agg #[.int .i64 c.n, .int .i64 c.d]] w fun e w' => e = .returned (.int .i64 (1)) ∧ Below w.heap.size w w'))
    (H8 : Hid (∀ w, Calls Try.prog 18 #[.agg #[.int .i64 a.n, .int .i64 a.d], .agg #[.int .i64 a.n, .int .i64 a.d]] w fun e w' => e = .returned (.tuple #[.agg #[.int .i64 0, .int .i64 u], .int .i64 0]) ∧ Below w.heap.size w w'))
    : Calls Try.prog 6 #[.agg #[.int .i64 a.n, .int .i64 a.d], .agg #[.int .i64 a.n, .int .i64 a.d], .agg #[.int .i64 c.n, .int .i64 c.d]] w fun e w' => e = .returned (.bool true) ∧ Below w.heap.size w w' := by
  obtain ⟨W, hW⟩ : ∃ W, W = Tri ⟨a.n, a.d⟩ ⟨a.n, a.d⟩ c w := ⟨_, rfl⟩
  have hat := tri_bx ⟨a.n, a.d⟩ ⟨a.n, a.d⟩ c w
  rw [← hW] at hat
  obtain ⟨⟨ka, la⟩, ⟨kb, lb⟩, ⟨kc, lc⟩, B0⟩ := hat
  unfold Tri Par at hW
  simp only at hW
  have HW := Lib.hid hW
  clear hW
  have na := World.block_lt_of_cell? W _ ka
  simp only at na
  have nb := World.block_lt_of_cell? W _ kb
  simp only at nb
  have nc := World.block_lt_of_cell? W _ kc
  simp only at nc
  go_enter Try.func6, Try.ntmps6
  go_wp2_with fail
  rw [← HW.out]
  refine (H1.out _).mono ?_
  rintro e w1 ⟨rfl, b1⟩
  have s1 : Below W.heap.size W w1 := below_step (by repeat first | exact Below.refl _ _ | refine below_drewN ?_ _ | refine Below.drew ?_ | refine Below.setCell ?_ (by simp <;> omega) _ | refine Below.alloc ?_ (by simp) _) b1 rfl
  have ka' := bx_keep s1 ⟨ka, la⟩
  clear ka la na
  obtain ⟨ka, la⟩ := ka'
  have kb' := bx_keep s1 ⟨kb, lb⟩
  clear kb lb nb
  obtain ⟨kb, lb⟩ := kb'
  have kc' := bx_keep s1 ⟨kc, lc⟩
  clear kc lc nc
  obtain ⟨kc, lc⟩ := kc'
  have na := World.block_lt_of_cell? w1 _ ka
  simp only at na
  have nb := World.block_lt_of_cell? w1 _ kb
  simp only at nb
  have nc := World.block_lt_of_cell? w1 _ kc
  simp only at nc
  have B1 := Below.trans B0 (s1.mono B0.size)
  go_wp2_with fail
  refine (H2.out _).mono ?_
  rintro e w2 ⟨rfl, b2⟩
  have s2 : Below w1.heap.size w1 w2 := below_step (by repeat first | exact Below.refl _ _ | refine below_drewN ?_ _ | refine Below.drew ?_ | refine Below.setCell ?_ (by simp <;> omega) _ | refine Below.alloc ?_ (by simp) _) b2 rfl
  have ka' := bx_keep s2 ⟨ka, la⟩
  clear ka la na
  obtain ⟨ka, la⟩ := ka'
  have kb' := bx_keep s2 ⟨kb, lb⟩
  clear kb lb nb
  obtain ⟨kb, lb⟩ := kb'
  have kc' := bx_keep s2 ⟨kc, lc⟩
  clear kc lc nc
  obtain ⟨kc, lc⟩ := kc'
  have na := World.block_lt_of_cell? w2 _ ka
  simp only at na
  have nb := World.block_lt_of_cell? w2 _ kb
  simp only at nb
  have nc := World.block_lt_of_cell? w2 _ kc
  simp only at nc
  have B2 := Below.trans B1 (s2.mono B1.size)
  clear B1
  go_wp2_with fail
  refine (H3.out _).mono ?_
  rintro e w3 ⟨rfl, b3⟩
  have s3 : Below w2.heap.size w2 w3 := below_step (by repeat first | exact Below.refl _ _ | refine below_drewN ?_ _ | refine Below.drew ?_ | refine Below.setCell ?_ (by simp <;> omega) _ | refine Below.alloc ?_ (by simp) _) b3 rfl
  have ka' := bx_keep s3 ⟨ka, la⟩
  clear ka la na
  obtain ⟨ka, la⟩ := ka'
  have kb' := bx_keep s3 ⟨kb, lb⟩
  clear kb lb nb
  obtain ⟨kb, lb⟩ := kb'
  have kc' := bx_keep s3 ⟨kc, lc⟩
  clear kc lc nc
  obtain ⟨kc, lc⟩ := kc'
  have na := World.block_lt_of_cell? w3 _ ka
  simp only at na
  have nb := World.block_lt_of_cell? w3 _ kb
  simp only at nb
  have nc := World.block_lt_of_cell? w3 _ kc
  simp only at nc
  have B3 := Below.trans B2 (s3.mono B2.size)
  clear B2
  go_wp2_with fail
  refine (H4.out _).mono ?_
  rintro e w4 ⟨rfl, b4⟩
  have s4 : Below w3.heap.size w3 w4 := below_step (by repeat first | exact Below.refl _ _ | refine below_drewN ?_ _ | refine Below.drew ?_ | refine Below.setCell ?_ (by simp <;> omega) _ | refine Below.alloc ?_ (by simp) _) b4 rfl
  have ka' := bx_keep s4 ⟨ka, la⟩
  clear ka la na
  obtain ⟨ka, la⟩ := ka'
  have kb' := bx_keep s4 ⟨kb, lb⟩
  clear kb lb nb
  obtain ⟨kb, lb⟩ := kb'
  have kc' := bx_keep s4 ⟨kc, lc⟩
  clear kc lc nc
  obtain ⟨kc, lc⟩ := kc'
  have na := World.block_lt_of_cell? w4 _ ka
  simp only at na
  have nb := World.block_lt_of_cell? w4 _ kb
  simp only at nb
  have nc := World.block_lt_of_cell? w4 _ kc
  simp only at nc
  have B4 := Below.trans B3 (s4.mono B3.size)
  clear B3
  go_wp2_with fail
  refine (H5.out _).mono ?_
  rintro e w5 ⟨rfl, b5⟩
  have s5 : Below w4.heap.size w4 w5 := below_step (by repeat first | exact Below.refl _ _ | refine below_drewN ?_ _ | refine Below.drew ?_ | refine Below.setCell ?_ (by simp <;> omega) _ | refine Below.alloc ?_ (by simp) _) b5 rfl
  have ka' := bx_keep s5 ⟨ka, la⟩
  clear ka la na
  obtain ⟨ka, la⟩ := ka'
  have kb' := bx_keep s5 ⟨kb, lb⟩
  clear kb lb nb
  obtain ⟨kb, lb⟩ := kb'
  have kc' := bx_keep s5 ⟨kc, lc⟩
  clear kc lc nc
  obtain ⟨kc, lc⟩ := kc'
  have na := World.block_lt_of_cell? w5 _ ka
  simp only at na
  have nb := World.block_lt_of_cell? w5 _ kb
  simp only at nb
  have nc := World.block_lt_of_cell? w5 _ kc
  simp only at nc
  have B5 := Below.trans B4 (s5.mono B4.size)
  clear B4
  go_wp2_with fail
  refine (H6.out _).mono ?_
  rintro e w6 ⟨rfl, b6⟩
  have s6 : Below w5.heap.size w5 w6 := below_step (by repeat first | exact Below.refl _ _ | refine below_drewN ?_ _ | refine Below.drew ?_ | refine Below.setCell ?_ (by simp <;> omega) _ | refine Below.alloc ?_ (by simp) _) b6 rfl
  have ka' := bx_keep s6 ⟨ka, la⟩
  clear ka la na
  obtain ⟨ka, la⟩ := ka'
  have kb' := bx_keep s6 ⟨kb, lb⟩
  clear kb lb nb
  obtain ⟨kb, lb⟩ := kb'
  have kc' := bx_keep s6 ⟨kc, lc⟩
  clear kc lc nc
  obtain ⟨kc, lc⟩ := kc'
  have na := World.block_lt_of_cell? w6 _ ka
  simp only at na
  have nb := World.block_lt_of_cell? w6 _ kb
  simp only at nb
  have nc := World.block_lt_of_cell? w6 _ kc
  simp only at nc
  have B6 := Below.trans B5 (s6.mono B5.size)
  clear B5
  go_wp2_with fail
  refine (H7.out _).mono ?_
  rintro e w7 ⟨rfl, b7⟩
  have s7 : Below w6.heap.size w6 w7 := below_step (by repeat first | exact Below.refl _ _ | refine below_drewN ?_ _ | refine Below.drew ?_ | refine Below.setCell ?_ (by simp <;> omega) _ | refine Below.alloc ?_ (by simp) _) b7 rfl
  have ka' := bx_keep s7 ⟨ka, la⟩
  clear ka la na
  obtain ⟨ka, la⟩ := ka'
  have kb' := bx_keep s7 ⟨kb, lb⟩
  clear kb lb nb
  obtain ⟨kb, lb⟩ := kb'
  have kc' := bx_keep s7 ⟨kc, lc⟩
  clear kc lc nc
  obtain ⟨kc, lc⟩ := kc'
  have na := World.block_lt_of_cell? w7 _ ka
  simp only at na
  have nb := World.block_lt_of_cell? w7 _ kb
  simp only at nb
  have nc := World.block_lt_of_cell? w7 _ kc
  simp only at nc
  have B7 := Below.trans B6 (s7.mono B6.size)
  clear B6
  go_wp2_with fail
  refine (H8.out _).mono ?_
  rintro e w8 ⟨rfl, b8⟩
  have s8 : Below w7.heap.size w7 w8 := below_step (by repeat first | exact Below.refl _ _ | refine below_drewN ?_ _ | refine Below.drew ?_ | refine Below.setCell ?_ (by simp <;> omega) _ | refine Below.alloc ?_ (by simp) _) b8 rfl
  have ka' := bx_keep s8 ⟨ka, la⟩
  clear ka la na
  obtain ⟨ka, la⟩ := ka'
  have kb' := bx_keep s8 ⟨kb, lb⟩
  clear kb lb nb
  obtain ⟨kb, lb⟩ := kb'
  have kc' := bx_keep s8 ⟨kc, lc⟩
  clear kc lc nc
  obtain ⟨kc, lc⟩ := kc'
  have na := World.block_lt_of_cell? w8 _ ka
  simp only at na
  have nb := World.block_lt_of_cell? w8 _ kb
  simp only at nb
  have nc := World.block_lt_of_cell? w8 _ kc
  simp only at nc
  have B8 := Below.trans B7 (s8.mono B7.size)
  clear B7
  go_wp2_with fail
  go_ret
  exact ⟨rfl, Below.trans B8 (Below.mono (by repeat first | exact Below.refl _ _ | refine below_drewN ?_ _ | refine Below.drew ?_ | refine Below.setCell ?_ (by simp <;> omega) _ | refine Below.alloc ?_ (by simp) _) B8.size)⟩

set_option maxRecDepth 100000 in
set_option maxHeartbeats 4000000 in
theorem order_eqy1_3 (a c : Q) (dn u : Int) (w : World)
    (H1 : Hid (∀ w, Calls Try.prog 8 #[] w fun e w' => e = .returned (.bool true) ∧ Below w.heap.size w w'))
    (H2 : Hid (∀ w, Calls Try.prog 9 #[.agg #[.int .i64 a.n, .int .i64 a.d]] w fun e w' => e = .returned (.bool true) ∧ Below w.heap.size w w'))
    (H3 : Hid (∀ w, Calls Try.prog 9 #[.agg #[.int .i64 a.n, .int .i64 a.d]] w fun e w' => e = .returned (.bool true) ∧ Below w.heap.size w w'))
    (H4 : Hid (∀ w, Calls Try.prog 9 #[.agg #[.int .i64 c.n, .int .i64 c.d]] w fun e w' => e = .returned (.bool true) ∧ Below w.heap.size w w'))
    (H5 : Hid (∀ w, Calls Try.prog 24 #[.agg #[.int .i64 a.n, .int .i64 a.d], .agg #[.int .i64 a.n, .int .i64 a.d]] w fun e w' => e = .returned (.int .i64 (0)) ∧ Below w.heap.size w w'))
    (H6 : Hid (∀ w, Calls Try.prog 24 #[.agg #[.int .i64 a.n, .int .i64 a.d], .agg #[.int .i64 a.n, .int .i64 a.d]] w fun e w' => e = .returned (.int .i64 (0)) ∧ Below w.heap.size w w'))
    (H7 : Hid (∀ w, Calls Try.prog 24 #[.agg #[.int .i64 a.n, .int .i64 a.d], .agg #[.int .i64 c.n, .int .i64 c.d]] w fun e w' => e = .returned (.int .i64 (1)) ∧ Below w.heap.size w w'))
    (H8 : Hid (∀ w, Calls Try.prog 18 #[.agg #[.int .i64 a.n, .int .i64 a.d], .agg #[.int .i64 a.n, .int .i64 a.d]] w fun e w' => e = .returned (.tuple #[.agg #[.int .i64 dn, .int .i64 u], .int .i64 3]) ∧ Below w.heap.size w w'))
    : Calls Try.prog 6 #[.agg #[.int .i64 a.n, .int .i64 a.d], .agg #[.int .i64 a.n, .int .i64 a.d], .agg #[.int .i64 c.n, .int .i64 c.d]] w fun e w' => e = .returned (.bool true) ∧ Below w.heap.size w w' := by
  obtain ⟨W, hW⟩ : ∃ W, W = Tri ⟨a.n, a.d⟩ ⟨a.n, a.d⟩ c w := ⟨_, rfl⟩
  have hat := tri_bx ⟨a.n, a.d⟩ ⟨a.n, a.d⟩ c w
  rw [← hW] at hat
  obtain ⟨⟨ka, la⟩, ⟨kb, lb⟩, ⟨kc, lc⟩, B0⟩ := hat
  unfold Tri Par at hW
  simp only at hW
  have HW := Lib.hid hW
  clear hW
  have na := World.block_lt_of_cell? W _ ka
  simp only at na
  have nb := World.block_lt_of_cell? W _ kb
  simp only at nb
  have nc := World.block_lt_of_cell? W _ kc
  simp only at nc
  go_enter Try.func6, Try.ntmps6
  go_wp2_with fail
  rw [← HW.out]
  refine (H1.out _).mono ?_
  rintro e w1 ⟨rfl, b1⟩
  have s1 : Below W.heap.size W w1 := below_step (by repeat first | exact Below.refl _ _ | refine below_drewN ?_ _ | refine Below.drew ?_ | refine Below.setCell ?_ (by simp <;> omega) _ | refine Below.alloc ?_ (by simp) _) b1 rfl
  have ka' := bx_keep s1 ⟨ka, la⟩
  clear ka la na
  obtain ⟨ka, la⟩ := ka'
  have kb' := bx_keep s1 ⟨kb, lb⟩
  clear kb lb nb
  obtain ⟨kb, lb⟩ := kb'
  have kc' := bx_keep s1 ⟨kc, lc⟩
  clear kc lc nc
  obtain ⟨kc, lc⟩ := kc'
  have na := World.block_lt_of_cell? w1 _ ka
  simp only at na
  have nb := World.block_lt_of_cell? w1 _ kb
  simp only at nb
  have nc := World.block_lt_of_cell? w1 _ kc
  simp only at nc
  have B1 := Below.trans B0 (s1.mono B0.size)
  go_wp2_with fail
  refine (H2.out _).mono ?_
  rintro e w2 ⟨rfl, b2⟩
  have s2 : Below w1.heap.size w1 w2 := below_step (by repeat first | exact Below.refl _ _ | refine below_drewN ?_ _ | refine Below.drew ?_ | refine Below.setCell ?_ (by simp <;> omega) _ | refine Below.alloc ?_ (by simp) _) b2 rfl
  have ka' := bx_keep s2 ⟨ka, la⟩
  clear ka la na
  obtain ⟨ka, la⟩ := ka'
  have kb' := bx_keep s2 ⟨kb, lb⟩
  clear kb lb nb
  obtain ⟨kb, lb⟩ := kb'
  have kc' := bx_keep s2 ⟨kc, lc⟩
  clear kc lc nc
  obtain ⟨kc, lc⟩ := kc'
  have na := World.block_lt_of_cell? w2 _ ka
  simp only at na
  have nb := World.block_lt_of_cell? w2 _ kb
  simp only at nb
  have nc := World.block_lt_of_cell? w2 _ kc
  simp only at nc
  have B2 := Below.trans B1 (s2.mono B1.size)
  clear B1
  go_wp2_with fail
  refine (H3.out _).mono ?_
  rintro e w3 ⟨rfl, b3⟩
  have s3 : Below w2.heap.size w2 w3 := below_step (by repeat first | exact Below.refl _ _ | refine below_drewN ?_ _ | refine Below.drew ?_ | refine Below.setCell ?_ (by simp <;> omega) _ | refine Below.alloc ?_ (by simp) _) b3 rfl
  have ka' := bx_keep s3 ⟨ka, la⟩
  clear ka la na
  obtain ⟨ka, la⟩ := ka'
  have kb' := bx_keep s3 ⟨kb, lb⟩
  clear kb lb nb
  obtain ⟨kb, lb⟩ := kb'
  have kc' := bx_keep s3 ⟨kc, lc⟩
  clear kc lc nc
  obtain ⟨kc, lc⟩ := kc'
  have na := World.block_lt_of_cell? w3 _ ka
  simp only at na
  have nb := World.block_lt_of_cell? w3 _ kb
  simp only at nb
  have nc := World.block_lt_of_cell? w3 _ kc
  simp only at nc
  have B3 := Below.trans B2 (s3.mono B2.size)
  clear B2
  go_wp2_with fail
  refine (H4.out _).mono ?_
  rintro e w4 ⟨rfl, b4⟩
  have s4 : Below w3.heap.size w3 w4 := below_step (by repeat first | exact Below.refl _ _ | refine below_drewN ?_ _ | refine Below.drew ?_ | refine Below.setCell ?_ (by simp <;> omega) _ | refine Below.alloc ?_ (by simp) _) b4 rfl
  have ka' := bx_keep s4 ⟨ka, la⟩
  clear ka la na
  obtain ⟨ka, la⟩ := ka'
  have kb' := bx_keep s4 ⟨kb, lb⟩
  clear kb lb nb
  obtain ⟨kb, lb⟩ := kb'
  have kc' := bx_keep s4 ⟨kc, lc⟩
  clear kc lc nc
  obtain ⟨kc, lc⟩ := kc'
  have na := World.block_lt_of_cell? w4 _ ka
  simp only at na
  have nb := World.block_lt_of_cell? w4 _ kb
  simp only at nb
  have nc := World.block_lt_of_cell? w4 _ kc
  simp only at nc
  have B4 := Below.trans B3 (s4.mono B3.size)
  clear B3
  go_wp2_with fail
  refine (H5.out _).mono ?_
  rintro e w5 ⟨rfl, b5⟩
  have s5 : Below w4.heap.size w4 w5 := below_step (by repeat first | exact Below.refl _ _ | refine below_drewN ?_ _ | refine Below.drew ?_ | refine Below.setCell ?_ (by simp <;> omega) _ | refine Below.alloc ?_ (by simp) _) b5 rfl
  have ka' := bx_keep s5 ⟨ka, la⟩
  clear ka la na
  obtain ⟨ka, la⟩ := ka'
  have kb' := bx_keep s5 ⟨kb, lb⟩
  clear kb lb nb
  obtain ⟨kb, lb⟩ := kb'
  have kc' := bx_keep s5 ⟨kc, lc⟩
  clear kc lc nc
  obtain ⟨kc, lc⟩ := kc'
  have na := World.block_lt_of_cell? w5 _ ka
  simp only at na
  have nb := World.block_lt_of_cell? w5 _ kb
  simp only at nb
  have nc := World.block_lt_of_cell? w5 _ kc
  simp only at nc
  have B5 := Below.trans B4 (s5.mono B4.size)
  clear B4
  go_wp2_with fail
  refine (H6.out _).mono ?_
  rintro e w6 ⟨rfl, b6⟩
  have s6 : Below w5.heap.size w5 w6 := below_step (by repeat first | exact Below.refl _ _ | refine below_drewN ?_ _ | refine Below.drew ?_ | refine Below.setCell ?_ (by simp <;> omega) _ | refine Below.alloc ?_ (by simp) _) b6 rfl
  have ka' := bx_keep s6 ⟨ka, la⟩
  clear ka la na
  obtain ⟨ka, la⟩ := ka'
  have kb' := bx_keep s6 ⟨kb, lb⟩
  clear kb lb nb
  obtain ⟨kb, lb⟩ := kb'
  have kc' := bx_keep s6 ⟨kc, lc⟩
  clear kc lc nc
  obtain ⟨kc, lc⟩ := kc'
  have na := World.block_lt_of_cell? w6 _ ka
  simp only at na
  have nb := World.block_lt_of_cell? w6 _ kb
  simp only at nb
  have nc := World.block_lt_of_cell? w6 _ kc
  simp only at nc
  have B6 := Below.trans B5 (s6.mono B5.size)
  clear B5
  go_wp2_with fail
  refine (H7.out _).mono ?_
  rintro e w7 ⟨rfl, b7⟩
  have s7 : Below w6.heap.size w6 w7 := below_step (by repeat first | exact Below.refl _ _ | refine below_drewN ?_ _ | refine Below.drew ?_ | refine Below.setCell ?_ (by simp <;> omega) _ | refine Below.alloc ?_ (by simp) _) b7 rfl
  have ka' := bx_keep s7 ⟨ka, la⟩
  clear ka la na
  obtain ⟨ka, la⟩ := ka'
  have kb' := bx_keep s7 ⟨kb, lb⟩
  clear kb lb nb
  obtain ⟨kb, lb⟩ := kb'
  have kc' := bx_keep s7 ⟨kc, lc⟩
  clear kc lc nc
  obtain ⟨kc, lc⟩ := kc'
  have na := World.block_lt_of_cell? w7 _ ka
  simp only at na
  have nb := World.block_lt_of_cell? w7 _ kb
  simp only at nb
  have nc := World.block_lt_of_cell? w7 _ kc
  simp only at nc
  have B7 := Below.trans B6 (s7.mono B6.size)
  clear B6
  go_wp2_with fail
  refine (H8.out _).mono ?_
  rintro e w8 ⟨rfl, b8⟩
  have s8 : Below w7.heap.size w7 w8 := below_step (by repeat first | exact Below.refl _ _ | refine below_drewN ?_ _ | refine Below.drew ?_ | refine Below.setCell ?_ (by simp <;> omega) _ | refine Below.alloc ?_ (by simp) _) b8 rfl
  have ka' := bx_keep s8 ⟨ka, la⟩
  clear ka la na
  obtain ⟨ka, la⟩ := ka'
  have kb' := bx_keep s8 ⟨kb, lb⟩
  clear kb lb nb
  obtain ⟨kb, lb⟩ := kb'
  have kc' := bx_keep s8 ⟨kc, lc⟩
  clear kc lc nc
  obtain ⟨kc, lc⟩ := kc'
  have na := World.block_lt_of_cell? w8 _ ka
  simp only at na
  have nb := World.block_lt_of_cell? w8 _ kb
  simp only at nb
  have nc := World.block_lt_of_cell? w8 _ kc
  simp only at nc
  have B8 := Below.trans B7 (s8.mono B7.size)
  clear B7
  go_wp2_with fail
  go_ret
  exact ⟨rfl, Below.trans B8 (Below.mono (by repeat first | exact Below.refl _ _ | refine below_drewN ?_ _ | refine Below.drew ?_ | refine Below.setCell ?_ (by simp <;> omega) _ | refine Below.alloc ?_ (by simp) _) B8.size)⟩

set_option maxRecDepth 100000 in
set_option maxHeartbeats 4000000 in
theorem order_eqy0_0 (a c : Q) (y z : Int) (u : Int) (w : World)
    (H1 : Hid (∀ w, Calls Try.prog 8 #[] w fun e w' => e = .returned (.bool true) ∧ Below w.heap.size w w'))
    (H2 : Hid (∀ w, Calls Try.prog 9 #[.agg #[.int .i64 a.n, .int .i64 a.d]] w fun e w' => e = .returned (.bool true) ∧ Below w.heap.size w w'))
    (H3 : Hid (∀ w, Calls Try.prog 9 #[.agg #[.int .i64 a.n, .int .i64 a.d]] w fun e w' => e = .returned (.bool true) ∧ Below w.heap.size w w'))
    (H4 : Hid (∀ w, Calls Try.prog 9 #[.agg #[.int .i64 c.n, .int .i64 c.d]] w fun e w' => e = .returned (.bool true) ∧ Below w.heap.size w w'))
    (H5 : Hid (∀ w, Calls Try.prog 24 #[.agg #[.int .i64 a.n, .int .i64 a.d], .agg #[.int .i64 a.n, .int .i64 a.d]] w fun e w' => e = .returned (.int .i64 (0)) ∧ Below w.heap.size w w'))
    (H6 : Hid (∀ w, Calls Try.prog 24 #[.agg #[.int .i64 a.n, .int .i64 a.d], .agg #[.int .i64 a.n, .int .i64 a.d]] w fun e w' => e = .returned (.int .i64 (0)) ∧ Below w.heap.size w w'))
    (H7 : Hid (∀ w, Calls Try.prog 24 #[.agg #[.int .i64 a.n, .int .i64 a.d], .agg #[.int .i64 c.n, .int .i64 c.d]] w fun e w' => e = .returned (.int .i64 y) ∧ Below w.heap.size w w'))
    (H8 : Hid (∀ w, Calls Try.prog 24 #[.agg #[.int .i64 a.n, .int .i64 a.d], .agg #[.int .i64 c.n, .int .i64 c.d]] w fun e w' => e = .returned (.int .i64 z) ∧ Below w.heap.size w w'))
    (H9 : Hid (∀ w, Calls Try.prog 18 #[.agg #[.int .i64 a.n, .int .i64 a.d], .agg #[.int .i64 a.n, .int .i64 a.d]] w fun e w' => e = .returned (.tuple #[.agg #[.int .i64 0, .int .i64 u], .int .i64 0]) ∧ Below w.heap.size w w'))
    (hy : y ≤ 0) (hz : z ≤ 0)
    : Calls Try.prog 6 #[.agg #[.int .i64 a.n, .int .i64 a.d], .agg #[.int .i64 a.n, .int .i64 a.d], .agg #[.int .i64 c.n, .int .i64 c.d]] w fun e w' => e = .returned (.bool true) ∧ Below w.heap.size w w' := by
  obtain ⟨W, hW⟩ : ∃ W, W = Tri ⟨a.n, a.d⟩ ⟨a.n, a.d⟩ c w := ⟨_, rfl⟩
  have hat := tri_bx ⟨a.n, a.d⟩ ⟨a.n, a.d⟩ c w
  rw [← hW] at hat
  obtain ⟨⟨ka, la⟩, ⟨kb, lb⟩, ⟨kc, lc⟩, B0⟩ := hat
  unfold Tri Par at hW
  simp only at hW
  have HW := Lib.hid hW
  clear hW
  have na := World.block_lt_of_cell? W _ ka
  simp only at na
  have nb := World.block_lt_of_cell? W _ kb
  simp only at nb
  have nc := World.block_lt_of_cell? W _ kc
  simp only at nc
  go_enter Try.func6, Try.ntmps6
  go_wp2_with fail
  rw [← HW.out]
  refine (H1.out _).mono ?_
  rintro e w1 ⟨rfl, b1⟩
  have s1 : Below W.heap.size W w1 := below_step (by repeat first | exact Below.refl _ _ | refine below_drewN ?_ _ | refine Below.drew ?_ | refine Below.setCell ?_ (by simp <;> omega) _ | refine Below.alloc ?_ (by simp) _) b1 rfl
  have ka' := bx_keep s1 ⟨ka, la⟩
  clear ka la na
  obtain ⟨ka, la⟩ := ka'
  have kb' := bx_keep s1 ⟨kb, lb⟩
  clear kb lb nb
  obtain ⟨kb, lb⟩ := kb'
  have kc' := bx_keep s1 ⟨kc, lc⟩
  clear kc lc nc
  obtain ⟨kc, lc⟩ := kc'
  have na := World.block_lt_of_cell? w1 _ ka
  simp only at na
  have nb := World.block_lt_of_cell? w1 _ kb
  simp only at nb
  have nc := World.block_lt_of_cell? w1 _ kc
  simp only at nc
  have B1 := Below.trans B0 (s1.mono B0.size)
  go_wp2_with fail
  refine (H2.out _).mono ?_
  rintro e w2 ⟨rfl, b2⟩
  have s2 : Below w1.heap.size w1 w2 := below_step (by repeat first | exact Below.refl _ _ | refine below_drewN ?_ _ | refine Below.drew ?_ | refine Below.setCell ?_ (by simp <;> omega) _ | refine Below.alloc ?_ (by simp) _) b2 rfl
  have ka' := bx_keep s2 ⟨ka, la⟩
  clear ka la na
  obtain ⟨ka, la⟩ := ka'
  have kb' := bx_keep s2 ⟨kb, lb⟩
  clear kb lb nb
  obtain ⟨kb, lb⟩ := kb'
  have kc' := bx_keep s2 ⟨kc, lc⟩
  clear kc lc nc
  obtain ⟨kc, lc⟩ := kc'
  have na := World.block_lt_of_cell? w2 _ ka
  simp only at na
  have nb := World.block_lt_of_cell? w2 _ kb
  simp only at nb
  have nc := World.block_lt_of_cell? w2 _ kc
  simp only at nc
  have B2 := Below.trans B1 (s2.mono B1.size)
  clear B1
  go_wp2_with fail
  refine (H3.out _).mono ?_
  rintro e w3 ⟨rfl, b3⟩
  have s3 : Below w2.heap.size w2 w3 := below_step (by repeat first | exact Below.refl _ _ | refine below_drewN ?_ _ | refine Below.drew ?_ | refine Below.setCell ?_ (by simp <;> omega) _ | refine Below.alloc ?_ (by simp) _) b3 rfl
  have ka' := bx_keep s3 ⟨ka, la⟩
  clear ka la na
  obtain ⟨ka, la⟩ := ka'
  have kb' := bx_keep s3 ⟨kb, lb⟩
  clear kb lb nb
  obtain ⟨kb, lb⟩ := kb'
  have kc' := bx_keep s3 ⟨kc, lc⟩
  clear kc lc nc
  obtain ⟨kc, lc⟩ := kc'
  have na := World.block_lt_of_cell? w3 _ ka
  simp only at na
  have nb := World.block_lt_of_cell? w3 _ kb
  simp only at nb
  have nc := World.block_lt_of_cell? w3 _ kc
  simp only at nc
  have B3 := Below.trans B2 (s3.mono B2.size)
  clear B2
  go_wp2_with fail
  refine (H4.out _).mono ?_
  rintro e w4 ⟨rfl, b4⟩
  have s4 : Below w3.heap.size w3 w4 := below_step (by repeat first | exact Below.refl _ _ | refine below_drewN ?_ _ | refine Below.drew ?_ | refine Below.setCell ?_ (by simp <;> omega) _ | refine Below.alloc ?_ (by simp) _) b4 rfl
  have ka' := bx_keep s4 ⟨ka, la⟩
  clear ka la na
  obtain ⟨ka, la⟩ := ka'
  have kb' := bx_keep s4 ⟨kb, lb⟩
  clear kb lb nb
  obtain ⟨kb, lb⟩ := kb'
  have kc' := bx_keep s4 ⟨kc, lc⟩
  clear kc lc nc
  obtain ⟨kc, lc⟩ := kc'
  have na := World.block_lt_of_cell? w4 _ ka
  simp only at na
  have nb := World.block_lt_of_cell? w4 _ kb
  simp only at nb
  have nc := World.block_lt_of_cell? w4 _ kc
  simp only at nc
  have B4 := Below.trans B3 (s4.mono B3.size)
  clear B3
  go_wp2_with fail
  refine (H5.out _).mono ?_
  rintro e w5 ⟨rfl, b5⟩
  have s5 : Below w4.heap.size w4 w5 := below_step (by repeat first | exact Below.refl _ _ | refine below_drewN ?_ _ | refine Below.drew ?_ | refine Below.setCell ?_ (by simp <;> omega) _ | refine Below.alloc ?_ (by simp) _) b5 rfl
  have ka' := bx_keep s5 ⟨ka, la⟩
  clear ka la na
  obtain ⟨ka, la⟩ := ka'
  have kb' := bx_keep s5 ⟨kb, lb⟩
  clear kb lb nb
  obtain ⟨kb, lb⟩ := kb'
  have kc' := bx_keep s5 ⟨kc, lc⟩
  clear kc lc nc
  obtain ⟨kc, lc⟩ := kc'
  have na := World.block_lt_of_cell? w5 _ ka
  simp only at na
  have nb := World.block_lt_of_cell? w5 _ kb
  simp only at nb
  have nc := World.block_lt_of_cell? w5 _ kc
  simp only at nc
  have B5 := Below.trans B4 (s5.mono B4.size)
  clear B4
  go_wp2_with fail
  refine (H6.out _).mono ?_
  rintro e w6 ⟨rfl, b6⟩
  have s6 : Below w5.heap.size w5 w6 := below_step (by repeat first | exact Below.refl _ _ | refine below_drewN ?_ _ | refine Below.drew ?_ | refine Below.setCell ?_ (by simp <;> omega) _ | refine Below.alloc ?_ (by simp) _) b6 rfl
  have ka' := bx_keep s6 ⟨ka, la⟩
  clear ka la na
  obtain ⟨ka, la⟩ := ka'
  have kb' := bx_keep s6 ⟨kb, lb⟩
  clear kb lb nb
  obtain ⟨kb, lb⟩ := kb'
  have kc' := bx_keep s6 ⟨kc, lc⟩
  clear kc lc nc
  obtain ⟨kc, lc⟩ := kc'
  have na := World.block_lt_of_cell? w6 _ ka
  simp only at na
  have nb := World.block_lt_of_cell? w6 _ kb
  simp only at nb
  have nc := World.block_lt_of_cell? w6 _ kc
  simp only at nc
  have B6 := Below.trans B5 (s6.mono B5.size)
  clear B5
  go_wp2_with fail
  refine (H7.out _).mono ?_
  rintro e w7 ⟨rfl, b7⟩
  have s7 : Below w6.heap.size w6 w7 := below_step (by repeat first | exact Below.refl _ _ | refine below_drewN ?_ _ | refine Below.drew ?_ | refine Below.setCell ?_ (by simp <;> omega) _ | refine Below.alloc ?_ (by simp) _) b7 rfl
  have ka' := bx_keep s7 ⟨ka, la⟩
  clear ka la na
  obtain ⟨ka, la⟩ := ka'
  have kb' := bx_keep s7 ⟨kb, lb⟩
  clear kb lb nb
  obtain ⟨kb, lb⟩ := kb'
  have kc' := bx_keep s7 ⟨kc, lc⟩
  clear kc lc nc
  obtain ⟨kc, lc⟩ := kc'
  have na := World.block_lt_of_cell? w7 _ ka
  simp only at na
  have nb := World.block_lt_of_cell? w7 _ kb
  simp only at nb
  have nc := World.block_lt_of_cell? w7 _ kc
  simp only at nc
  have B7 := Below.trans B6 (s7.mono B6.size)
  clear B6
  go_wp2_with fail
  refine (H8.out _).mono ?_
  rintro e w8 ⟨rfl, b8⟩
  have s8 : Below w7.heap.size w7 w8 := below_step (by repeat first | exact Below.refl _ _ | refine below_drewN ?_ _ | refine Below.drew ?_ | refine Below.setCell ?_ (by simp <;> omega) _ | refine Below.alloc ?_ (by simp) _) b8 rfl
  have ka' := bx_keep s8 ⟨ka, la⟩
  clear ka la na
  obtain ⟨ka, la⟩ := ka'
  have kb' := bx_keep s8 ⟨kb, lb⟩
  clear kb lb nb
  obtain ⟨kb, lb⟩ := kb'
  have kc' := bx_keep s8 ⟨kc, lc⟩
  clear kc lc nc
  obtain ⟨kc, lc⟩ := kc'
  have na := World.block_lt_of_cell? w8 _ ka
  simp only at na
  have nb := World.block_lt_of_cell? w8 _ kb
  simp only at nb
  have nc := World.block_lt_of_cell? w8 _ kc
  simp only at nc
  have B8 := Below.trans B7 (s8.mono B7.size)
  clear B7
  go_wp2_with fail
  refine (H9.out _).mono ?_
  rintro e w9 ⟨rfl, b9⟩
  have s9 : Below w8.heap.size w8 w9 := below_step (by repeat first | exact Below.refl _ _ | refine below_drewN ?_ _ | refine Below.drew ?_ | refine Below.setCell ?_ (by simp <;> omega) _ | refine Below.alloc ?_ (by simp) _) b9 rfl
  have ka' := bx_keep s9 ⟨ka, la⟩
  clear ka la na
  obtain ⟨ka, la⟩ := ka'
  have kb' := bx_keep s9 ⟨kb, lb⟩
  clear kb lb nb
  obtain ⟨kb, lb⟩ := kb'
  have kc' := bx_keep s9 ⟨kc, lc⟩
  clear kc lc nc
  obtain ⟨kc, lc⟩ := kc'
  have na := World.block_lt_of_cell? w9 _ ka
  simp only at na
  have nb := World.block_lt_of_cell? w9 _ kb
  simp only at nb
  have nc := World.block_lt_of_cell? w9 _ kc
  simp only at nc
  have B9 := Below.trans B8 (s9.mono B8.size)
  clear B8
  go_wp2_with fail
  go_ret
  exact ⟨rfl, Below.trans B9 (Below.mono (by repeat first | exact Below.refl _ _ | refine below_drewN ?_ _ | refine Below.drew ?_ | refine Below.setCell ?_ (by simp <;> omega) _ | refine Below.alloc ?_ (by simp) _) B9.size)⟩

set_option maxRecDepth 100000 in
set_option maxHeartbeats 4000000 in
theorem order_eqy0_3 (a c : Q) (y z : Int) (dn u : Int) (w : World)
    (H1 : Hid (∀ w, Calls Try.prog 8 #[] w fun e w' => e = .returned (.bool true) ∧ Below w.heap.size w w'))
    (H2 : Hid (∀ w, Calls Try.prog 9 #[.agg #[.int .i64 a.n, .int .i64 a.d]] w fun e w' => e = .returned (.bool true) ∧ Below w.heap.size w w'))
    (H3 : Hid (∀ w, Calls Try.prog 9 #[.agg #[.int .i64 a.n, .int .i64 a.d]] w fun e w' => e = .returned (.bool true) ∧ Below w.heap.size w w'))
    (H4 : Hid (∀ w, Calls Try.prog 9 #[.agg #[.int .i64 c.n, .int .i64 c.d]] w fun e w' => e = .returned (.bool true) ∧ Below w.heap.size w w'))
    (H5 : Hid (∀ w, Calls Try.prog 24 #[.agg #[.int .i64 a.n, .int .i64 a.d], .agg #[.int .i64 a.n, .int .i64 a.d]] w fun e w' => e = .returned (.int .i64 (0)) ∧ Below w.heap.size w w'))
    (H6 : Hid (∀ w, Calls Try.prog 24 #[.agg #[.int .i64 a.n, .int .i64 a.d], .agg #[.int .i64 a.n, .int .i64 a.d]] w fun e w' => e = .returned (.int .i64 (0)) ∧ Below w.heap.size w w'))
    (H7 : Hid (∀ w, Calls Try.prog 24 #[.agg #[.int .i64 a.n, .int .i64 a.d], .agg #[.int .i64 c.n, .int .i64 c.d]] w fun e w' => e = .returned (.int .i64 y) ∧ Below w.heap.size w w'))
    (H8 : Hid (∀ w, Calls Try.prog 24 #[.agg #[.int .i64 a.n, .int .i64 a.d], .agg #[.int .i64 c.n, .int .i64 c.d]] w fun e w' => e = .returned (.int .i64 z) ∧ Below w.heap.size w w'))
    (H9 : Hid (∀ w, Calls Try.prog 18 #[.agg #[.int .i64 a.n, .int .i64 a.d], .agg #[.int .i64 a.n, .int .i64 a.d]] w fun e w' => e = .returned (.tuple #[.agg #[.int .i64 dn, .int .i64 u], .int .i64 3]) ∧ Below w.heap.size w w'))
    (hy : y ≤ 0) (hz : z ≤ 0)
    : Calls Try.prog 6 #[.agg #[.int .i64 a.n, .int .i64 a.d], .agg #[.int .i64 a.n, .int .i64 a.d], .agg #[.int .i64 c.n, .int .i64 c.d]] w fun e w' => e = .returned (.bool true) ∧ Below w.heap.size w w' := by
  obtain ⟨W, hW⟩ : ∃ W, W = Tri ⟨a.n, a.d⟩ ⟨a.n, a.d⟩ c w := ⟨_, rfl⟩
  have hat := tri_bx ⟨a.n, a.d⟩ ⟨a.n, a.d⟩ c w
  rw [← hW] at hat
  obtain ⟨⟨ka, la⟩, ⟨kb, lb⟩, ⟨kc, lc⟩, B0⟩ := hat
  unfold Tri Par at hW
  simp only at hW
  have HW := Lib.hid hW
  clear hW
  have na := World.block_lt_of_cell? W _ ka
  simp only at na
  have nb := World.block_lt_of_cell? W _ kb
  simp only at nb
  have nc := World.block_lt_of_cell? W _ kc
  simp only at nc
  go_enter Try.func6, Try.ntmps6
  go_wp2_with fail
  rw [← HW.out]
  refine (H1.out _).mono ?_
  rintro e w1 ⟨rfl, b1⟩
  have s1 : Below W.heap.size W w1 := below_step (by repeat first | exact Below.refl _ _ | refine below_drewN ?_ _ | refine Below.drew ?_ | refine Below.setCell ?_ (by simp <;> omega) _ | refine Below.alloc ?_ (by simp) _) b1 rfl
  have ka' := bx_keep s1 ⟨ka, la⟩
  clear ka la na
  obtain ⟨ka, la⟩ := ka'
  have kb' := bx_keep s1 ⟨kb, lb⟩
  clear kb lb nb
  obtain ⟨kb, lb⟩ := kb'
  have kc' := bx_keep s1 ⟨kc, lc⟩
  clear kc lc nc
  obtain ⟨kc, lc⟩ := kc'
  have na := World.block_lt_of_cell? w1 _ ka
  simp only at na
  have nb := World.block_lt_of_cell? w1 _ kb
  simp only at nb
  have nc := World.block_lt_of_cell? w1 _ kc
  simp only at nc
  have B1 := Below.trans B0 (s1.mono B0.size)
  go_wp2_with fail
  refine (H2.out _).mono ?_
  rintro e w2 ⟨rfl, b2⟩
  have s2 : Below w1.heap.size w1 w2 := below_step (by repeat first | exact Below.refl _ _ | refine below_drewN ?_ _ | refine Below.drew ?_ | refine Below.setCell ?_ (by simp <;> omega) _ | refine Below.alloc ?_ (by simp) _) b2 rfl
  have ka' := bx_keep s2 ⟨ka, la⟩
  clear ka la na
  obtain ⟨ka, la⟩ := ka'
  have kb' := bx_keep s2 ⟨kb, lb⟩
  clear kb lb nb
  obtain ⟨kb, lb⟩ := kb'
  have kc' := bx_keep s2 ⟨kc, lc⟩
  clear kc lc nc
  obtain ⟨kc, lc⟩ := kc'
  have na := World.block_lt_of_cell? w2 _ ka
  simp only at na
  have nb := World.block_lt_of_cell? w2 _ kb
  simp only at nb
  have nc := World.block_lt_of_cell? w2 _ kc
  simp only at nc
  have B2 := Below.trans B1 (s2.mono B1.size)
  clear B1
  go_wp2_with fail
  refine (H3.out _).mono ?_
  rintro e w3 ⟨rfl, b3⟩
  have s3 : Below w2.heap.size w2 w3 := below_step (by repeat first | exact Below.refl _ _ | refine below_drewN ?_ _ | refine Below.drew ?_ | refine Below.setCell ?_ (by simp <;> omega) _ | refine Below.alloc ?_ (by simp) _) b3 rfl
  have ka' := bx_keep s3 ⟨ka, la⟩
  clear ka la na
  obtain ⟨ka, la⟩ := ka'
  have kb' := bx_keep s3 ⟨kb, lb⟩
  clear kb lb nb
  obtain ⟨kb, lb⟩ := kb'
  have kc' := bx_keep s3 ⟨kc, lc⟩
  clear kc lc nc
  obtain ⟨kc, lc⟩ := kc'
  have na := World.block_lt_of_cell? w3 _ ka
  simp only at na
  have nb := World.block_lt_of_cell? w3 _ kb
  simp only at nb
  have nc := World.block_lt_of_cell? w3 _ kc
  simp only at nc
  have B3 := Below.trans B2 (s3.mono B2.size)
  clear B2
  go_wp2_with fail
  refine (H4.out _).mono ?_
  rintro e w4 ⟨rfl, b4⟩
  have s4 : Below w3.heap.size w3 w4 := below_step (by repeat first | exact Below.refl _ _ | refine below_drewN ?_ _ | refine Below.drew ?_ | refine Below.setCell ?_ (by simp <;> omega) _ | refine Below.alloc ?_ (by simp) _) b4 rfl
  have ka' := bx_keep s4 ⟨ka, la⟩
  clear ka la na
  obtain ⟨ka, la⟩ := ka'
  have kb' := bx_keep s4 ⟨kb, lb⟩
  clear kb lb nb
  obtain ⟨kb, lb⟩ := kb'
  have kc' := bx_keep s4 ⟨kc, lc⟩
  clear kc lc nc
  obtain ⟨kc, lc⟩ := kc'
  have na := World.block_lt_of_cell? w4 _ ka
  simp only at na
  have nb := World.block_lt_of_cell? w4 _ kb
  simp only at nb
  have nc := World.block_lt_of_cell? w4 _ kc
  simp only at nc
  have B4 := Below.trans B3 (s4.mono B3.size)
  clear B3
  go_wp2_with fail
  refine (H5.out _).mono ?_
  rintro e w5 ⟨rfl, b5⟩
  have s5 : Below w4.heap.size w4 w5 := below_step (by repeat first | exact Below.refl _ _ | refine below_drewN ?_ _ | refine Below.drew ?_ | refine Below.setCell ?_ (by simp <;> omega) _ | refine Below.alloc ?_ (by simp) _) b5 rfl
  have ka' := bx_keep s5 ⟨ka, la⟩
  clear ka la na
  obtain ⟨ka, la⟩ := ka'
  have kb' := bx_keep s5 ⟨kb, lb⟩
  clear kb lb nb
  obtain ⟨kb, lb⟩ := kb'
  have kc' := bx_keep s5 ⟨kc, lc⟩
  clear kc lc nc
  obtain ⟨kc, lc⟩ := kc'
  have na := World.block_lt_of_cell? w5 _ ka
  simp only at na
  have nb := World.block_lt_of_cell? w5 _ kb
  simp only at nb
  have nc := World.block_lt_of_cell? w5 _ kc
  simp only at nc
  have B5 := Below.trans B4 (s5.mono B4.size)
  clear B4
  go_wp2_with fail
  refine (H6.out _).mono ?_
  rintro e w6 ⟨rfl, b6⟩
  have s6 : Below w5.heap.size w5 w6 := below_step (by repeat first | exact Below.refl _ _ | refine below_drewN ?_ _ | refine Below.drew ?_ | refine Below.setCell ?_ (by simp <;> omega) _ | refine Below.alloc ?_ (by simp) _) b6 rfl
  have ka' := bx_keep s6 ⟨ka, la⟩
  clear ka la na
  obtain ⟨ka, la⟩ := ka'
  have kb' := bx_keep s6 ⟨kb, lb⟩
  clear kb lb nb
  obtain ⟨kb, lb⟩ := kb'
  have kc' := bx_keep s6 ⟨kc, lc⟩
  clear kc lc nc
  obtain ⟨kc, lc⟩ := kc'
  have na := World.block_lt_of_cell? w6 _ ka
  simp only at na
  have nb := World.block_lt_of_cell? w6 _ kb
  simp only at nb
  have nc := World.block_lt_of_cell? w6 _ kc
  simp only at nc
  have B6 := Below.trans B5 (s6.mono B5.size)
  clear B5
  go_wp2_with fail
  refine (H7.out _).mono ?_
  rintro e w7 ⟨rfl, b7⟩
  have s7 : Below w6.heap.size w6 w7 := below_step (by repeat first | exact Below.refl _ _ | refine below_drewN ?_ _ | refine Below.drew ?_ | refine Below.setCell ?_ (by simp <;> omega) _ | refine Below.alloc ?_ (by simp) _) b7 rfl
  have ka' := bx_keep s7 ⟨ka, la⟩
  clear ka la na
  obtain ⟨ka, la⟩ := ka'
  have kb' := bx_keep s7 ⟨kb, lb⟩
  clear kb lb nb
  obtain ⟨kb, lb⟩ := kb'
  have kc' := bx_keep s7 ⟨kc, lc⟩
  clear kc lc nc
  obtain ⟨kc, lc⟩ := kc'
  have na := World.block_lt_of_cell? w7 _ ka
  simp only at na
  have nb := World.block_lt_of_cell? w7 _ kb
  simp only at nb
  have nc := World.block_lt_of_cell? w7 _ kc
  simp only at nc
  have B7 := Below.trans B6 (s7.mono B6.size)
  clear B6
  go_wp2_with fail
  refine (H8.out _).mono ?_
  rintro e w8 ⟨rfl, b8⟩
  have s8 : Below w7.heap.size w7 w8 := below_step (by repeat first | exact Below.refl _ _ | refine below_drewN ?_ _ | refine Below.drew ?_ | refine Below.setCell ?_ (by simp <;> omega) _ | refine Below.alloc ?_ (by simp) _) b8 rfl
  have ka' := bx_keep s8 ⟨ka, la⟩
  clear ka la na
  obtain ⟨ka, la⟩ := ka'
  have kb' := bx_keep s8 ⟨kb, lb⟩
  clear kb lb nb
  obtain ⟨kb, lb⟩ := kb'
  have kc' := bx_keep s8 ⟨kc, lc⟩
  clear kc lc nc
  obtain ⟨kc, lc⟩ := kc'
  have na := World.block_lt_of_cell? w8 _ ka
  simp only at na
  have nb := World.block_lt_of_cell? w8 _ kb
  simp only at nb
  have nc := World.block_lt_of_cell? w8 _ kc
  simp only at nc
  have B8 := Below.trans B7 (s8.mono B7.size)
  clear B7
  go_wp2_with fail
  refine (H9.out _).mono ?_
  rintro e w9 ⟨rfl, b9⟩
  have s9 : Below w8.heap.size w8 w9 := below_step (by repeat first | exact Below.refl _ _ | refine below_drewN ?_ _ | refine Below.drew ?_ | refine Below.setCell ?_ (by simp <;> omega) _ | refine Below.alloc ?_ (by simp) _) b9 rfl
  have ka' := bx_keep s9 ⟨ka, la⟩
  clear ka la na
  obtain ⟨ka, la⟩ := ka'
  have kb' := bx_keep s9 ⟨kb, lb⟩
  clear kb lb nb
  obtain ⟨kb, lb⟩ := kb'
  have kc' := bx_keep s9 ⟨kc, lc⟩
  clear kc lc nc
  obtain ⟨kc, lc⟩ := kc'
  have na := World.block_lt_of_cell? w9 _ ka
  simp only at na
  have nb := World.block_lt_of_cell? w9 _ kb
  simp only at nb
  have nc := World.block_lt_of_cell? w9 _ kc
  simp only at nc
  have B9 := Below.trans B8 (s9.mono B8.size)
  clear B8
  go_wp2_with fail
  go_ret
  exact ⟨rfl, Below.trans B9 (Below.mono (by repeat first | exact Below.refl _ _ | refine below_drewN ?_ _ | refine Below.drew ?_ | refine Below.setCell ?_ (by simp <;> omega) _ | refine Below.alloc ?_ (by simp) _) B9.size)⟩

set_option maxRecDepth 100000 in
set_option maxHeartbeats 4000000 in
theorem order_ltny1_0 (a b c : Q) (dn u : Int) (w : World)
    (H1 : Hid (∀ w, Calls Try.prog 8 #[] w fun e w' => e = .returned (.bool true) ∧ Below w.heap.size w w'))
    (H2 : Hid (∀ w, Calls Try.prog 9 #[.agg #[.int .i64 a.n, .int .i64 a.d]] w fun e w' => e = .returned (.bool true) ∧ Below w.heap.size w w'))
    (H3 : Hid (∀ w, Calls Try.prog 9 #[.agg #[.int .i64 b.n, .int .i64 b.d]] w fun e w' => e = .returned (.bool true) ∧ Below w.heap.size w w'))
    (H4 : Hid (∀ w, Calls Try.prog 9 #[.agg #[.int .i64 c.n, .int .i64 c.d]] w fun e w' => e = .returned (.bool true) ∧ Below w.heap.size w w'))
    (H5 : Hid (∀ w, Calls Try.prog 24 #[.agg #[.int .i64 a.n, .int .i64 a.d], .agg #[.int .i64 b.n, .int .i64 b.d]] w fun e w' => e = .returned (.int .i64 (-1)) ∧ Below w.heap.size w w'))
    (H6 : Hid (∀ w, Calls Try.prog 24 #[.agg #[.int .i64 b.n, .int .i64 b.d], .agg #[.int .i64 a.n, .int .i64 a.d]] w fun e w' => e = .returned (.int .i64 (1)) ∧ Below w.heap.size w w'))
    (H7 : Hid (∀ w, Calls Try.prog 24 #[.agg #[.int .i64 b.n, .int .i64 b.d], .agg #[.int .i64 c.n, .int .i64 c.d]] w fun e w' => e = .returned (.int .i64 (1)) ∧ Below w.heap.size w w'))
    (H8 : Hid (∀ w, Calls Try.prog 18 #[.agg #[.int .i64 a.n, .int .i64 a.d], .agg #[.int .i64 b.n, .int .i64 b.d]] w fun e w' => e = .returned (.tuple #[.agg #[.int .i64 dn, .int .i64 u], .int .i64 0]) ∧ Below w.heap.size w w'))
    (ne : ¬ a.n = b.n)
    (hd : decide (dn < 0) = true) (he : decide (0 < dn) = false)
    : Calls Try.prog 6 #[.agg #[.int .i64 a.n, .int .i64 a.d], .agg #[.int .i64 b.n, .int .i64 b.d], .agg #[.int .i64 c.n, .int .i64 c.d]] w fun e w' => e = .returned (.bool true) ∧ Below w.heap.size w w' := by
  obtain ⟨W, hW⟩ : ∃ W, W = Tri a b c w := ⟨_, rfl⟩
  have hat := tri_bx a b c w
  rw [← hW] at hat
  obtain ⟨⟨ka, la⟩, ⟨kb, lb⟩, ⟨kc, lc⟩, B0⟩ := hat
  unfold Tri Par at hW
  have HW := Lib.hid hW
  clear hW
  have na := World.block_lt_of_cell? W _ ka
  simp only at na
  have nb := World.block_lt_of_cell? W _ kb
  simp only at nb
  have nc := World.block_lt_of_cell? W _ kc
  simp only at nc
  go_enter Try.func6, Try.ntmps6
  go_wp2_with fail
  rw [← HW.out]
  refine (H1.out _).mono ?_
  rintro e w1 ⟨rfl, b1⟩
  have s1 : Below W.heap.size W w1 := below_step (by repeat first | exact Below.refl _ _ | refine below_drewN ?_ _ | refine Below.drew ?_ | refine Below.setCell ?_ (by simp <;> omega) _ | refine Below.alloc ?_ (by simp) _) b1 rfl
  have ka' := bx_keep s1 ⟨ka, la⟩
  clear ka la na
  obtain ⟨ka, la⟩ := ka'
  have kb' := bx_keep s1 ⟨kb, lb⟩
  clear kb lb nb
  obtain ⟨kb, lb⟩ := kb'
  have kc' := bx_keep s1 ⟨kc, lc⟩
  clear kc lc nc
  obtain ⟨kc, lc⟩ := kc'
  have na := World.block_lt_of_cell? w1 _ ka
  simp only at na
  have nb := World.block_lt_of_cell? w1 _ kb
  simp only at nb
  have nc := World.block_lt_of_cell? w1 _ kc
  simp only at nc
  have B1 := Below.trans B0 (s1.mono B0.size)
  go_wp2_with fail
  refine (H2.out _).mono ?_
  rintro e w2 ⟨rfl, b2⟩
  have s2 : Below w1.heap.size w1 w2 := below_step (by repeat first | exact Below.refl _ _ | refine below_drewN ?_ _ | refine Below.drew ?_ | refine Below.setCell ?_ (by simp <;> omega) _ | refine Below.alloc ?_ (by simp) _) b2 rfl
  have ka' := bx_keep s2 ⟨ka, la⟩
  clear ka la na
  obtain ⟨ka, la⟩ := ka'
  have kb' := bx_keep s2 ⟨kb, lb⟩
  clear kb lb nb
  obtain ⟨kb, lb⟩ := kb'
  have kc' := bx_keep s2 ⟨kc, lc⟩
  clear kc lc nc
  obtain ⟨kc, lc⟩ := kc'
  have na := World.block_lt_of_cell? w2 _ ka
  simp only at na
  have nb := World.block_lt_of_cell? w2 _ kb
  simp only at nb
  have nc := World.block_lt_of_cell? w2 _ kc
  simp only at nc
  have B2 := Below.trans B1 (s2.mono B1.size)
  clear B1
  go_wp2_with fail
  refine (H3.out _).mono ?_
  rintro e w3 ⟨rfl, b3⟩
  have s3 : Below w2.heap.size w2 w3 := below_step (by repeat first | exact Below.refl _ _ | refine below_drewN ?_ _ | refine Below.drew ?_ | refine Below.setCell ?_ (by simp <;> omega) _ | refine Below.alloc ?_ (by simp) _) b3 rfl
  have ka' := bx_keep s3 ⟨ka, la⟩
  clear ka la na
  obtain ⟨ka, la⟩ := ka'
  have kb' := bx_keep s3 ⟨kb, lb⟩
  clear kb lb nb
  obtain ⟨kb, lb⟩ := kb'
  have kc' := bx_keep s3 ⟨kc, lc⟩
  clear kc lc nc
  obtain ⟨kc, lc⟩ := kc'
  have na := World.block_lt_of_cell? w3 _ ka
  simp only at na
  have nb := World.block_lt_of_cell? w3 _ kb
  simp only at nb
  have nc := World.block_lt_of_cell? w3 _ kc
  simp only at nc
  have B3 := Below.trans B2 (s3.mono B2.size)
  clear B2
  go_wp2_with fail
  refine (H4.out _).mono ?_
  rintro e w4 ⟨rfl, b4⟩
  have s4 : Below w3.heap.size w3 w4 := below_step (by repeat first | exact Below.refl _ _ | refine below_drewN ?_ _ | refine Below.drew ?_ | refine Below.setCell ?_ (by simp <;> omega) _ | refine Below.alloc ?_ (by simp) _) b4 rfl
  have ka' := bx_keep s4 ⟨ka, la⟩
  clear ka la na
  obtain ⟨ka, la⟩ := ka'
  have kb' := bx_keep s4 ⟨kb, lb⟩
  clear kb lb nb
  obtain ⟨kb, lb⟩ := kb'
  have kc' := bx_keep s4 ⟨kc, lc⟩
  clear kc lc nc
  obtain ⟨kc, lc⟩ := kc'
  have na := World.block_lt_of_cell? w4 _ ka
  simp only at na
  have nb := World.block_lt_of_cell? w4 _ kb
  simp only at nb
  have nc := World.block_lt_of_cell? w4 _ kc
  simp only at nc
  have B4 := Below.trans B3 (s4.mono B3.size)
  clear B3
  go_wp2_with fail
  refine (H5.out _).mono ?_
  rintro e w5 ⟨rfl, b5⟩
  have s5 : Below w4.heap.size w4 w5 := below_step (by repeat first | exact Below.refl _ _ | refine below_drewN ?_ _ | refine Below.drew ?_ | refine Below.setCell ?_ (by simp <;> omega) _ | refine Below.alloc ?_ (by simp) _) b5 rfl
  have ka' := bx_keep s5 ⟨ka, la⟩
  clear ka la na
  obtain ⟨ka, la⟩ := ka'
  have kb' := bx_keep s5 ⟨kb, lb⟩
  clear kb lb nb
  obtain ⟨kb, lb⟩ := kb'
  have kc' := bx_keep s5 ⟨kc, lc⟩
  clear kc lc nc
  obtain ⟨kc, lc⟩ := kc'
  have na := World.block_lt_of_cell? w5 _ ka
  simp only at na
  have nb := World.block_lt_of_cell? w5 _ kb
  simp only at nb
  have nc := World.block_lt_of_cell? w5 _ kc
  simp only at nc
  have B5 := Below.trans B4 (s5.mono B4.size)
  clear B4
  go_wp2_with fail
  refine (H6.out _).mono ?_
  rintro e w6 ⟨rfl, b6⟩
  have s6 : Below w5.heap.size w5 w6 := below_step (by repeat first | exact Below.refl _ _ | refine below_drewN ?_ _ | refine Below.drew ?_ | refine Below.setCell ?_ (by simp <;> omega) _ | refine Below.alloc ?_ (by simp) _) b6 rfl
  have ka' := bx_keep s6 ⟨ka, la⟩
  clear ka la na
  obtain ⟨ka, la⟩ := ka'
  have kb' := bx_keep s6 ⟨kb, lb⟩
  clear kb lb nb
  obtain ⟨kb, lb⟩ := kb'
  have kc' := bx_keep s6 ⟨kc, lc⟩
  clear kc lc nc
  obtain ⟨kc, lc⟩ := kc'
  have na := World.block_lt_of_cell? w6 _ ka
  simp only at na
  have nb := World.block_lt_of_cell? w6 _ kb
  simp only at nb
  have nc := World.block_lt_of_cell? w6 _ kc
  simp only at nc
  have B6 := Below.trans B5 (s6.mono B5.size)
  clear B5
  go_wp2_with fail
  refine (H7.out _).mono ?_
  rintro e w7 ⟨rfl, b7⟩
  have s7 : Below w6.heap.size w6 w7 := below_step (by repeat first | exact Below.refl _ _ | refine below_drewN ?_ _ | refine Below.drew ?_ | refine Below.setCell ?_ (by simp <;> omega) _ | refine Below.alloc ?_ (by simp) _) b7 rfl
  have ka' := bx_keep s7 ⟨ka, la⟩
  clear ka la na
  obtain ⟨ka, la⟩ := ka'
  have kb' := bx_keep s7 ⟨kb, lb⟩
  clear kb lb nb
  obtain ⟨kb, lb⟩ := kb'
  have kc' := bx_keep s7 ⟨kc, lc⟩
  clear kc lc nc
  obtain ⟨kc, lc⟩ := kc'
  have na := World.block_lt_of_cell? w7 _ ka
  simp only at na
  have nb := World.block_lt_of_cell? w7 _ kb
  simp only at nb
  have nc := World.block_lt_of_cell? w7 _ kc
  simp only at nc
  have B7 := Below.trans B6 (s7.mono B6.size)
  clear B6
  go_wp2_with fail
  refine (H8.out _).mono ?_
  rintro e w8 ⟨rfl, b8⟩
  have s8 : Below w7.heap.size w7 w8 := below_step (by repeat first | exact Below.refl _ _ | refine below_drewN ?_ _ | refine Below.drew ?_ | refine Below.setCell ?_ (by simp <;> omega) _ | refine Below.alloc ?_ (by simp) _) b8 rfl
  have ka' := bx_keep s8 ⟨ka, la⟩
  clear ka la na
  obtain ⟨ka, la⟩ := ka'
  have kb' := bx_keep s8 ⟨kb, lb⟩
  clear kb lb nb
  obtain ⟨kb, lb⟩ := kb'
  have kc' := bx_keep s8 ⟨kc, lc⟩
  clear kc lc nc
  obtain ⟨kc, lc⟩ := kc'
  have na := World.block_lt_of_cell? w8 _ ka
  simp only at na
  have nb := World.block_lt_of_cell? w8 _ kb
  simp only at nb
  have nc := World.block_lt_of_cell? w8 _ kc
  simp only at nc
  have B8 := Below.trans B7 (s8.mono B7.size)
  clear B7
  go_wp2_with fail
  go_ret
  exact ⟨rfl, Below.trans B8 (Below.mono (by repeat first | exact Below.refl _ _ | refine below_drewN ?_ _ | refine Below.drew ?_ | refine Below.setCell ?_ (by simp <;> omega) _ | refine Below.alloc ?_ (by simp) _) B8.size)⟩

set_option maxRecDepth 100000 in
set_option maxHeartbeats 4000000 in
theorem order_ltny1_3 (a b c : Q) (dn u : Int) (w : World)
    (H1 : Hid (∀ w, Calls Try.prog 8 #[] w fun e w' => e = .returned (.bool true) ∧ Below w.heap.size w w'))
    (H2 : Hid (∀ w, Calls Try.prog 9 #[.agg #[.int .i64 a.n, .int .i64 a.d]] w fun e w' => e = .returned (.bool true) ∧ Below w.heap.size w w'))
    (H3 : Hid (∀ w, Calls Try.prog 9 #[.agg #[.int .i64 b.n, .int .i64 b.d]] w fun e w' => e = .returned (.bool true) ∧ Below w.heap.size w w'))
    (H4 : Hid (∀ w, Calls Try.prog 9 #[.agg #[.int .i64 c.n, .int .i64 c.d]] w fun e w' => e = .returned (.bool true) ∧ Below w.heap.size w w'))
    (H5 : Hid (∀ w, Calls Try.prog 24 #[.agg #[.int .i64 a.n, .int .i64 a.d], .agg #[.int .i64 b.n, .int .i64 b.d]] w fun e w' => e = .returned (.int .i64 (-1)) ∧ Below w.heap.size w w'))
    (H6 : Hid (∀ w, Calls Try.prog 24 #[.agg #[.int .i64 b.n, .int .i64 b.d], .agg #[.int .i64 a.n, .int .i64 a.d]] w fun e w' => e = .returned (.int .i64 (1)) ∧ Below w.heap.size w w'))
    (H7 : Hid (∀ w, Calls Try.prog 24 #[.agg #[.int .i64 b.n, .int .i64 b.d], .agg #[.int .i64 c.n, .int .i64 c.d]] w fun e w' => e = .returned (.int .i64 (1)) ∧ Below w.heap.size w w'))
    (H8 : Hid (∀ w, Calls Try.prog 18 #[.agg #[.int .i64 a.n, .int .i64 a.d], .agg #[.int .i64 b.n, .int .i64 b.d]] w fun e w' => e = .returned (.tuple #[.agg #[.int .i64 dn, .int .i64 u], .int .i64 3]) ∧ Below w.heap.size w w'))
    (ne : ¬ a.n = b.n)
    : Calls Try.prog 6 #[.agg #[.int .i64 a.n, .int .i64 a.d], .agg #[.int .i64 b.n, .int .i64 b.d], .agg #[.int .i64 c.n, .int .i64 c.d]] w fun e w' => e = .returned (.bool true) ∧ Below w.heap.size w w' := by
  obtain ⟨W, hW⟩ : ∃ W, W = Tri a b c w := ⟨_, rfl⟩
  have hat := tri_bx a b c w
  rw [← hW] at hat
  obtain ⟨⟨ka, la⟩, ⟨kb, lb⟩, ⟨kc, lc⟩, B0⟩ := hat
  unfold Tri Par at hW
  have HW := Lib.hid hW
  clear hW
  have na := World.block_lt_of_cell? W _ ka
  simp only at na
  have nb := World.block_lt_of_cell? W _ kb
  simp only at nb
  have nc := World.block_lt_of_cell? W _ kc
  simp only at nc
  go_enter Try.func6, Try.ntmps6
  go_wp2_with fail
  rw [← HW.out]
  refine (H1.out _).mono ?_
  rintro e w1 ⟨rfl, b1⟩
  have s1 : Below W.heap.size W w1 := below_step (by repeat first | exact Below.refl _ _ | refine below_drewN ?_ _ | refine Below.drew ?_ | refine Below.setCell ?_ (by simp <;> omega) _ | refine Below.alloc ?_ (by simp) _) b1 rfl
  have ka' := bx_keep s1 ⟨ka, la⟩
  clear ka la na
  obtain ⟨ka, la⟩ := ka'
  have kb' := bx_keep s1 ⟨kb, lb⟩
  clear kb lb nb
  obtain ⟨kb, lb⟩ := kb'
  have kc' := bx_keep s1 ⟨kc, lc⟩
  clear kc lc nc
  obtain ⟨kc, lc⟩ := kc'
  have na := World.block_lt_of_cell? w1 _ ka
  simp only at na
  have nb := World.block_lt_of_cell? w1 _ kb
  simp only at nb
  have nc := World.block_lt_of_cell? w1 _ kc
  simp only at nc
  have B1 := Below.trans B0 (s1.mono B0.size)
  go_wp2_with fail
  refine (H2.out _).mono ?_
  rintro e w2 ⟨rfl, b2⟩
  have s2 : Below w1.heap.size w1 w2 := below_step (by repeat first | exact Below.refl _ _ | refine below_drewN ?_ _ | refine Below.drew ?_ | refine Below.setCell ?_ (by simp <;> omega) _ | refine Below.alloc ?_ (by simp) _) b2 rfl
  have ka' := bx_keep s2 ⟨ka, la⟩
  clear ka la na
  obtain ⟨ka, la⟩ := ka'
  have kb' := bx_keep s2 ⟨kb, lb⟩
  clear kb lb nb
  obtain ⟨kb, lb⟩ := kb'
  have kc' := bx_keep s2 ⟨kc, lc⟩
  clear kc lc nc
  obtain ⟨kc, lc⟩ := kc'
  have na := World.block_lt_of_cell? w2 _ ka
  simp only at na
  have nb := World.block_lt_of_cell? w2 _ kb
  simp only at nb
  have nc := World.block_lt_of_cell? w2 _ kc
  simp only at nc
  have B2 := Below.trans B1 (s2.mono B1.size)
  clear B1
  go_wp2_with fail
  refine (H3.out _).mono ?_
  rintro e w3 ⟨rfl, b3⟩
  have s3 : Below w2.heap.size w2 w3 := below_step (by repeat first | exact Below.refl _ _ | refine below_drewN ?_ _ | refine Below.drew ?_ | refine Below.setCell ?_ (by simp <;> omega) _ | refine Below.alloc ?_ (by simp) _) b3 rfl
  have ka' := bx_keep s3 ⟨ka, la⟩
  clear ka la na
  obtain ⟨ka, la⟩ := ka'
  have kb' := bx_keep s3 ⟨kb, lb⟩
  clear kb lb nb
  obtain ⟨kb, lb⟩ := kb'
  have kc' := bx_keep s3 ⟨kc, lc⟩
  clear kc lc nc
  obtain ⟨kc, lc⟩ := kc'
  have na := World.block_lt_of_cell? w3 _ ka
  simp only at na
  have nb := World.block_lt_of_cell? w3 _ kb
  simp only at nb
  have nc := World.block_lt_of_cell? w3 _ kc
  simp only at nc
  have B3 := Below.trans B2 (s3.mono B2.size)
  clear B2
  go_wp2_with fail
  refine (H4.out _).mono ?_
  rintro e w4 ⟨rfl, b4⟩
  have s4 : Below w3.heap.size w3 w4 := below_step (by repeat first | exact Below.refl _ _ | refine below_drewN ?_ _ | refine Below.drew ?_ | refine Below.setCell ?_ (by simp <;> omega) _ | refine Below.alloc ?_ (by simp) _) b4 rfl
  have ka' := bx_keep s4 ⟨ka, la⟩
  clear ka la na
  obtain ⟨ka, la⟩ := ka'
  have kb' := bx_keep s4 ⟨kb, lb⟩
  clear kb lb nb
  obtain ⟨kb, lb⟩ := kb'
  have kc' := bx_keep s4 ⟨kc, lc⟩
  clear kc lc nc
  obtain ⟨kc, lc⟩ := kc'
  have na := World.block_lt_of_cell? w4 _ ka
  simp only at na
  have nb := World.block_lt_of_cell? w4 _ kb
  simp only at nb
  have nc := World.block_lt_of_cell? w4 _ kc
  simp only at nc
  have B4 := Below.trans B3 (s4.mono B3.size)
  clear B3
  go_wp2_with fail
  refine (H5.out _).mono ?_
  rintro e w5 ⟨rfl, b5⟩
  have s5 : Below w4.heap.size w4 w5 := below_step (by repeat first | exact Below.refl _ _ | refine below_drewN ?_ _ | refine Below.drew ?_ | refine Below.setCell ?_ (by simp <;> omega) _ | refine Below.alloc ?_ (by simp) _) b5 rfl
  have ka' := bx_keep s5 ⟨ka, la⟩
  clear ka la na
  obtain ⟨ka, la⟩ := ka'
  have kb' := bx_keep s5 ⟨kb, lb⟩
  clear kb lb nb
  obtain ⟨kb, lb⟩ := kb'
  have kc' := bx_keep s5 ⟨kc, lc⟩
  clear kc lc nc
  obtain ⟨kc, lc⟩ := kc'
  have na := World.block_lt_of_cell? w5 _ ka
  simp only at na
  have nb := World.block_lt_of_cell? w5 _ kb
  simp only at nb
  have nc := World.block_lt_of_cell? w5 _ kc
  simp only at nc
  have B5 := Below.trans B4 (s5.mono B4.size)
  clear B4
  go_wp2_with fail
  refine (H6.out _).mono ?_
  rintro e w6 ⟨rfl, b6⟩
  have s6 : Below w5.heap.size w5 w6 := below_step (by repeat first | exact Below.refl _ _ | refine below_drewN ?_ _ | refine Below.drew ?_ | refine Below.setCell ?_ (by simp <;> omega) _ | refine Below.alloc ?_ (by simp) _) b6 rfl
  have ka' := bx_keep s6 ⟨ka, la⟩
  clear ka la na
  obtain ⟨ka, la⟩ := ka'
  have kb' := bx_keep s6 ⟨kb, lb⟩
  clear kb lb nb
  obtain ⟨kb, lb⟩ := kb'
  have kc' := bx_keep s6 ⟨kc, lc⟩
  clear kc lc nc
  obtain ⟨kc, lc⟩ := kc'
  have na := World.block_lt_of_cell? w6 _ ka
  simp only at na
  have nb := World.block_lt_of_cell? w6 _ kb
  simp only at nb
  have nc := World.block_lt_of_cell? w6 _ kc
  simp only at nc
  have B6 := Below.trans B5 (s6.mono B5.size)
  clear B5
  go_wp2_with fail
  refine (H7.out _).mono ?_
  rintro e w7 ⟨rfl, b7⟩
  have s7 : Below w6.heap.size w6 w7 := below_step (by repeat first | exact Below.refl _ _ | refine below_drewN ?_ _ | refine Below.drew ?_ | refine Below.setCell ?_ (by simp <;> omega) _ | refine Below.alloc ?_ (by simp) _) b7 rfl
  have ka' := bx_keep s7 ⟨ka, la⟩
  clear ka la na
  obtain ⟨ka, la⟩ := ka'
  have kb' := bx_keep s7 ⟨kb, lb⟩
  clear kb lb nb
  obtain ⟨kb, lb⟩ := kb'
  have kc' := bx_keep s7 ⟨kc, lc⟩
  clear kc lc nc
  obtain ⟨kc, lc⟩ := kc'
  have na := World.block_lt_of_cell? w7 _ ka
  simp only at na
  have nb := World.block_lt_of_cell? w7 _ kb
  simp only at nb
  have nc := World.block_lt_of_cell? w7 _ kc
  simp only at nc
  have B7 := Below.trans B6 (s7.mono B6.size)
  clear B6
  go_wp2_with fail
  refine (H8.out _).mono ?_
  rintro e w8 ⟨rfl, b8⟩
  have s8 : Below w7.heap.size w7 w8 := below_step (by repeat first | exact Below.refl _ _ | refine below_drewN ?_ _ | refine Below.drew ?_ | refine Below.setCell ?_ (by simp <;> omega) _ | refine Below.alloc ?_ (by simp) _) b8 rfl
  have ka' := bx_keep s8 ⟨ka, la⟩
  clear ka la na
  obtain ⟨ka, la⟩ := ka'
  have kb' := bx_keep s8 ⟨kb, lb⟩
  clear kb lb nb
  obtain ⟨kb, lb⟩ := kb'
  have kc' := bx_keep s8 ⟨kc, lc⟩
  clear kc lc nc
  obtain ⟨kc, lc⟩ := kc'
  have na := World.block_lt_of_cell? w8 _ ka
  simp only at na
  have nb := World.block_lt_of_cell? w8 _ kb
  simp only at nb
  have nc := World.block_lt_of_cell? w8 _ kc
  simp only at nc
  have B8 := Below.trans B7 (s8.mono B7.size)
  clear B7
  go_wp2_with fail
  go_ret
  exact ⟨rfl, Below.trans B8 (Below.mono (by repeat first | exact Below.refl _ _ | refine below_drewN ?_ _ | refine Below.drew ?_ | refine Below.setCell ?_ (by simp <;> omega) _ | refine Below.alloc ?_ (by simp) _) B8.size)⟩

set_option maxRecDepth 100000 in
set_option maxHeartbeats 4000000 in
theorem order_ltny0_0 (a b c : Q) (y z : Int) (dn u : Int) (w : World)
    (H1 : Hid (∀ w, Calls Try.prog 8 #[] w fun e w' => e = .returned (.bool true) ∧ Below w.heap.size w w'))
    (H2 : Hid (∀ w, Calls Try.prog 9 #[.agg #[.int .i64 a.n, .int .i64 a.d]] w fun e w' => e = .returned (.bool true) ∧ Below w.heap.size w w'))
    (H3 : Hid (∀ w, Calls Try.prog 9 #[.agg #[.int .i64 b.n, .int .i64 b.d]] w fun e w' => e = .returned (.bool true) ∧ Below w.heap.size w w'))
    (H4 : Hid (∀ w, Calls Try.prog 9 #[.agg #[.int .i64 c.n, .int .i64 c.d]] w fun e w' => e = .returned (.bool true) ∧ Below w.heap.size w w'))
    (H5 : Hid (∀ w, Calls Try.prog 24 #[.agg #[.int .i64 a.n, .int .i64 a.d], .agg #[.int .i64 b.n, .int .i64 b.d]] w fun e w' => e = .returned (.int .i64 (-1)) ∧ Below w.heap.size w w'))
    (H6 : Hid (∀ w, Calls Try.prog 24 #[.agg #[.int .i64 b.n, .int .i64 b.d], .agg #[.int .i64 a.n, .int .i64 a.d]] w fun e w' => e = .returned (.int .i64 (1)) ∧ Below w.heap.size w w'))
    (H7 : Hid (∀ w, Calls Try.prog 24 #[.agg #[.int .i64 b.n, .int .i64 b.d], .agg #[.int .i64 c.n, .int .i64 c.d]] w fun e w' => e = .returned (.int .i64 y) ∧ Below w.heap.size w w'))
    (H8 : Hid (∀ w, Calls Try.prog 24 #[.agg #[.int .i64 a.n, .int .i64 a.d], .agg #[.int .i64 c.n, .int .i64 c.d]] w fun e w' => e = .returned (.int .i64 z) ∧ Below w.heap.size w w'))
    (H9 : Hid (∀ w, Calls Try.prog 18 #[.agg #[.int .i64 a.n, .int .i64 a.d], .agg #[.int .i64 b.n, .int .i64 b.d]] w fun e w' => e = .returned (.tuple #[.agg #[.int .i64 dn, .int .i64 u], .int .i64 0]) ∧ Below w.heap.size w w'))
    (ne : ¬ a.n = b.n)
    (hy : y ≤ 0) (hz : z ≤ 0)
    (hd : decide (dn < 0) = true) (he : decide (0 < dn) = false)
    : Calls Try.prog 6 #[.agg #[.int .i64 a.n, .int .i64 a.d], .agg #[.int .i64 b.n, .int .i64 b.d], .agg #[.int .i64 c.n, .int .i64 c.d]] w fun e w' => e = .returned (.bool true) ∧ Below w.heap.size w w' := by
  obtain ⟨W, hW⟩ : ∃ W, W = Tri a b c w := ⟨_, rfl⟩
  have hat := tri_bx a b c w
  rw [← hW] at hat
  obtain ⟨⟨ka, la⟩, ⟨kb, lb⟩, ⟨kc, lc⟩, B0⟩ := hat
  unfold Tri Par at hW
  have HW := Lib.hid hW
  clear hW
  have na := World.block_lt_of_cell? W _ ka
  simp only at na
  have nb := World.block_lt_of_cell? W _ kb
  simp only at nb
  have nc := World.block_lt_of_cell? W _ kc
  simp only at nc
  go_enter Try.func6, Try.ntmps6
  go_wp2_with fail
  rw [← HW.out]
  refine (H1.out _).mono ?_
  rintro e w1 ⟨rfl, b1⟩
  have s1 : Below W.heap.size W w1 := below_step (by repeat first | exact Below.refl _ _ | refine below_drewN ?_ _ | refine Below.drew ?_ | refine Below.setCell ?_ (by simp <;> omega) _ | refine Below.alloc ?_ (by simp) _) b1 rfl
  have ka' := bx_keep s1 ⟨ka, la⟩
  clear ka la na
  obtain ⟨ka, la⟩ := ka'
  have kb' := bx_keep s1 ⟨kb, lb⟩
  clear kb lb nb
  obtain ⟨kb, lb⟩ := kb'
  have kc' := bx_keep s1 ⟨kc, lc⟩
  clear kc lc nc
  obtain ⟨kc, lc⟩ := kc'
  have na := World.block_lt_of_cell? w1 _ ka
  simp only at na
  have nb := World.block_lt_of_cell? w1 _ kb
  simp only at nb
  have nc := World.block_lt_of_cell? w1 _ kc
  simp only at nc
  have B1 := Below.trans B0 (s1.mono B0.size)
  go_wp2_with fail
  refine (H2.out _).mono ?_
  rintro e w2 ⟨rfl, b2⟩
  have s2 : Below w1.heap.size w1 w2 := below_step (by repeat first | exact Below.refl _ _ | refine below_drewN ?_ _ | refine Below.drew ?_ | refine Below.setCell ?_ (by simp <;> omega) _ | refine Below.alloc ?_ (by simp) _) b2 rfl
  have ka' := bx_keep s2 ⟨ka, la⟩
  clear ka la na
  obtain ⟨ka, la⟩ := ka'
  have kb' := bx_keep s2 ⟨kb, lb⟩
  clear kb lb nb
  obtain ⟨kb, lb⟩ := kb'
  have kc' := bx_keep s2 ⟨kc, lc⟩
  clear kc lc nc
  obtain ⟨kc, lc⟩ := kc'
  have na := World.block_lt_of_cell? w2 _ ka
  simp only at na
  have nb := World.block_lt_of_cell? w2 _ kb
  simp only at nb
  have nc := World.block_lt_of_cell? w2 _ kc
  simp only at nc
  have B2 := Below.trans B1 (s2.mono B1.size)
  clear B1
  go_wp2_with fail
  refine (H3.out _).mono ?_
  rintro e w3 ⟨rfl, b3⟩
  have s3 : Below w2.heap.size w2 w3 := below_step (by repeat first | exact Below.refl _ _ | refine below_drewN ?_ _ | refine Below.drew ?_ | refine Below.setCell ?_ (by simp <;> omega) _ | refine Below.alloc ?_ (by simp) _) b3 rfl
  have ka' := bx_keep s3 ⟨ka, la⟩
  clear ka la na
  obtain ⟨ka, la⟩ := ka'
  have kb' := bx_keep s3 ⟨kb, lb⟩
  clear kb lb nb
  obtain ⟨kb, lb⟩ := kb'
  have kc' := bx_keep s3 ⟨kc, lc⟩
  clear kc lc nc
  obtain ⟨kc, lc⟩ := kc'
  have na := World.block_lt_of_cell? w3 _ ka
  simp only at na
  have nb := World.block_lt_of_cell? w3 _ kb
  simp only at nb
  have nc := World.block_lt_of_cell? w3 _ kc
  simp only at nc
  have B3 := Below.trans B2 (s3.mono B2.size)
  clear B2
  go_wp2_with fail
  refine (H4.out _).mono ?_
  rintro e w4 ⟨rfl, b4⟩
  have s4 : Below w3.heap.size w3 w4 := below_step (by repeat first | exact Below.refl _ _ | refine below_drewN ?_ _ | refine Below.drew ?_ | refine Below.setCell ?_ (by simp <;> omega) _ | refine Below.alloc ?_ (by simp) _) b4 rfl
  have ka' := bx_keep s4 ⟨ka, la⟩
  clear ka la na
  obtain ⟨ka, la⟩ := ka'
  have kb' := bx_keep s4 ⟨kb, lb⟩
  clear kb lb nb
  obtain ⟨kb, lb⟩ := kb'
  have kc' := bx_keep s4 ⟨kc, lc⟩
  clear kc lc nc
  obtain ⟨kc, lc⟩ := kc'
  have na := World.block_lt_of_cell? w4 _ ka
  simp only at na
  have nb := World.block_lt_of_cell? w4 _ kb
  simp only at nb
  have nc := World.block_lt_of_cell? w4 _ kc
  simp only at nc
  have B4 := Below.trans B3 (s4.mono B3.size)
  clear B3
  go_wp2_with fail
  refine (H5.out _).mono ?_
  rintro e w5 ⟨rfl, b5⟩
  have s5 : Below w4.heap.size w4 w5 := below_step (by repeat first | exact Below.refl _ _ | refine below_drewN ?_ _ | refine Below.drew ?_ | refine Below.setCell ?_ (by simp <;> omega) _ | refine Below.alloc ?_ (by simp) _) b5 rfl
  have ka' := bx_keep s5 ⟨ka, la⟩
  clear ka la na
  obtain ⟨ka, la⟩ := ka'
  have kb' := bx_keep s5 ⟨kb, lb⟩
  clear kb lb nb
  obtain ⟨kb, lb⟩ := kb'
  have kc' := bx_keep s5 ⟨kc, lc⟩
  clear kc lc nc
  obtain ⟨kc, lc⟩ := kc'
  have na := World.block_lt_of_cell? w5 _ ka
  simp only at na
  have nb := World.block_lt_of_cell? w5 _ kb
  simp only at nb
  have nc := World.block_lt_of_cell? w5 _ kc
  simp only at nc
  have B5 := Below.trans B4 (s5.mono B4.size)
  clear B4
  go_wp2_with fail
  refine (H6.out _).mono ?_
  rintro e w6 ⟨rfl, b6⟩
  have s6 : Below w5.heap.size w5 w6 := below_step (by repeat first | exact Below.refl _ _ | refine below_drewN ?_ _ | refine Below.drew ?_ | refine Below.setCell ?_ (by simp <;> omega) _ | refine Below.alloc ?_ (by simp) _) b6 rfl
  have ka' := bx_keep s6 ⟨ka, la⟩
  clear ka la na
  obtain ⟨ka, la⟩ := ka'
  have kb' := bx_keep s6 ⟨kb, lb⟩
  clear kb lb nb
  obtain ⟨kb, lb⟩ := kb'
  have kc' := bx_keep s6 ⟨kc, lc⟩
  clear kc lc nc
  obtain ⟨kc, lc⟩ := kc'
  have na := World.block_lt_of_cell? w6 _ ka
  simp only at na
  have nb := World.block_lt_of_cell? w6 _ kb
  simp only at nb
  have nc := World.block_lt_of_cell? w6 _ kc
  simp only at nc
  have B6 := Below.trans B5 (s6.mono B5.size)
  clear B5
  go_wp2_with fail
  refine (H7.out _).mono ?_
  rintro e w7 ⟨rfl, b7⟩
  have s7 : Below w6.heap.size w6 w7 := below_step (by repeat first | exact Below.refl _ _ | refine below_drewN ?_ _ | refine Below.drew ?_ | refine Below.setCell ?_ (by simp <;> omega) _ | refine Below.alloc ?_ (by simp) _) b7 rfl
  have ka' := bx_keep s7 ⟨ka, la⟩
  clear ka la na
  obtain ⟨ka, la⟩ := ka'
  have kb' := bx_keep s7 ⟨kb, lb⟩
  clear kb lb nb
  obtain ⟨kb, lb⟩ := kb'
  have kc' := bx_keep s7 ⟨kc, lc⟩
  clear kc lc nc
  obtain ⟨kc, lc⟩ := kc'
  have na := World.block_lt_of_cell? w7 _ ka
  simp only at na
  have nb := World.block_lt_of_cell? w7 _ kb
  simp only at nb
  have nc := World.block_lt_of_cell? w7 _ kc
  simp only at nc
  have B7 := Below.trans B6 (s7.mono B6.size)
  clear B6
  go_wp2_with fail
  refine (H8.out _).mono ?_
  rintro e w8 ⟨rfl, b8⟩
  have s8 : Below w7.heap.size w7 w8 := below_step (by repeat first | exact Below.refl _ _ | refine below_drewN ?_ _ | refine Below.drew ?_ | refine Below.setCell ?_ (by simp <;> omega) _ | refine Below.alloc ?_ (by simp) _) b8 rfl
  have ka' := bx_keep s8 ⟨ka, la⟩
  clear ka la na
  obtain ⟨ka, la⟩ := ka'
  have kb' := bx_keep s8 ⟨kb, lb⟩
  clear kb lb nb
  obtain ⟨kb, lb⟩ := kb'
  have kc' := bx_keep s8 ⟨kc, lc⟩
  clear kc lc nc
  obtain ⟨kc, lc⟩ := kc'
  have na := World.block_lt_of_cell? w8 _ ka
  simp only at na
  have nb := World.block_lt_of_cell? w8 _ kb
  simp only at nb
  have nc := World.block_lt_of_cell? w8 _ kc
  simp only at nc
  have B8 := Below.trans B7 (s8.mono B7.size)
  clear B7
  go_wp2_with fail
  refine (H9.out _).mono ?_
  rintro e w9 ⟨rfl, b9⟩
  have s9 : Below w8.heap.size w8 w9 := below_step (by repeat first | exact Below.refl _ _ | refine below_drewN ?_ _ | refine Below.drew ?_ | refine Below.setCell ?_ (by simp <;> omega) _ | refine Below.alloc ?_ (by simp) _) b9 rfl
  have ka' := bx_keep s9 ⟨ka, la⟩
  clear ka la na
  obtain ⟨ka, la⟩ := ka'
  have kb' := bx_keep s9 ⟨kb, lb⟩
  clear kb lb nb
  obtain ⟨kb, lb⟩ := kb'
  have kc' := bx_keep s9 ⟨kc, lc⟩
  clear kc lc nc
  obtain ⟨kc, lc⟩ := kc'
  have na := World.block_lt_of_cell? w9 _ ka
  simp only at na
  have nb := World.block_lt_of_cell? w9 _ kb
  simp only at nb
  have nc := World.block_lt_of_cell? w9 _ kc
  simp only at nc
  have B9 := Below.trans B8 (s9.mono B8.size)
  clear B8
  go_wp2_with fail
  go_ret
  exact ⟨rfl, Below.trans B9 (Below.mono (by repeat first | exact Below.refl _ _ | refine below_drewN ?_ _ | refine Below.drew ?_ | refine Below.setCell ?_ (by simp <;> omega) _ | refine Below.alloc ?_ (by simp) _) B9.size)⟩

set_option maxRecDepth 100000 in
set_option maxHeartbeats 4000000 in
theorem order_ltny0_3 (a b c : Q) (y z : Int) (dn u : Int) (w : World)
    (H1 : Hid (∀ w, Calls Try.prog 8 #[] w fun e w' => e = .returned (.bool true) ∧ Below w.heap.size w w'))
    (H2 : Hid (∀ w, Calls Try.prog 9 #[.agg #[.int .i64 a.n, .int .i64 a.d]] w fun e w' => e = .returned (.bool true) ∧ Below w.heap.size w w'))
    (H3 : Hid (∀ w, Calls Try.prog 9 #[.agg #[.int .i64 b.n, .int .i64 b.d]] w fun e w' => e = .returned (.bool true) ∧ Below w.heap.size w w'))
    (H4 : Hid (∀ w, Calls Try.prog 9 #[.agg #[.int .i64 c.n, .int .i64 c.d]] w fun e w' => e = .returned (.bool true) ∧ Below w.heap.size w w'))
    (H5 : Hid (∀ w, Calls Try.prog 24 #[.agg #[.int .i64 a.n, .int .i64 a.d], .agg #[.int .i64 b.n, .int .i64 b.d]] w fun e w' => e = .returned (.int .i64 (-1)) ∧ Below w.heap.size w w'))
    (H6 : Hid (∀ w, Calls Try.prog 24 #[.agg #[.int .i64 b.n, .int .i64 b.d], .agg #[.int .i64 a.n, .int .i64 a.d]] w fun e w' => e = .returned (.int .i64 (1)) ∧ Below w.heap.size w w'))
    (H7 : Hid (∀ w, Calls Try.prog 24 #[.agg #[.int .i64 b.n, .int .i64 b.d], .agg #[.int .i64 c.n, .int .i64 c.d]] w fun e w' => e = .returned (.int .i64 y) ∧ Below w.heap.size w w'))
    (H8 : Hid (∀ w, Calls Try.prog 24 #[.agg #[.int .i64 a.n, .int .i64 a.d], .agg #[.int .i64 c.n, .int .i64 c.d]] w fun e w' => e = .returned (.int .i64 z) ∧ Below w.heap.size w w'))
    (H9 : Hid (∀ w, Calls Try.prog 18 #[.agg #[.int .i64 a.n, .int .i64 a.d], .agg #[.int .i64 b.n, .int .i64 b.d]] w fun e w' => e = .returned (.tuple #[.agg #[.int .i64 dn, .int .i64 u], .int .i64 3]) ∧ Below w.heap.size w w'))
    (ne : ¬ a.n = b.n)
    (hy : y ≤ 0) (hz : z ≤ 0)
    : Calls Try.prog 6 #[.agg #[.int .i64 a.n, .int .i64 a.d], .agg #[.int .i64 b.n, .int .i64 b.d], .agg #[.int .i64 c.n, .int .i64 c.d]] w fun e w' => e = .returned (.bool true) ∧ Below w.heap.size w w' := by
  obtain ⟨W, hW⟩ : ∃ W, W = Tri a b c w := ⟨_, rfl⟩
  have hat := tri_bx a b c w
  rw [← hW] at hat
  obtain ⟨⟨ka, la⟩, ⟨kb, lb⟩, ⟨kc, lc⟩, B0⟩ := hat
  unfold Tri Par at hW
  have HW := Lib.hid hW
  clear hW
  have na := World.block_lt_of_cell? W _ ka
  simp only at na
  have nb := World.block_lt_of_cell? W _ kb
  simp only at nb
  have nc := World.block_lt_of_cell? W _ kc
  simp only at nc
  go_enter Try.func6, Try.ntmps6
  go_wp2_with fail
  rw [← HW.out]
  refine (H1.out _).mono ?_
  rintro e w1 ⟨rfl, b1⟩
  have s1 : Below W.heap.size W w1 := below_step (by repeat first | exact Below.refl _ _ | refine below_drewN ?_ _ | refine Below.drew ?_ | refine Below.setCell ?_ (by simp <;> omega) _ | refine Below.alloc ?_ (by simp) _) b1 rfl
  have ka' := bx_keep s1 ⟨ka, la⟩
  clear ka la na
  obtain ⟨ka, la⟩ := ka'
  have kb' := bx_keep s1 ⟨kb, lb⟩
  clear kb lb nb
  obtain ⟨kb, lb⟩ := kb'
  have kc' := bx_keep s1 ⟨kc, lc⟩
  clear kc lc nc
  obtain ⟨kc, lc⟩ := kc'
  have na := World.block_lt_of_cell? w1 _ ka
  simp only at na
  have nb := World.block_lt_of_cell? w1 _ kb
  simp only at nb
  have nc := World.block_lt_of_cell? w1 _ kc
  simp only at nc
  have B1 := Below.trans B0 (s1.mono B0.size)
  go_wp2_with fail
  refine (H2.out _).mono ?_
  rintro e w2 ⟨rfl, b2⟩
  have s2 : Below w1.heap.size w1 w2 := below_step (by repeat first | exact Below.refl _ _ | refine below_drewN ?_ _ | refine Below.drew ?_ | refine Below.setCell ?_ (by simp <;> omega) _ | refine Below.alloc ?_ (by simp) _) b2 rfl
  have ka' := bx_keep s2 ⟨ka, la⟩
  clear ka la na
  obtain ⟨ka, la⟩ := ka'
  have kb' := bx_keep s2 ⟨kb, lb⟩
  clear kb lb nb
  obtain ⟨kb, lb⟩ := kb'
  have kc' := bx_keep s2 ⟨kc, lc⟩
  clear kc lc nc
  obtain ⟨kc, lc⟩ := kc'
  have na := World.block_lt_of_cell? w2 _ ka
  simp only at na
  have nb := World.block_lt_of_cell? w2 _ kb
  simp only at nb
  have nc := World.block_lt_of_cell? w2 _ kc
  simp only at nc
  have B2 := Below.trans B1 (s2.mono B1.size)
  clear B1
  go_wp2_with fail
  refine (H3.out _).mono ?_
  rintro e w3 ⟨rfl, b3⟩
  have s3 : Below w2.heap.size w2 w3 := below_step (by repeat first | exact Below.refl _ _ | refine below_drewN ?_ _ | refine Below.drew ?_ | refine Below.setCell ?_ (by simp <;> omega) _ | refine Below.alloc ?_ (by simp) _) b3 rfl
  have ka' := bx_keep s3 ⟨ka, la⟩
  clear ka la na
  obtain ⟨ka, la⟩ := ka'
  have kb' := bx_keep s3 ⟨kb, lb⟩
  clear kb lb nb
  obtain ⟨kb, lb⟩ := kb'
  have kc' := bx_keep s3 ⟨kc, lc⟩
  clear kc lc nc
  obtain ⟨kc, lc⟩ := kc'
  have na := World.block_lt_of_cell? w3 _ ka
  simp only at na
  have nb := World.block_lt_of_cell? w3 _ kb
  simp only at nb
  have nc := World.block_lt_of_cell? w3 _ kc
  simp only at nc
  have B3 := Below.trans B2 (s3.mono B2.size)
  clear B2
  go_wp2_with fail
  refine (H4.out _).mono ?_
  rintro e w4 ⟨rfl, b4⟩
  have s4 : Below w3.heap.size w3 w4 := below_step (by repeat first | exact Below.refl _ _ | refine below_drewN ?_ _ | refine Below.drew ?_ | refine Below.setCell ?_ (by simp <;> omega) _ | refine Below.alloc ?_ (by simp) _) b4 rfl
  have ka' := bx_keep s4 ⟨ka, la⟩
  clear ka la na
  obtain ⟨ka, la⟩ := ka'
  have kb' := bx_keep s4 ⟨kb, lb⟩
  clear kb lb nb
  obtain ⟨kb, lb⟩ := kb'
  have kc' := bx_keep s4 ⟨kc, lc⟩
  clear kc lc nc
  obtain ⟨kc, lc⟩ := kc'
  have na := World.block_lt_of_cell? w4 _ ka
  simp only at na
  have nb := World.block_lt_of_cell? w4 _ kb
  simp only at nb
  have nc := World.block_lt_of_cell? w4 _ kc
  simp only at nc
  have B4 := Below.trans B3 (s4.mono B3.size)
  clear B3
  go_wp2_with fail
  refine (H5.out _).mono ?_
  rintro e w5 ⟨rfl, b5⟩
  have s5 : Below w4.heap.size w4 w5 := below_step (by repeat first | exact Below.refl _ _ | refine below_drewN ?_ _ | refine Below.drew ?_ | refine Below.setCell ?_ (by simp <;> omega) _ | refine Below.alloc ?_ (by simp) _) b5 rfl
  have ka' := bx_keep s5 ⟨ka, la⟩
  clear ka la na
  obtain ⟨ka, la⟩ := ka'
  have kb' := bx_keep s5 ⟨kb, lb⟩
  clear kb lb nb
  obtain ⟨kb, lb⟩ := kb'
  have kc' := bx_keep s5 ⟨kc, lc⟩
  clear kc lc nc
  obtain ⟨kc, lc⟩ := kc'
  have na := World.block_lt_of_cell? w5 _ ka
  simp only at na
  have nb := World.block_lt_of_cell? w5 _ kb
  simp only at nb
  have nc := World.block_lt_of_cell? w5 _ kc
  simp only at nc
  have B5 := Below.trans B4 (s5.mono B4.size)
  clear B4
  go_wp2_with fail
  refine (H6.out _).mono ?_
  rintro e w6 ⟨rfl, b6⟩
  have s6 : Below w5.heap.size w5 w6 := below_step (by repeat first | exact Below.refl _ _ | refine below_drewN ?_ _ | refine Below.drew ?_ | refine Below.setCell ?_ (by simp <;> omega) _ | refine Below.alloc ?_ (by simp) _) b6 rfl
  have ka' := bx_keep s6 ⟨ka, la⟩
  clear ka la na
  obtain ⟨ka, la⟩ := ka'
  have kb' := bx_keep s6 ⟨kb, lb⟩
  clear kb lb nb
  obtain ⟨kb, lb⟩ := kb'
  have kc' := bx_keep s6 ⟨kc, lc⟩
  clear kc lc nc
  obtain ⟨kc, lc⟩ := kc'
  have na := World.block_lt_of_cell? w6 _ ka
  simp only at na
  have nb := World.block_lt_of_cell? w6 _ kb
  simp only at nb
  have nc := World.block_lt_of_cell? w6 _ kc
  simp only at nc
  have B6 := Below.trans B5 (s6.mono B5.size)
  clear B5
  go_wp2_with fail
  refine (H7.out _).mono ?_
  rintro e w7 ⟨rfl, b7⟩
  have s7 : Below w6.heap.size w6 w7 := below_step (by repeat first | exact Below.refl _ _ | refine below_drewN ?_ _ | refine Below.drew ?_ | refine Below.setCell ?_ (by simp <;> omega) _ | refine Below.alloc ?_ (by simp) _) b7 rfl
  have ka' := bx_keep s7 ⟨ka, la⟩
  clear ka la na
  obtain ⟨ka, la⟩ := ka'
  have kb' := bx_keep s7 ⟨kb, lb⟩
  clear kb lb nb
  obtain ⟨kb, lb⟩ := kb'
  have kc' := bx_keep s7 ⟨kc, lc⟩
  clear kc lc nc
  obtain ⟨kc, lc⟩ := kc'
  have na := World.block_lt_of_cell? w7 _ ka
  simp only at na
  have nb := World.block_lt_of_cell? w7 _ kb
  simp only at nb
  have nc := World.block_lt_of_cell? w7 _ kc
  simp only at nc
  have B7 := Below.trans B6 (s7.mono B6.size)
  clear B6
  go_wp2_with fail
  refine (H8.out _).mono ?_
  rintro e w8 ⟨rfl, b8⟩
  have s8 : Below w7.heap.size w7 w8 := below_step (by repeat first | exact Below.refl _ _ | refine below_drewN ?_ _ | refine Below.drew ?_ | refine Below.setCell ?_ (by simp <;> omega) _ | refine Below.alloc ?_ (by simp) _) b8 rfl
  have ka' := bx_keep s8 ⟨ka, la⟩
  clear ka la na
  obtain ⟨ka, la⟩ := ka'
  have kb' := bx_keep s8 ⟨kb, lb⟩
  clear kb lb nb
  obtain ⟨kb, lb⟩ := kb'
  have kc' := bx_keep s8 ⟨kc, lc⟩
  clear kc lc nc
  obtain ⟨kc, lc⟩ := kc'
  have na := World.block_lt_of_cell? w8 _ ka
  simp only at na
  have nb := World.block_lt_of_cell? w8 _ kb
  simp only at nb
  have nc := World.block_lt_of_cell? w8 _ kc
  simp only at nc
  have B8 := Below.trans B7 (s8.mono B7.size)
  clear B7
  go_wp2_with fail
  refine (H9.out _).mono ?_
  rintro e w9 ⟨rfl, b9⟩
  have s9 : Below w8.heap.size w8 w9 := below_step (by repeat first | exact Below.refl _ _ | refine below_drewN ?_ _ | refine Below.drew ?_ | refine Below.setCell ?_ (by simp <;> omega) _ | refine Below.alloc ?_ (by simp) _) b9 rfl
  have ka' := bx_keep s9 ⟨ka, la⟩
  clear ka la na
  obtain ⟨ka, la⟩ := ka'
  have kb' := bx_keep s9 ⟨kb, lb⟩
  clear kb lb nb
  obtain ⟨kb, lb⟩ := kb'
  have kc' := bx_keep s9 ⟨kc, lc⟩
  clear kc lc nc
  obtain ⟨kc, lc⟩ := kc'
  have na := World.block_lt_of_cell? w9 _ ka
  simp only at na
  have nb := World.block_lt_of_cell? w9 _ kb
  simp only at nb
  have nc := World.block_lt_of_cell? w9 _ kc
  simp only at nc
  have B9 := Below.trans B8 (s9.mono B8.size)
  clear B8
  go_wp2_with fail
  go_ret
  exact ⟨rfl, Below.trans B9 (Below.mono (by repeat first | exact Below.refl _ _ | refine below_drewN ?_ _ | refine Below.drew ?_ | refine Below.setCell ?_ (by simp <;> omega) _ | refine Below.alloc ?_ (by simp) _) B9.size)⟩

set_option maxRecDepth 100000 in
set_option maxHeartbeats 4000000 in
theorem order_ltdy1_0 (n ad bd : Int) (c : Q) (dn u : Int) (w : World)
    (H1 : Hid (∀ w, Calls Try.prog 8 #[] w fun e w' => e = .returned (.bool true) ∧ Below w.heap.size w w'))
    (H2 : Hid (∀ w, Calls Try.prog 9 #[.agg #[.int .i64 n, .int .i64 ad]] w fun e w' => e = .returned (.bool true) ∧ Below w.heap.size w w'))
    (H3 : Hid (∀ w, Calls Try.prog 9 #[.agg #[.int .i64 n, .int .i64 bd]] w fun e w' => e = .returned (.bool true) ∧ Below w.heap.size w w'))
    (H4 : Hid (∀ w, Calls Try.prog 9 #[.agg #[.int .i64 c.n, .int .i64 c.d]] w fun e w' => e = .returned (.bool true) ∧ Below w.heap.size w w'))
    (H5 : Hid (∀ w, Calls Try.prog 24 #[.agg #[.int .i64 n, .int .i64 ad], .agg #[.int .i64 n, .int .i64 bd]] w fun e w' => e = .returned (.int .i64 (-1)) ∧ Below w.heap.size w w'))
    (H6 : Hid (∀ w, Calls Try.prog 24 #[.agg #[.int .i64 n, .int .i64 bd], .agg #[.int .i64 n, .int .i64 ad]] w fun e w' => e = .returned (.int .i64 (1)) ∧ Below w.heap.size w w'))
    (H7 : Hid (∀ w, Calls Try.prog 24 #[.agg #[.int .i64 n, .int .i64 bd], .agg #[.int .i64 c.n, .int .i64 c.d]] w fun e w' => e = .returned (.int .i64 (1)) ∧ Below w.heap.size w w'))
    (H8 : Hid (∀ w, Calls Try.prog 18 #[.agg #[.int .i64 n, .int .i64 ad], .agg #[.int .i64 n, .int .i64 bd]] w fun e w' => e = .returned (.tuple #[.agg #[.int .i64 dn, .int .i64 u], .int .i64 0]) ∧ Below w.heap.size w w'))
    (ne : ¬ ad = bd)
    (hd : decide (dn < 0) = true) (he : decide (0 < dn) = false)
    : Calls Try.prog 6 #[.agg #[.int .i64 n, .int .i64 ad], .agg #[.int .i64 n, .int .i64 bd], .agg #[.int .i64 c.n, .int .i64 c.d]] w fun e w' => e = .returned (.bool true) ∧ Below w.heap.size w w' := by
  obtain ⟨W, hW⟩ : ∃ W, W = Tri ⟨n, ad⟩ ⟨n, bd⟩ c w := ⟨_, rfl⟩
  have hat := tri_bx ⟨n, ad⟩ ⟨n, bd⟩ c w
  rw [← hW] at hat
  obtain ⟨⟨ka, la⟩, ⟨kb, lb⟩, ⟨kc, lc⟩, B0⟩ := hat
  unfold Tri Par at hW
  simp only at hW
  have HW := Lib.hid hW
  clear hW
  have na := World.block_lt_of_cell? W _ ka
  simp only at na
  have nb := World.block_lt_of_cell? W _ kb
  simp only at nb
  have nc := World.block_lt_of_cell? W _ kc
  simp only at nc
  go_enter Try.func6, Try.ntmps6
  go_wp2_with fail
  rw [← HW.out]
  refine (H1.out _).mono ?_
  rintro e w1 ⟨rfl, b1⟩
  have s1 : Below W.heap.size W w1 := below_step (by repeat first | exact Below.refl _ _ | refine below_drewN ?_ _ | refine Below.drew ?_ | refine Below.setCell ?_ (by simp <;> omega) _ | refine Below.alloc ?_ (by simp) _) b1 rfl
  have ka' := bx_keep s1 ⟨ka, la⟩
  clear ka la na
  obtain ⟨ka, la⟩ := ka'
  have kb' := bx_keep s1 ⟨kb, lb⟩
  clear kb lb nb
  obtain ⟨kb, lb⟩ := kb'
  have kc' := bx_keep s1 ⟨kc, lc⟩
  clear kc lc nc
  obtain ⟨kc, lc⟩ := kc'
  have na := World.block_lt_of_cell? w1 _ ka
  simp only at na
  have nb := World.block_lt_of_cell? w1 _ kb
  simp only at nb
  have nc := World.block_lt_of_cell? w1 _ kc
  simp only at nc
  have B1 := Below.trans B0 (s1.mono B0.size)
  go_wp2_with fail
  refine (H2.out _).mono ?_
  rintro e w2 ⟨rfl, b2⟩
  have s2 : Below w1.heap.size w1 w2 := below_step (by repeat first | exact Below.refl _ _ | refine below_drewN ?_ _ | refine Below.drew ?_ | refine Below.setCell ?_ (by simp <;> omega) _ | refine Below.alloc ?_ (by simp) _) b2 rfl
  have ka' := bx_keep s2 ⟨ka, la⟩
  clear ka la na
  obtain ⟨ka, la⟩ := ka'
  have kb' := bx_keep s2 ⟨kb, lb⟩
  clear kb lb nb
  obtain ⟨kb, lb⟩ := kb'
  have kc' := bx_keep s2 ⟨kc, lc⟩
  clear kc lc nc
  obtain ⟨kc, lc⟩ := kc'
  have na := World.block_lt_of_cell? w2 _ ka
  simp only at na
  have nb := World.block_lt_of_cell? w2 _ kb
  simp only at nb
  have nc := World.block_lt_of_cell? w2 _ kc
  simp only at nc
  have B2 := Below.trans B1 (s2.mono B1.size)
  clear B1
  go_wp2_with fail
  refine (H3.out _).mono ?_
  rintro e w3 ⟨rfl, b3⟩
  have s3 : Below w2.heap.size w2 w3 := below_step (by repeat first | exact Below.refl _ _ | refine below_drewN ?_ _ | refine Below.drew ?_ | refine Below.setCell ?_ (by simp <;> omega) _ | refine Below.alloc ?_ (by simp) _) b3 rfl
  have ka' := bx_keep s3 ⟨ka, la⟩
  clear ka la na
  obtain ⟨ka, la⟩ := ka'
  have kb' := bx_keep s3 ⟨kb, lb⟩
  clear kb lb nb
  obtain ⟨kb, lb⟩ := kb'
  have kc' := bx_keep s3 ⟨kc, lc⟩
  clear kc lc nc
  obtain ⟨kc, lc⟩ := kc'
  have na := World.block_lt_of_cell? w3 _ ka
  simp only at na
  have nb := World.block_lt_of_cell? w3 _ kb
  simp only at nb
  have nc := World.block_lt_of_cell? w3 _ kc
  simp only at nc
  have B3 := Below.trans B2 (s3.mono B2.size)
  clear B2
  go_wp2_with fail
  refine (H4.out _).mono ?_
  rintro e w4 ⟨rfl, b4⟩
  have s4 : Below w3.heap.size w3 w4 := below_step (by repeat first | exact Below.refl _ _ | refine below_drewN ?_ _ | refine Below.drew ?_ | refine Below.setCell ?_ (by simp <;> omega) _ | refine Below.alloc ?_ (by simp) _) b4 rfl
  have ka' := bx_keep s4 ⟨ka, la⟩
  clear ka la na
  obtain ⟨ka, la⟩ := ka'
  have kb' := bx_keep s4 ⟨kb, lb⟩
  clear kb lb nb
  obtain ⟨kb, lb⟩ := kb'
  have kc' := bx_keep s4 ⟨kc, lc⟩
  clear kc lc nc
  obtain ⟨kc, lc⟩ := kc'
  have na := World.block_lt_of_cell? w4 _ ka
  simp only at na
  have nb := World.block_lt_of_cell? w4 _ kb
  simp only at nb
  have nc := World.block_lt_of_cell? w4 _ kc
  simp only at nc
  have B4 := Below.trans B3 (s4.mono B3.size)
  clear B3
  go_wp2_with fail
  refine (H5.out _).mono ?_
  rintro e w5 ⟨rfl, b5⟩
  have s5 : Below w4.heap.size w4 w5 := below_step (by repeat first | exact Below.refl _ _ | refine below_drewN ?_ _ | refine Below.drew ?_ | refine Below.setCell ?_ (by simp <;> omega) _ | refine Below.alloc ?_ (by simp) _) b5 rfl
  have ka' := bx_keep s5 ⟨ka, la⟩
  clear ka la na
  obtain ⟨ka, la⟩ := ka'
  have kb' := bx_keep s5 ⟨kb, lb⟩
  clear kb lb nb
  obtain ⟨kb, lb⟩ := kb'
  have kc' := bx_keep s5 ⟨kc, lc⟩
  clear kc lc nc
  obtain ⟨kc, lc⟩ := kc'
  have na := World.block_lt_of_cell? w5 _ ka
  simp only at na
  have nb := World.block_lt_of_cell? w5 _ kb
  simp only at nb
  have nc := World.block_lt_of_cell? w5 _ kc
  simp only at nc
  have B5 := Below.trans B4 (s5.mono B4.size)
  clear B4
  go_wp2_with fail
  refine (H6.out _).mono ?_
  rintro e w6 ⟨rfl, b6⟩
  have s6 : Below w5.heap.size w5 w6 := below_step (by repeat first | exact Below.refl _ _ | refine below_drewN ?_ _ | refine Below.drew ?_ | refine Below.setCell ?_ (by simp <;> omega) _ | refine Below.alloc ?_ (by simp) _) b6 rfl
  have ka' := bx_keep s6 ⟨ka, la⟩
  clear ka la na
  obtain ⟨ka, la⟩ := ka'
  have kb' := bx_keep s6 ⟨kb, lb⟩
  clear kb lb nb
  obtain ⟨kb, lb⟩ := kb'
  have kc' := bx_keep s6 ⟨kc, lc⟩
  clear kc lc nc
  obtain ⟨kc, lc⟩ := kc'
  have na := World.block_lt_of_cell? w6 _ ka
  simp only at na
  have nb := World.block_lt_of_cell? w6 _ kb
  simp only at nb
  have nc := World.block_lt_of_cell? w6 _ kc
  simp only at nc
  have B6 := Below.trans B5 (s6.mono B5.size)
  clear B5
  go_wp2_with fail
  refine (H7.out _).mono ?_
  rintro e w7 ⟨rfl, b7⟩
  have s7 : Below w6.heap.size w6 w7 := below_step (by repeat first | exact Below.refl _ _ | refine below_drewN ?_ _ | refine Below.drew ?_ | refine Below.setCell ?_ (by simp <;> omega) _ | refine Below.alloc ?_ (by simp) _) b7 rfl
  have ka' := bx_keep s7 ⟨ka, la⟩
  clear ka la na
  obtain ⟨ka, la⟩ := ka'
  have kb' := bx_keep s7 ⟨kb, lb⟩
  clear kb lb nb
  obtain ⟨kb, lb⟩ := kb'
  have kc' := bx_keep s7 ⟨kc, lc⟩
  clear kc lc nc
  obtain ⟨kc, lc⟩ := kc'
  have na := World.block_lt_of_cell? w7 _ ka
  simp only at na
  have nb := World.block_lt_of_cell? w7 _ kb
  simp only at nb
  have nc := World.block_lt_of_cell? w7 _ kc
  simp only at nc
  have B7 := Below.trans B6 (s7.mono B6.size)
  clear B6
  go_wp2_with fail
  refine (H8.out _).mono ?_
  rintro e w8 ⟨rfl, b8⟩
  have s8 : Below w7.heap.size w7 w8 := below_step (by repeat first | exact Below.refl _ _ | refine below_drewN ?_ _ | refine Below.drew ?_ | refine Below.setCell ?_ (by simp <;> omega) _ | refine Below.alloc ?_ (by simp) _) b8 rfl
  have ka' := bx_keep s8 ⟨ka, la⟩
  clear ka la na
  obtain ⟨ka, la⟩ := ka'
  have kb' := bx_keep s8 ⟨kb, lb⟩
  clear kb lb nb
  obtain ⟨kb, lb⟩ := kb'
  have kc' := bx_keep s8 ⟨kc, lc⟩
  clear kc lc nc
  obtain ⟨kc, lc⟩ := kc'
  have na := World.block_lt_of_cell? w8 _ ka
  simp only at na
  have nb := World.block_lt_of_cell? w8 _ kb
  simp only at nb
  have nc := World.block_lt_of_cell? w8 _ kc
  simp only at nc
  have B8 := Below.trans B7 (s8.mono B7.size)
  clear B7
  go_wp2_with fail
  go_ret
  exact ⟨rfl, Below.trans B8 (Below.mono (by repeat first | exact Below.refl _ _ | refine below_drewN ?_ _ | refine Below.drew ?_ | refine Below.setCell ?_ (by simp <;> omega) _ | refine Below.alloc ?_ (by simp) _) B8.size)⟩

set_option maxRecDepth 100000 in
set_option maxHeartbeats 4000000 in
theorem order_ltdy1_3 (n ad bd : Int) (c : Q) (dn u : Int) (w : World)
    (H1 : Hid (∀ w, Calls Try.prog 8 #[] w fun e w' => e = .returned (.bool true) ∧ Below w.heap.size w w'))
    (H2 : Hid (∀ w, Calls Try.prog 9 #[.agg #[.int .i64 n, .int .i64 ad]] w fun e w' => e = .returned (.bool true) ∧ Below w.heap.size w w'))
    (H3 : Hid (∀ w, Calls Try.prog 9 #[.agg #[.int .i64 n, .int .i64 bd]] w fun e w' => e = .returned (.bool true) ∧ Below w.heap.size w w'))
    (H4 : Hid (∀ w, Calls Try.prog 9 #[.agg #[.int .i64 c.n, .int .i64 c.d]] w fun e w' => e = .returned (.bool true) ∧ Below w.heap.size w w'))
    (H5 : Hid (∀ w, Calls Try.prog 24 #[.agg #[.int .i64 n, .int .i64 ad], .agg #[.int .i64 n, .int .i64 bd]] w fun e w' => e = .returned (.int .i64 (-1)) ∧ Below w.heap.size w w'))
    (H6 : Hid (∀ w, Calls Try.prog 24 #[.agg #[.int .i64 n, .int .i64 bd], .agg #[.int .i64 n, .int .i64 ad]] w fun e w' => e = .returned (.int .i64 (1)) ∧ Below w.heap.size w w'))
    (H7 : Hid (∀ w, Calls Try.prog 24 #[.agg #[.int .i64 n, .int .i64 bd], .agg #[.int .i64 c.n, .int .i64 c.d]] w fun e w' => e = .returned (.int .i64 (1)) ∧ Below w.heap.size w w'))
    (H8 : Hid (∀ w, Calls Try.prog 18 #[.agg #[.int .i64 n, .int .i64 ad], .agg #[.int .i64 n, .int .i64 bd]] w fun e w' => e = .returned (.tuple #[.agg #[.int .i64 dn, .int .i64 u], .int .i64 3]) ∧ Below w.heap.size w w'))
    (ne : ¬ ad = bd)
    : Calls Try.prog 6 #[.agg #[.int .i64 n, .int .i64 ad], .agg #[.int .i64 n, .int .i64 bd], .agg #[.int .i64 c.n, .int .i64 c.d]] w fun e w' => e = .returned (.bool true) ∧ Below w.heap.size w w' := by
  obtain ⟨W, hW⟩ : ∃ W, W = Tri ⟨n, ad⟩ ⟨n, bd⟩ c w := ⟨_, rfl⟩
  have hat := tri_bx ⟨n, ad⟩ ⟨n, bd⟩ c w
  rw [← hW] at hat
  obtain ⟨⟨ka, la⟩, ⟨kb, lb⟩, ⟨kc, lc⟩, B0⟩ := hat
  unfold Tri Par at hW
  simp only at hW
  have HW := Lib.hid hW
  clear hW
  have na := World.block_lt_of_cell? W _ ka
  simp only at na
  have nb := World.block_lt_of_cell? W _ kb
  simp only at nb
  have nc := World.block_lt_of_cell? W _ kc
  simp only at nc
  go_enter Try.func6, Try.ntmps6
  go_wp2_with fail
  rw [← HW.out]
  refine (H1.out _).mono ?_
  rintro e w1 ⟨rfl, b1⟩
  have s1 : Below W.heap.size W w1 := below_step (by repeat first | exact Below.refl _ _ | refine below_drewN ?_ _ | refine Below.drew ?_ | refine Below.setCell ?_ (by simp <;> omega) _ | refine Below.alloc ?_ (by simp) _) b1 rfl
  have ka' := bx_keep s1 ⟨ka, la⟩
  clear ka la na
  obtain ⟨ka, la⟩ := ka'
  have kb' := bx_keep s1 ⟨kb, lb⟩
  clear kb lb nb
  obtain ⟨kb, lb⟩ := kb'
  have kc' := bx_keep s1 ⟨kc, lc⟩
  clear kc lc nc
  obtain ⟨kc, lc⟩ := kc'
  have na := World.block_lt_of_cell? w1 _ ka
  simp only at na
  have nb := World.block_lt_of_cell? w1 _ kb
  simp only at nb
  have nc := World.block_lt_of_cell? w1 _ kc
  simp only at nc
  have B1 := Below.trans B0 (s1.mono B0.size)
  go_wp2_with fail
  refine (H2.out _).mono ?_
  rintro e w2 ⟨rfl, b2⟩
  have s2 : Below w1.heap.size w1 w2 := below_step (by repeat first | exact Below.refl _ _ | refine below_drewN ?_ _ | refine Below.drew ?_ | refine Below.setCell ?_ (by simp <;> omega) _ | refine Below.alloc ?_ (by simp) _) b2 rfl
  have ka' := bx_keep s2 ⟨ka, la⟩
  clear ka la na
  obtain ⟨ka, la⟩ := ka'
  have kb' := bx_keep s2 ⟨kb, lb⟩
  clear kb lb nb
  obtain ⟨kb, lb⟩ := kb'
  have kc' := bx_keep s2 ⟨kc, lc⟩
  clear kc lc nc
  obtain ⟨kc, lc⟩ := kc'
  have na := World.block_lt_of_cell? w2 _ ka
  simp only at na
  have nb := World.block_lt_of_cell? w2 _ kb
  simp only at nb
  have nc := World.block_lt_of_cell? w2 _ kc
  simp only at nc
  have B2 := Below.trans B1 (s2.mono B1.size)
  clear B1
  go_wp2_with fail
  refine (H3.out _).mono ?_
  rintro e w3 ⟨rfl, b3⟩
  have s3 : Below w2.heap.size w2 w3 := below_step (by repeat first | exact Below.refl _ _ | refine below_drewN ?_ _ | refine Below.drew ?_ | refine Below.setCell ?_ (by simp <;> omega) _ | refine Below.alloc ?_ (by simp) _) b3 rfl
  have ka' := bx_keep s3 ⟨ka, la⟩
  clear ka la na
  obtain ⟨ka, la⟩ := ka'
  have kb' := bx_keep s3 ⟨kb, lb⟩
  clear kb lb nb
  obtain ⟨kb, lb⟩ := kb'
  have kc' := bx_keep s3 ⟨kc, lc⟩
  clear kc lc nc
  obtain ⟨kc, lc⟩ := kc'
  have na := World.block_lt_of_cell? w3 _ ka
  simp only at na
  have nb := World.block_lt_of_cell? w3 _ kb
  simp only at nb
  have nc := World.block_lt_of_cell? w3 _ kc
  simp only at nc
  have B3 := Below.trans B2 (s3.mono B2.size)
  clear B2
  go_wp2_with fail
  refine (H4.out _).mono ?_
  rintro e w4 ⟨rfl, b4⟩
  have s4 : Below w3.heap.size w3 w4 := below_step (by repeat first | exact Below.refl _ _ | refine below_drewN ?_ _ | refine Below.drew ?_ | refine Below.setCell ?_ (by simp <;> omega) _ | refine Below.alloc ?_ (by simp) _) b4 rfl
  have ka' := bx_keep s4 ⟨ka, la⟩
  clear ka la na
  obtain ⟨ka, la⟩ := ka'
  have kb' := bx_keep s4 ⟨kb, lb⟩
  clear kb lb nb
  obtain ⟨kb, lb⟩ := kb'
  have kc' := bx_keep s4 ⟨kc, lc⟩
  clear kc lc nc
  obtain ⟨kc, lc⟩ := kc'
  have na := World.block_lt_of_cell? w4 _ ka
  simp only at na
  have nb := World.block_lt_of_cell? w4 _ kb
  simp only at nb
  have nc := World.block_lt_of_cell? w4 _ kc
  simp only at nc
  have B4 := Below.trans B3 (s4.mono B3.size)
  clear B3
  go_wp2_with fail
  refine (H5.out _).mono ?_
  rintro e w5 ⟨rfl, b5⟩
  have s5 : Below w4.heap.size w4 w5 := below_step (by repeat first | exact Below.refl _ _ | refine below_drewN ?_ _ | refine Below.drew ?_ | refine Below.setCell ?_ (by simp <;> omega) _ | refine Below.alloc ?_ (by simp) _) b5 rfl
  have ka' := bx_keep s5 ⟨ka, la⟩
  clear ka la na
  obtain ⟨ka, la⟩ := ka'
  have kb' := bx_keep s5 ⟨kb, lb⟩
  clear kb lb nb
  obtain ⟨kb, lb⟩ := kb'
  have kc' := bx_keep s5 ⟨kc, lc⟩
  clear kc lc nc
  obtain ⟨kc, lc⟩ := kc'
  have na := World.block_lt_of_cell? w5 _ ka
  simp only at na
  have nb := World.block_lt_of_cell? w5 _ kb
  simp only at nb
  have nc := World.block_lt_of_cell? w5 _ kc
  simp only at nc
  have B5 := Below.trans B4 (s5.mono B4.size)
  clear B4
  go_wp2_with fail
  refine (H6.out _).mono ?_
  rintro e w6 ⟨rfl, b6⟩
  have s6 : Below w5.heap.size w5 w6 := below_step (by repeat first | exact Below.refl _ _ | refine below_drewN ?_ _ | refine Below.drew ?_ | refine Below.setCell ?_ (by simp <;> omega) _ | refine Below.alloc ?_ (by simp) _) b6 rfl
  have ka' := bx_keep s6 ⟨ka, la⟩
  clear ka la na
  obtain ⟨ka, la⟩ := ka'
  have kb' := bx_keep s6 ⟨kb, lb⟩
  clear kb lb nb
  obtain ⟨kb, lb⟩ := kb'
  have kc' := bx_keep s6 ⟨kc, lc⟩
  clear kc lc nc
  obtain ⟨kc, lc⟩ := kc'
  have na := World.block_lt_of_cell? w6 _ ka
  simp only at na
  have nb := World.block_lt_of_cell? w6 _ kb
  simp only at nb
  have nc := World.block_lt_of_cell? w6 _ kc
  simp only at nc
  have B6 := Below.trans B5 (s6.mono B5.size)
  clear B5
  go_wp2_with fail
  refine (H7.out _).mono ?_
  rintro e w7 ⟨rfl, b7⟩
  have s7 : Below w6.heap.size w6 w7 := below_step (by repeat first | exact Below.refl _ _ | refine below_drewN ?_ _ | refine Below.drew ?_ | refine Below.setCell ?_ (by simp <;> omega) _ | refine Below.alloc ?_ (by simp) _) b7 rfl
  have ka' := bx_keep s7 ⟨ka, la⟩
  clear ka la na
  obtain ⟨ka, la⟩ := ka'
  have kb' := bx_keep s7 ⟨kb, lb⟩
  clear kb lb nb
  obtain ⟨kb, lb⟩ := kb'
  have kc' := bx_keep s7 ⟨kc, lc⟩
  clear kc lc nc
  obtain ⟨kc, lc⟩ := kc'
  have na := World.block_lt_of_cell? w7 _ ka
  simp only at na
  have nb := World.block_lt_of_cell? w7 _ kb
  simp only at nb
  have nc := World.block_lt_of_cell? w7 _ kc
  simp only at nc
  have B7 := Below.trans B6 (s7.mono B6.size)
  clear B6
  go_wp2_with fail
  refine (H8.out _).mono ?_
  rintro e w8 ⟨rfl, b8⟩
  have s8 : Below w7.heap.size w7 w8 := below_step (by repeat first | exact Below.refl _ _ | refine below_drewN ?_ _ | refine Below.drew ?_ | refine Below.setCell ?_ (by simp <;> omega) _ | refine Below.alloc ?_ (by simp) _) b8 rfl
  have ka' := bx_keep s8 ⟨ka, la⟩
  clear ka la na
  obtain ⟨ka, la⟩ := ka'
  have kb' := bx_keep s8 ⟨kb, lb⟩
  clear kb lb nb
  obtain ⟨kb, lb⟩ := kb'
  have kc' := bx_keep s8 ⟨kc, lc⟩
  clear kc lc nc
  obtain ⟨kc, lc⟩ := kc'
  have na := World.block_lt_of_cell? w8 _ ka
  simp only at na
  have nb := World.block_lt_of_cell? w8 _ kb
  simp only at nb
  have nc := World.block_lt_of_cell? w8 _ kc
  simp only at nc
  have B8 := Below.trans B7 (s8.mono B7.size)
  clear B7
  go_wp2_with fail
  go_ret
  exact ⟨rfl, Below.trans B8 (Below.mono (by repeat first | exact Below.refl _ _ | refine below_drewN ?_ _ | refine Below.drew ?_ | refine Below.setCell ?_ (by simp <;> omega) _ | refine Below.alloc ?_ (by simp) _) B8.size)⟩

set_option maxRecDepth 100000 in
set_option maxHeartbeats 4000000 in
theorem order_ltdy0_0 (n ad bd : Int) (c : Q) (y z : Int) (dn u : Int) (w : World)
    (H1 : Hid (∀ w, Calls Try.prog 8 #[] w fun e w' => e = .returned (.bool true) ∧ Below w.heap.size w w'))
    (H2 : Hid (∀ w, Calls Try.prog 9 #[.agg #[.int .i64 n, .int .i64 ad]] w fun e w' => e = .returned (.bool true) ∧ Below w.heap.size w w'))
    (H3 : Hid (∀ w, Calls Try.prog 9 #[.agg #[.int .i64 n, .int .i64 bd]] w fun e w' => e = .returned (.bool true) ∧ Below w.heap.size w w'))
    (H4 : Hid (∀ w, Calls Try.prog 9 #[.agg #[.int .i64 c.n, .int .i64 c.d]] w fun e w' => e = .returned (.bool true) ∧ Below w.heap.size w w'))
    (H5 : Hid (∀ w, Calls Try.prog 24 #[.agg #[.int .i64 n, .int .i64 ad], .agg #[.int .i64 n, .int .i64 bd]] w fun e w' => e = .returned (.int .i64 (-1)) ∧ Below w.heap.size w w'))
    (H6 : Hid (∀ w, Calls Try.prog 24 #[.agg #[.int .i64 n, .int .i64 bd], .agg #[.int .i64 n, .int .i64 ad]] w fun e w' => e = .returned (.int .i64 (1)) ∧ Below w.heap.size w w'))
    (H7 : Hid (∀ w, Calls Try.prog 24 #[.agg #[.int .i64 n, .int .i64 bd], .agg #[.int .i64 c.n, .int .i64 c.d]] w fun e w' => e = .returned (.int .i64 y) ∧ Below w.heap.size w w'))
    (H8 : Hid (∀ w, Calls Try.prog 24 #[.agg #[.int .i64 n, .int .i64 ad], .agg #[.int .i64 c.n, .int .i64 c.d]] w fun e w' => e = .returned (.int .i64 z) ∧ Below w.heap.size w w'))
    (H9 : Hid (∀ w, Calls Try.prog 18 #[.agg #[.int .i64 n, .int .i64 ad], .agg #[.int .i64 n, .int .i64 bd]] w fun e w' => e = .returned (.tuple #[.agg #[.int .i64 dn, .int .i64 u], .int .i64 0]) ∧ Below w.heap.size w w'))
    (ne : ¬ ad = bd)
    (hy : y ≤ 0) (hz : z ≤ 0)
    (hd : decide (dn < 0) = true) (he : decide (0 < dn) = false)
    : Calls Try.prog 6 #[.agg #[.int .i64 n, .int .i64 ad], .agg #[.int .i64 n, .int .i64 bd], .agg #[.int .i64 c.n, .int .i64 c.d]] w fun e w' => e = .returned (.bool true) ∧ Below w.heap.size w w' := by
  obtain ⟨W, hW⟩ : ∃ W, W = Tri ⟨n, ad⟩ ⟨n, bd⟩ c w := ⟨_, rfl⟩
  have hat := tri_bx ⟨n, ad⟩ ⟨n, bd⟩ c w
  rw [← hW] at hat
  obtain ⟨⟨ka, la⟩, ⟨kb, lb⟩, ⟨kc, lc⟩, B0⟩ := hat
  unfold Tri Par at hW
  simp only at hW
  have HW := Lib.hid hW
  clear hW
  have na := World.block_lt_of_cell? W _ ka
  simp only at na
  have nb := World.block_lt_of_cell? W _ kb
  simp only at nb
  have nc := World.block_lt_of_cell? W _ kc
  simp only at nc
  go_enter Try.func6, Try.ntmps6
  go_wp2_with fail
  rw [← HW.out]
  refine (H1.out _).mono ?_
  rintro e w1 ⟨rfl, b1⟩
  have s1 : Below W.heap.size W w1 := below_step (by repeat first | exact Below.refl _ _ | refine below_drewN ?_ _ | refine Below.drew ?_ | refine Below.setCell ?_ (by simp <;> omega) _ | refine Below.alloc ?_ (by simp) _) b1 rfl
  have ka' := bx_keep s1 ⟨ka, la⟩
  clear ka la na
  obtain ⟨ka, la⟩ := ka'
  have kb' := bx_keep s1 ⟨kb, lb⟩
  clear kb lb nb
  obtain ⟨kb, lb⟩ := kb'
  have kc' := bx_keep s1 ⟨kc, lc⟩
  clear kc lc nc
  obtain ⟨kc, lc⟩ := kc'
  have na := World.block_lt_of_cell? w1 _ ka
  simp only at na
  have nb := World.block_lt_of_cell? w1 _ kb
  simp only at nb
  have nc := World.block_lt_of_cell? w1 _ kc
  simp only at nc
  have B1 := Below.trans B0 (s1.mono B0.size)
  go_wp2_with fail
  refine (H2.out _).mono ?_
  rintro e w2 ⟨rfl, b2⟩
  have s2 : Below w1.heap.size w1 w2 := below_step (by repeat first | exact Below.refl _ _ | refine below_drewN ?_ _ | refine Below.drew ?_ | refine Below.setCell ?_ (by simp <;> omega) _ | refine Below.alloc ?_ (by simp) _) b2 rfl
  have ka' := bx_keep s2 ⟨ka, la⟩
  clear ka la na
  obtain ⟨ka, la⟩ := ka'
  have kb' := bx_keep s2 ⟨kb, lb⟩
  clear kb lb nb
  obtain ⟨kb, lb⟩ := kb'
  have kc' := bx_keep s2 ⟨kc, lc⟩
  clear kc lc nc
  obtain ⟨kc, lc⟩ := kc'
  have na := World.block_lt_of_cell? w2 _ ka
  simp only at na
  have nb := World.block_lt_of_cell? w2 _ kb
  simp only at nb
  have nc := World.block_lt_of_cell? w2 _ kc
  simp only at nc
  have B2 := Below.trans B1 (s2.mono B1.size)
  clear B1
  go_wp2_with fail
  refine (H3.out _).mono ?_
  rintro e w3 ⟨rfl, b3⟩
  have s3 : Below w2.heap.size w2 w3 := below_step (by repeat first | exact Below.refl _ _ | refine below_drewN ?_ _ | refine Below.drew ?_ | refine Below.setCell ?_ (by simp <;> omega) _ | refine Below.alloc ?_ (by simp) _) b3 rfl
  have ka' := bx_keep s3 ⟨ka, la⟩
  clear ka la na
  obtain ⟨ka, la⟩ := ka'
  have kb' := bx_keep s3 ⟨kb, lb⟩
  clear kb lb nb
  obtain ⟨kb, lb⟩ := kb'
  have kc' := bx_keep s3 ⟨kc, lc⟩
  clear kc lc nc
  obtain ⟨kc, lc⟩ := kc'
  have na := World.block_lt_of_cell? w3 _ ka
  simp only at na
  have nb := World.block_lt_of_cell? w3 _ kb
  simp only at nb
  have nc := World.block_lt_of_cell? w3 _ kc
  simp only at nc
  have B3 := Below.trans B2 (s3.mono B2.size)
  clear B2
  go_wp2_with fail
  refine (H4.out _).mono ?_
  rintro e w4 ⟨rfl, b4⟩
  have s4 : Below w3.heap.size w3 w4 := below_step (by repeat first | exact Below.refl _ _ | refine below_drewN ?_ _ | refine Below.drew ?_ | refine Below.setCell ?_ (by simp <;> omega) _ | refine Below.alloc ?_ (by simp) _) b4 rfl
  have ka' := bx_keep s4 ⟨ka, la⟩
  clear ka la na
  obtain ⟨ka, la⟩ := ka'
  have kb' := bx_keep s4 ⟨kb, lb⟩
  clear kb lb nb
  obtain ⟨kb, lb⟩ := kb'
  have kc' := bx_keep s4 ⟨kc, lc⟩
  clear kc lc nc
  obtain ⟨kc, lc⟩ := kc'
  have na := World.block_lt_of_cell? w4 _ ka
  simp only at na
  have nb := World.block_lt_of_cell? w4 _ kb
  simp only at nb
  have nc := World.block_lt_of_cell? w4 _ kc
  simp only at nc
  have B4 := Below.trans B3 (s4.mono B3.size)
  clear B3
  go_wp2_with fail
  refine (H5.out _).mono ?_
  rintro e w5 ⟨rfl, b5⟩
  have s5 : Below w4.heap.size w4 w5 := below_step (by repeat first | exact Below.refl _ _ | refine below_drewN ?_ _ | refine Below.drew ?_ | refine Below.setCell ?_ (by simp <;> omega) _ | refine Below.alloc ?_ (by simp) _) b5 rfl
  have ka' := bx_keep s5 ⟨ka, la⟩
  clear ka la na
  obtain ⟨ka, la⟩ := ka'
  have kb' := bx_keep s5 ⟨kb, lb⟩
  clear kb lb nb
  obtain ⟨kb, lb⟩ := kb'
  have kc' := bx_keep s5 ⟨kc, lc⟩
  clear kc lc nc
  obtain ⟨kc, lc⟩ := kc'
  have na := World.block_lt_of_cell? w5 _ ka
  simp only at na
  have nb := World.block_lt_of_cell? w5 _ kb
  simp only at nb
  have nc := World.block_lt_of_cell? w5 _ kc
  simp only at nc
  have B5 := Below.trans B4 (s5.mono B4.size)
  clear B4
  go_wp2_with fail
  refine (H6.out _).mono ?_
  rintro e w6 ⟨rfl, b6⟩
  have s6 : Below w5.heap.size w5 w6 := below_step (by repeat first | exact Below.refl _ _ | refine below_drewN ?_ _ | refine Below.drew ?_ | refine Below.setCell ?_ (by simp <;> omega) _ | refine Below.alloc ?_ (by simp) _) b6 rfl
  have ka' := bx_keep s6 ⟨ka, la⟩
  clear ka la na
  obtain ⟨ka, la⟩ := ka'
  have kb' := bx_keep s6 ⟨kb, lb⟩
  clear kb lb nb
  obtain ⟨kb, lb⟩ := kb'
  have kc' := bx_keep s6 ⟨kc, lc⟩
  clear kc lc nc
  obtain ⟨kc, lc⟩ := kc'
  have na := World.block_lt_of_cell? w6 _ ka
  simp only at na
  have nb := World.block_lt_of_cell? w6 _ kb
  simp only at nb
  have nc := World.block_lt_of_cell? w6 _ kc
  simp only at nc
  have B6 := Below.trans B5 (s6.mono B5.size)
  clear B5
  go_wp2_with fail
  refine (H7.out _).mono ?_
  rintro e w7 ⟨rfl, b7⟩
  have s7 : Below w6.heap.size w6 w7 := below_step (by repeat first | exact Below.refl _ _ | refine below_drewN ?_ _ | refine Below.drew ?_ | refine Below.setCell ?_ (by simp <;> omega) _ | refine Below.alloc ?_ (by simp) _) b7 rfl
  have ka' := bx_keep s7 ⟨ka, la⟩
  clear ka la na
  obtain ⟨ka, la⟩ := ka'
  have kb' := bx_keep s7 ⟨kb, lb⟩
  clear kb lb nb
  obtain ⟨kb, lb⟩ := kb'
  have kc' := bx_keep s7 ⟨kc, lc⟩
  clear kc lc nc
  obtain ⟨kc, lc⟩ := kc'
  have na := World.block_lt_of_cell? w7 _ ka
  simp only at na
  have nb := World.block_lt_of_cell? w7 _ kb
  simp only at nb
  have nc := World.block_lt_of_cell? w7 _ kc
  simp only at nc
  have B7 := Below.trans B6 (s7.mono B6.size)
  clear B6
  go_wp2_with fail
  refine (H8.out _).mono ?_
  rintro e w8 ⟨rfl, b8⟩
  have s8 : Below w7.heap.size w7 w8 := below_step (by repeat first | exact Below.refl _ _ | refine below_drewN ?_ _ | refine Below.drew ?_ | refine Below.setCell ?_ (by simp <;> omega) _ | refine Below.alloc ?_ (by simp) _) b8 rfl
  have ka' := bx_keep s8 ⟨ka, la⟩
  clear ka la na
  obtain ⟨ka, la⟩ := ka'
  have kb' := bx_keep s8 ⟨kb, lb⟩
  clear kb lb nb
  obtain ⟨kb, lb⟩ := kb'
  have kc' := bx_keep s8 ⟨kc, lc⟩
  clear kc lc nc
  obtain ⟨kc, lc⟩ := kc'
  have na := World.block_lt_of_cell? w8 _ ka
  simp only at na
  have nb := World.block_lt_of_cell? w8 _ kb
  simp only at nb
  have nc := World.block_lt_of_cell? w8 _ kc
  simp only at nc
  have B8 := Below.trans B7 (s8.mono B7.size)
  clear B7
  go_wp2_with fail
  refine (H9.out _).mono ?_
  rintro e w9 ⟨rfl, b9⟩
  have s9 : Below w8.heap.size w8 w9 := below_step (by repeat first | exact Below.refl _ _ | refine below_drewN ?_ _ | refine Below.drew ?_ | refine Below.setCell ?_ (by simp <;> omega) _ | refine Below.alloc ?_ (by simp) _) b9 rfl
  have ka' := bx_keep s9 ⟨ka, la⟩
  clear ka la na
  obtain ⟨ka, la⟩ := ka'
  have kb' := bx_keep s9 ⟨kb, lb⟩
  clear kb lb nb
  obtain ⟨kb, lb⟩ := kb'
  have kc' := bx_keep s9 ⟨kc, lc⟩
  clear kc lc nc
  obtain ⟨kc, lc⟩ := kc'
  have na := World.block_lt_of_cell? w9 _ ka
  simp only at na
  have nb := World.block_lt_of_cell? w9 _ kb
  simp only at nb
  have nc := World.block_lt_of_cell? w9 _ kc
  simp only at nc
  have B9 := Below.trans B8 (s9.mono B8.size)
  clear B8
  go_wp2_with fail
  go_ret
  exact ⟨rfl, Below.trans B9 (Below.mono (by repeat first | exact Below.refl _ _ | refine below_drewN ?_ _ | refine Below.drew ?_ | refine Below.setCell ?_ (by simp <;> omega) _ | refine Below.alloc ?_ (by simp) _) B9.size)⟩

set_option maxRecDepth 100000 in
set_option maxHeartbeats 4000000 in
theorem order_ltdy0_3 (n ad bd : Int) (c : Q) (y z : Int) (dn u : Int) (w : World)
    (H1 : Hid (∀ w, Calls Try.prog 8 #[] w fun e w' => e = .returned (.bool true) ∧ Below w.heap.size w w'))
    (H2 : Hid (∀ w, Calls Try.prog 9 #[.agg #[.int .i64 n, .int .i64 ad]] w fun e w' => e = .returned (.bool true) ∧ Below w.heap.size w w'))
    (H3 : Hid (∀ w, Calls Try.prog 9 #[.agg #[.int .i64 n, .int .i64 bd]] w fun e w' => e = .returned (.bool true) ∧ Below w.heap.size w w'))
    (H4 : Hid (∀ w, Calls Try.prog 9 #[.agg #[.int .i64 c.n, .int .i64 c.d]] w fun e w' => e = .returned (.bool true) ∧ Below w.heap.size w w'))
    (H5 : Hid (∀ w, Calls Try.prog 24 #[.agg #[.int .i64 n, .int .i64 ad], .agg #[.int .i64 n, .int .i64 bd]] w fun e w' => e = .returned (.int .i64 (-1)) ∧ Below w.heap.size w w'))
    (H6 : Hid (∀ w, Calls Try.prog 24 #[.agg #[.int .i64 n, .int .i64 bd], .agg #[.int .i64 n, .int .i64 ad]] w fun e w' => e = .returned (.int .i64 (1)) ∧ Below w.heap.size w w'))
    (H7 : Hid (∀ w, Calls Try.prog 24 #[.agg #[.int .i64 n, .int .i64 bd], .agg #[.int .i64 c.n, .int .i64 c.d]] w fun e w' => e = .returned (.int .i64 y) ∧ Below w.heap.size w w'))
    (H8 : Hid (∀ w, Calls Try.prog 24 #[.agg #[.int .i64 n, .int .i64 ad], .agg #[.int .i64 c.n, .int .i64 c.d]] w fun e w' => e = .returned (.int .i64 z) ∧ Below w.heap.size w w'))
    (H9 : Hid (∀ w, Calls Try.prog 18 #[.agg #[.int .i64 n, .int .i64 ad], .agg #[.int .i64 n, .int .i64 bd]] w fun e w' => e = .returned (.tuple #[.agg #[.int .i64 dn, .int .i64 u], .int .i64 3]) ∧ Below w.heap.size w w'))
    (ne : ¬ ad = bd)
    (hy : y ≤ 0) (hz : z ≤ 0)
    : Calls Try.prog 6 #[.agg #[.int .i64 n, .int .i64 ad], .agg #[.int .i64 n, .int .i64 bd], .agg #[.int .i64 c.n, .int .i64 c.d]] w fun e w' => e = .returned (.bool true) ∧ Below w.heap.size w w' := by
  obtain ⟨W, hW⟩ : ∃ W, W = Tri ⟨n, ad⟩ ⟨n, bd⟩ c w := ⟨_, rfl⟩
  have hat := tri_bx ⟨n, ad⟩ ⟨n, bd⟩ c w
  rw [← hW] at hat
  obtain ⟨⟨ka, la⟩, ⟨kb, lb⟩, ⟨kc, lc⟩, B0⟩ := hat
  unfold Tri Par at hW
  simp only at hW
  have HW := Lib.hid hW
  clear hW
  have na := World.block_lt_of_cell? W _ ka
  simp only at na
  have nb := World.block_lt_of_cell? W _ kb
  simp only at nb
  have nc := World.block_lt_of_cell? W _ kc
  simp only at nc
  go_enter Try.func6, Try.ntmps6
  go_wp2_with fail
  rw [← HW.out]
  refine (H1.out _).mono ?_
  rintro e w1 ⟨rfl, b1⟩
  have s1 : Below W.heap.size W w1 := below_step (by repeat first | exact Below.refl _ _ | refine below_drewN ?_ _ | refine Below.drew ?_ | refine Below.setCell ?_ (by simp <;> omega) _ | refine Below.alloc ?_ (by simp) _) b1 rfl
  have ka' := bx_keep s1 ⟨ka, la⟩
  clear ka la na
  obtain ⟨ka, la⟩ := ka'
  have kb' := bx_keep s1 ⟨kb, lb⟩
  clear kb lb nb
  obtain ⟨kb, lb⟩ := kb'
  have kc' := bx_keep s1 ⟨kc, lc⟩
  clear kc lc nc
  obtain ⟨kc, lc⟩ := kc'
  have na := World.block_lt_of_cell? w1 _ ka
  simp only at na
  have nb := World.block_lt_of_cell? w1 _ kb
  simp only at nb
  have nc := World.block_lt_of_cell? w1 _ kc
  simp only at nc
  have B1 := Below.trans B0 (s1.mono B0.size)
  go_wp2_with fail
  refine (H2.out _).mono ?_
  rintro e w2 ⟨rfl, b2⟩
  have s2 : Below w1.heap.size w1 w2 := below_step (by repeat first | exact Below.refl _ _ | refine below_drewN ?_ _ | refine Below.drew ?_ | refine Below.setCell ?_ (by simp <;> omega) _ | refine Below.alloc ?_ (by simp) _) b2 rfl
  have ka' := bx_keep s2 ⟨ka, la⟩
  clear ka la na
  obtain ⟨ka, la⟩ := ka'
  have kb' := bx_keep s2 ⟨kb, lb⟩
  clear kb lb nb
  obtain ⟨kb, lb⟩ := kb'
  have kc' := bx_keep s2 ⟨kc, lc⟩
  clear kc lc nc
  obtain ⟨kc, lc⟩ := kc'
  have na := World.block_lt_of_cell? w2 _ ka
  simp only at na
  have nb := World.block_lt_of_cell? w2 _ kb
  simp only at nb
  have nc := World.block_lt_of_cell? w2 _ kc
  simp only at nc
  have B2 := Below.trans B1 (s2.mono B1.size)
  clear B1
  go_wp2_with fail
  refine (H3.out _).mono ?_
  rintro e w3 ⟨rfl, b3⟩
  have s3 : Below w2.heap.size w2 w3 := below_step (by repeat first | exact Below.refl _ _ | refine below_drewN ?_ _ | refine Below.drew ?_ | refine Below.setCell ?_ (by simp <;> omega) _ | refine Below.alloc ?_ (by simp) _) b3 rfl
  have ka' := bx_keep s3 ⟨ka, la⟩
  clear ka la na
  obtain ⟨ka, la⟩ := ka'
  have kb' := bx_keep s3 ⟨kb, lb⟩
  clear kb lb nb
  obtain ⟨kb, lb⟩ := kb'
  have kc' := bx_keep s3 ⟨kc, lc⟩
  clear kc lc nc
  obtain ⟨kc, lc⟩ := kc'
  have na := World.block_lt_of_cell? w3 _ ka
  simp only at na
  have nb := World.block_lt_of_cell? w3 _ kb
  simp only at nb
  have nc := World.block_lt_of_cell? w3 _ kc
  simp only at nc
  have B3 := Below.trans B2 (s3.mono B2.size)
  clear B2
  go_wp2_with fail
  refine (H4.out _).mono ?_
  rintro e w4 ⟨rfl, b4⟩
  have s4 : Below w3.heap.size w3 w4 := below_step (by repeat first | exact Below.refl _ _ | refine below_drewN ?_ _ | refine Below.drew ?_ | refine Below.setCell ?_ (by simp <;> omega) _ | refine Below.alloc ?_ (by simp) _) b4 rfl
  have ka' := bx_keep s4 ⟨ka, la⟩
  clear ka la na
  obtain ⟨ka, la⟩ := ka'
  have kb' := bx_keep s4 ⟨kb, lb⟩
  clear kb lb nb
  obtain ⟨kb, lb⟩ := kb'
  have kc' := bx_keep s4 ⟨kc, lc⟩
  clear kc lc nc
  obtain ⟨kc, lc⟩ := kc'
  have na := World.block_lt_of_cell? w4 _ ka
  simp only at na
  have nb := World.block_lt_of_cell? w4 _ kb
  simp only at nb
  have nc := World.block_lt_of_cell? w4 _ kc
  simp only at nc
  have B4 := Below.trans B3 (s4.mono B3.size)
  clear B3
  go_wp2_with fail
  refine (H5.out _).mono ?_
  rintro e w5 ⟨rfl, b5⟩
  have s5 : Below w4.heap.size w4 w5 := below_step (by repeat first | exact Below.refl _ _ | refine below_drewN ?_ _ | refine Below.drew ?_ | refine Below.setCell ?_ (by simp <;> omega) _ | refine Below.alloc ?_ (by simp) _) b5 rfl
  have ka' := bx_keep s5 ⟨ka, la⟩
  clear ka la na
  obtain ⟨ka, la⟩ := ka'
  have kb' := bx_keep s5 ⟨kb, lb⟩
  clear kb lb nb
  obtain ⟨kb, lb⟩ := kb'
  have kc' := bx_keep s5 ⟨kc, lc⟩
  clear kc lc nc
  obtain ⟨kc, lc⟩ := kc'
  have na := World.block_lt_of_cell? w5 _ ka
  simp only at na
  have nb := World.block_lt_of_cell? w5 _ kb
  simp only at nb
  have nc := World.block_lt_of_cell? w5 _ kc
  simp only at nc
  have B5 := Below.trans B4 (s5.mono B4.size)
  clear B4
  go_wp2_with fail
  refine (H6.out _).mono ?_
  rintro e w6 ⟨rfl, b6⟩
  have s6 : Below w5.heap.size w5 w6 := below_step (by repeat first | exact Below.refl _ _ | refine below_drewN ?_ _ | refine Below.drew ?_ | refine Below.setCell ?_ (by simp <;> omega) _ | refine Below.alloc ?_ (by simp) _) b6 rfl
  have ka' := bx_keep s6 ⟨ka, la⟩
  clear ka la na
  obtain ⟨ka, la⟩ := ka'
  have kb' := bx_keep s6 ⟨kb, lb⟩
  clear kb lb nb
  obtain ⟨kb, lb⟩ := kb'
  have kc' := bx_keep s6 ⟨kc, lc⟩
  clear kc lc nc
  obtain ⟨kc, lc⟩ := kc'
  have na := World.block_lt_of_cell? w6 _ ka
  simp only at na
  have nb := World.block_lt_of_cell? w6 _ kb
  simp only at nb
  have nc := World.block_lt_of_cell? w6 _ kc
  simp only at nc
  have B6 := Below.trans B5 (s6.mono B5.size)
  clear B5
  go_wp2_with fail
  refine (H7.out _).mono ?_
  rintro e w7 ⟨rfl, b7⟩
  have s7 : Below w6.heap.size w6 w7 := below_step (by repeat first | exact Below.refl _ _ | refine below_drewN ?_ _ | refine Below.drew ?_ | refine Below.setCell ?_ (by simp <;> omega) _ | refine Below.alloc ?_ (by simp) _) b7 rfl
  have ka' := bx_keep s7 ⟨ka, la⟩
  clear ka la na
  obtain ⟨ka, la⟩ := ka'
  have kb' := bx_keep s7 ⟨kb, lb⟩
  clear kb lb nb
  obtain ⟨kb, lb⟩ := kb'
  have kc' := bx_keep s7 ⟨kc, lc⟩
  clear kc lc nc
  obtain ⟨kc, lc⟩ := kc'
  have na := World.block_lt_of_cell? w7 _ ka
  simp only at na
  have nb := World.block_lt_of_cell? w7 _ kb
  simp only at nb
  have nc := World.block_lt_of_cell? w7 _ kc
  simp only at nc
  have B7 := Below.trans B6 (s7.mono B6.size)
  clear B6
  go_wp2_with fail
  refine (H8.out _).mono ?_
  rintro e w8 ⟨rfl, b8⟩
  have s8 : Below w7.heap.size w7 w8 := below_step (by repeat first | exact Below.refl _ _ | refine below_drewN ?_ _ | refine Below.drew ?_ | refine Below.setCell ?_ (by simp <;> omega) _ | refine Below.alloc ?_ (by simp) _) b8 rfl
  have ka' := bx_keep s8 ⟨ka, la⟩
  clear ka la na
  obtain ⟨ka, la⟩ := ka'
  have kb' := bx_keep s8 ⟨kb, lb⟩
  clear kb lb nb
  obtain ⟨kb, lb⟩ := kb'
  have kc' := bx_keep s8 ⟨kc, lc⟩
  clear kc lc nc
  obtain ⟨kc, lc⟩ := kc'
  have na := World.block_lt_of_cell? w8 _ ka
  simp only at na
  have nb := World.block_lt_of_cell? w8 _ kb
  simp only at nb
  have nc := World.block_lt_of_cell? w8 _ kc
  simp only at nc
  have B8 := Below.trans B7 (s8.mono B7.size)
  clear B7
  go_wp2_with fail
  refine (H9.out _).mono ?_
  rintro e w9 ⟨rfl, b9⟩
  have s9 : Below w8.heap.size w8 w9 := below_step (by repeat first | exact Below.refl _ _ | refine below_drewN ?_ _ | refine Below.drew ?_ | refine Below.setCell ?_ (by simp <;> omega) _ | refine Below.alloc ?_ (by simp) _) b9 rfl
  have ka' := bx_keep s9 ⟨ka, la⟩
  clear ka la na
  obtain ⟨ka, la⟩ := ka'
  have kb' := bx_keep s9 ⟨kb, lb⟩
  clear kb lb nb
  obtain ⟨kb, lb⟩ := kb'
  have kc' := bx_keep s9 ⟨kc, lc⟩
  clear kc lc nc
  obtain ⟨kc, lc⟩ := kc'
  have na := World.block_lt_of_cell? w9 _ ka
  simp only at na
  have nb := World.block_lt_of_cell? w9 _ kb
  simp only at nb
  have nc := World.block_lt_of_cell? w9 _ kc
  simp only at nc
  have B9 := Below.trans B8 (s9.mono B8.size)
  clear B8
  go_wp2_with fail
  go_ret
  exact ⟨rfl, Below.trans B9 (Below.mono (by repeat first | exact Below.refl _ _ | refine below_drewN ?_ _ | refine Below.drew ?_ | refine Below.setCell ?_ (by simp <;> omega) _ | refine Below.alloc ?_ (by simp) _) B9.size)⟩

set_option maxRecDepth 100000 in
set_option maxHeartbeats 4000000 in
theorem order_gtn_0 (a b c : Q) (dn u : Int) (w : World)
    (H1 : Hid (∀ w, Calls Try.prog 8 #[] w fun e w' => e = .returned (.bool true) ∧ Below w.heap.size w w'))
    (H2 : Hid (∀ w, Calls Try.prog 9 #[.agg #[.int .i64 a.n, .int .i64 a.d]] w fun e w' => e = .returned (.bool true) ∧ Below w.heap.size w w'))
    (H3 : Hid (∀ w, Calls Try.prog 9 #[.agg #[.int .i64 b.n, .int .i64 b.d]] w fun e w' => e = .returned (.bool true) ∧ Below w.heap.size w w'))
    (H4 : Hid (∀ w, Calls Try.prog 9 #[.agg #[.int .i64 c.n, .int .i64 c.d]] w fun e w' => e = .returned (.bool true) ∧ Below w.heap.size w w'))
    (H5 : Hid (∀ w, Calls Try.prog 24 #[.agg #[.int .i64 a.n, .int .i64 a.d], .agg #[.int .i64 b.n, .int .i64 b.d]] w fun e w' => e = .returned (.int .i64 (1)) ∧ Below w.heap.size w w'))
    (H6 : Hid (∀ w, Calls Try.prog 24 #[.agg #[.int .i64 b.n, .int .i64 b.d], .agg #[.int .i64 a.n, .int .i64 a.d]] w fun e w' => e = .returned (.int .i64 (-1)) ∧ Below w.heap.size w w'))
    (H7 : Hid (∀ w, Calls Try.prog 18 #[.agg #[.int .i64 a.n, .int .i64 a.d], .agg #[.int .i64 b.n, .int .i64 b.d]] w fun e w' => e = .returned (.tuple #[.agg #[.int .i64 dn, .int .i64 u], .int .i64 0]) ∧ Below w.heap.size w w'))
    (ne : ¬ a.n = b.n)
    (hd : decide (0 < dn) = true) (he : decide (dn < 0) = false)
    : Calls Try.prog 6 #[.agg #[.int .i64 a.n, .int .i64 a.d], .agg #[.int .i64 b.n, .int .i64 b.d], .agg #[.int .i64 c.n, .int .i64 c.d]] w fun e w' => e = .returned (.bool true) ∧ Below w.heap.size w w' := by
  obtain ⟨W, hW⟩ : ∃ W, W = Tri a b c w := ⟨_, rfl⟩
  have hat := tri_bx a b c w
  rw [← hW] at hat
  obtain ⟨⟨ka, la⟩, ⟨kb, lb⟩, ⟨kc, lc⟩, B0⟩ := hat
  unfold Tri Par at hW
  have HW := Lib.hid hW
  clear hW
  have na := World.block_lt_of_cell? W _ ka
  simp only at na
  have nb := World.block_lt_of_cell? W _ kb
  simp only at nb
  have nc := World.block_lt_of_cell? W _ kc
  simp only at nc
  go_enter Try.func6, Try.ntmps6
  go_wp2_with fail
  rw [← HW.out]
  refine (H1.out _).mono ?_
  rintro e w1 ⟨rfl, b1⟩
  have s1 : Below W.heap.size W w1 := below_step (by repeat first | exact Below.refl _ _ | refine below_drewN ?_ _ | refine Below.drew ?_ | refine Below.setCell ?_ (by simp <;> omega) _ | refine Below.alloc ?_ (by simp) _) b1 rfl
  have ka' := bx_keep s1 ⟨ka, la⟩
  clear ka la na
  obtain ⟨ka, la⟩ := ka'
  have kb' := bx_keep s1 ⟨kb, lb⟩
  clear kb lb nb
  obtain ⟨kb, lb⟩ := kb'
  have kc' := bx_keep s1 ⟨kc, lc⟩
  clear kc lc nc
  obtain ⟨kc, lc⟩ := kc'
  have na := World.block_lt_of_cell? w1 _ ka
  simp only at na
  have nb := World.block_lt_of_cell? w1 _ kb
  simp only at nb
  have nc := World.block_lt_of_cell? w1 _ kc
  simp only at nc
  have B1 := Below.trans B0 (s1.mono B0.size)
  go_wp2_with fail
  refine (H2.out _).mono ?_
  rintro e w2 ⟨rfl, b2⟩
  have s2 : Below w1.heap.size w1 w2 := below_step (by repeat first | exact Below.refl _ _ | refine below_drewN ?_ _ | refine Below.drew ?_ | refine Below.setCell ?_ (by simp <;> omega) _ | refine Below.alloc ?_ (by simp) _) b2 rfl
  have ka' := bx_keep s2 ⟨ka, la⟩
  clear ka la na
  obtain ⟨ka, la⟩ := ka'
  have kb' := bx_keep s2 ⟨kb, lb⟩
  clear kb lb nb
  obtain ⟨kb, lb⟩ := kb'
  have kc' := bx_keep s2 ⟨kc, lc⟩
  clear kc lc nc
  obtain ⟨kc, lc⟩ := kc'
  have na := World.block_lt_of_cell? w2 _ ka
  simp only at na
  have nb := World.block_lt_of_cell? w2 _ kb
  simp only at nb
  have nc := World.block_lt_of_cell? w2 _ kc
  simp only at nc
  have B2 := Below.trans B1 (s2.mono B1.size)
  clear B1
  go_wp2_with fail
  refine (H3.out _).mono ?_
  rintro e w3 ⟨rfl, b3⟩
  have s3 : Below w2.heap.size w2 w3 := below_step (by repeat first | exact Below.refl _ _ | refine below_drewN ?_ _ | refine Below.drew ?_ | refine Below.setCell ?_ (by simp <;> omega) _ | refine Below.alloc ?_ (by simp) _) b3 rfl
  have ka' := bx_keep s3 ⟨ka, la⟩
  clear ka la na
  obtain ⟨ka, la⟩ := ka'
  have kb' := bx_keep s3 ⟨kb, lb⟩
  clear kb lb nb
  obtain ⟨kb, lb⟩ := kb'
  have kc' := bx_keep s3 ⟨kc, lc⟩
  clear kc lc nc
  obtain ⟨kc, lc⟩ := kc'
  have na := World.block_lt_of_cell? w3 _ ka
  simp only at na
  have nb := World.block_lt_of_cell? w3 _ kb
  simp only at nb
  have nc := World.block_lt_of_cell? w3 _ kc
  simp only at nc
  have B3 := Below.trans B2 (s3.mono B2.size)
  clear B2
  go_wp2_with fail
  refine (H4.out _).mono ?_
  rintro e w4 ⟨rfl, b4⟩
  have s4 : Below w3.heap.size w3 w4 := below_step (by repeat first | exact Below.refl _ _ | refine below_drewN ?_ _ | refine Below.drew ?_ | refine Below.setCell ?_ (by simp <;> omega) _ | refine Below.alloc ?_ (by simp) _) b4 rfl
  have ka' := bx_keep s4 ⟨ka, la⟩
  clear ka la na
  obtain ⟨ka, la⟩ := ka'
  have kb' := bx_keep s4 ⟨kb, lb⟩
  clear kb lb nb
  obtain ⟨kb, lb⟩ := kb'
  have kc' := bx_keep s4 ⟨kc, lc⟩
  clear kc lc nc
  obtain ⟨kc, lc⟩ := kc'
  have na := World.block_lt_of_cell? w4 _ ka
  simp only at na
  have nb := World.block_lt_of_cell? w4 _ kb
  simp only at nb
  have nc := World.block_lt_of_cell? w4 _ kc
  simp only at nc
  have B4 := Below.trans B3 (s4.mono B3.size)
  clear B3
  go_wp2_with fail
  refine (H5.out _).mono ?_
  rintro e w5 ⟨rfl, b5⟩
  have s5 : Below w4.heap.size w4 w5 := below_step (by repeat first | exact Below.refl _ _ | refine below_drewN ?_ _ | refine Below.drew ?_ | refine Below.setCell ?_ (by simp <;> omega) _ | refine Below.alloc ?_ (by simp) _) b5 rfl
  have ka' := bx_keep s5 ⟨ka, la⟩
  clear ka la na
  obtain ⟨ka, la⟩ := ka'
  have kb' := bx_keep s5 ⟨kb, lb⟩
  clear kb lb nb
  obtain ⟨kb, lb⟩ := kb'
  have kc' := bx_keep s5 ⟨kc, lc⟩
  clear kc lc nc
  obtain ⟨kc, lc⟩ := kc'
  have na := World.block_lt_of_cell? w5 _ ka
  simp only at na
  have nb := World.block_lt_of_cell? w5 _ kb
  simp only at nb
  have nc := World.block_lt_of_cell? w5 _ kc
  simp only at nc
  have B5 := Below.trans B4 (s5.mono B4.size)
  clear B4
  go_wp2_with fail
  refine (H6.out _).mono ?_
  rintro e w6 ⟨rfl, b6⟩
  have s6 : Below w5.heap.size w5 w6 := below_step (by repeat first | exact Below.refl _ _ | refine below_drewN ?_ _ | refine Below.drew ?_ | refine Below.setCell ?_ (by simp <;> omega) _ | refine Below.alloc ?_ (by simp) _) b6 rfl
  have ka' := bx_keep s6 ⟨ka, la⟩
  clear ka la na
  obtain ⟨ka, la⟩ := ka'
  have kb' := bx_keep s6 ⟨kb, lb⟩
  clear kb lb nb
  obtain ⟨kb, lb⟩ := kb'
  have kc' := bx_keep s6 ⟨kc, lc⟩
  clear kc lc nc
  obtain ⟨kc, lc⟩ := kc'
  have na := World.block_lt_of_cell? w6 _ ka
  simp only at na
  have nb := World.block_lt_of_cell? w6 _ kb
  simp only at nb
  have nc := World.block_lt_of_cell? w6 _ kc
  simp only at nc
  have B6 := Below.trans B5 (s6.mono B5.size)
  clear B5
  go_wp2_with fail
  refine (H7.out _).mono ?_
  rintro e w7 ⟨rfl, b7⟩
  have s7 : Below w6.heap.size w6 w7 := below_step (by repeat first | exact Below.refl _ _ | refine below_drewN ?_ _ | refine Below.drew ?_ | refine Below.setCell ?_ (by simp <;> omega) _ | refine Below.alloc ?_ (by simp) _) b7 rfl
  have ka' := bx_keep s7 ⟨ka, la⟩
  clear ka la na
  obtain ⟨ka, la⟩ := ka'
  have kb' := bx_keep s7 ⟨kb, lb⟩
  clear kb lb nb
  obtain ⟨kb, lb⟩ := kb'
  have kc' := bx_keep s7 ⟨kc, lc⟩
  clear kc lc nc
  obtain ⟨kc, lc⟩ := kc'
  have na := World.block_lt_of_cell? w7 _ ka
  simp only at na
  have nb := World.block_lt_of_cell? w7 _ kb
  simp only at nb
  have nc := World.block_lt_of_cell? w7 _ kc
  simp only at nc
  have B7 := Below.trans B6 (s7.mono B6.size)
  clear B6
  go_wp2_with fail
  go_ret
  exact ⟨rfl, Below.trans B7 (Below.mono (by repeat first | exact Below.refl _ _ | refine below_drewN ?_ _ | refine Below.drew ?_ | refine Below.setCell ?_ (by simp <;> omega) _ | refine Below.alloc ?_ (by simp) _) B7.size)⟩

set_option maxRecDepth 100000 in
set_option maxHeartbeats 4000000 in
theorem order_gtn_3 (a b c : Q) (dn u : Int) (w : World)
    (H1 : Hid (∀ w, Calls Try.prog 8 #[] w fun e w' => e = .returned (.bool true) ∧ Below w.heap.size w w'))
    (H2 : Hid (∀ w, Calls Try.prog 9 #[.agg #[.int .i64 a.n, .int .i64 a.d]] w fun e w' => e = .returned (.bool true) ∧ Below w.heap.size w w'))
    (H3 : Hid (∀ w, Calls Try.prog 9 #[.agg #[.int .i64 b.n, .int .i64 b.d]] w fun e w' => e = .returned (.bool true) ∧ Below w.heap.size w w'))
    (H4 : Hid (∀ w, Calls Try.prog 9 #[.agg #[.int .i64 c.n, .int .i64 c.d]] w fun e w' => e = .returned (.bool true) ∧ Below w.heap.size w w'))
    (H5 : Hid (∀ w, Calls Try.prog 24 #[.agg #[.int .i64 a.n, .int .i64 a.d], .agg #[.int .i64 b.n, .int .i64 b.d]] w fun e w' => e = .returned (.int .i64 (1)) ∧ Below w.heap.size w w'))
    (H6 : Hid (∀ w, Calls Try.prog 24 #[.agg #[.int .i64 b.n, .int .i64 b.d], .agg #[.int .i64 a.n, .int .i64 a.d]] w fun e w' => e = .returned (.int .i64 (-1)) ∧ Below w.heap.size w w'))
    (H7 : Hid (∀ w, Calls Try.prog 18 #[.agg #[.int .i64 a.n, .int .i64 a.d], .agg #[.int .i64 b.n, .int .i64 b.d]] w fun e w' => e = .returned (.tuple #[.agg #[.int .i64 dn, .int .i64 u], .int .i64 3]) ∧ Below w.heap.size w w'))
    (ne : ¬ a.n = b.n)
    : Calls Try.prog 6 #[.agg #[.int .i64 a.n, .int .i64 a.d], .agg #[.int .i64 b.n, .int .i64 b.d], .agg #[.int .i64 c.n, .int .i64 c.d]] w fun e w' => e = .returned (.bool true) ∧ Below w.heap.size w w' := by
  obtain ⟨W, hW⟩ : ∃ W, W = Tri a b c w := ⟨_, rfl⟩
  have hat := tri_bx a b c w
  rw [← hW] at hat
  obtain ⟨⟨ka, la⟩, ⟨kb, lb⟩, ⟨kc, lc⟩, B0⟩ := hat
  unfold Tri Par at hW
  have HW := Lib.hid hW
  clear hW
  have na := World.block_lt_of_cell? W _ ka
  simp only at na
  have nb := World.block_lt_of_cell? W _ kb
  simp only at nb
  have nc := World.block_lt_of_cell? W _ kc
  simp only at nc
  go_enter Try.func6, Try.ntmps6
  go_wp2_with fail
  rw [← HW.out]
  refine (H1.out _).mono ?_
  rintro e w1 ⟨rfl, b1⟩
  have s1 : Below W.heap.size W w1 := below_step (by repeat first | exact Below.refl _ _ | refine below_drewN ?_ _ | refine Below.drew ?_ | refine Below.setCell ?_ (by simp <;> omega) _ | refine Below.alloc ?_ (by simp) _) b1 rfl
  have ka' := bx_keep s1 ⟨ka, la⟩
  clear ka la na
  obtain ⟨ka, la⟩ := ka'
  have kb' := bx_keep s1 ⟨kb, lb⟩
  clear kb lb nb
  obtain ⟨kb, lb⟩ := kb'
  have kc' := bx_keep s1 ⟨kc, lc⟩
  clear kc lc nc
  obtain ⟨kc, lc⟩ := kc'
  have na := World.block_lt_of_cell? w1 _ ka
  simp only at na
  have nb := World.block_lt_of_cell? w1 _ kb
  simp only at nb
  have nc := World.block_lt_of_cell? w1 _ kc
  simp only at nc
  have B1 := Below.trans B0 (s1.mono B0.size)
  go_wp2_with fail
  refine (H2.out _).mono ?_
  rintro e w2 ⟨rfl, b2⟩
  have s2 : Below w1.heap.size w1 w2 := below_step (by repeat first | exact Below.refl _ _ | refine below_drewN ?_ _ | refine Below.drew ?_ | refine Below.setCell ?_ (by simp <;> omega) _ | refine Below.alloc ?_ (by simp) _) b2 rfl
  have ka' := bx_keep s2 ⟨ka, la⟩
  clear ka la na
  obtain ⟨ka, la⟩ := ka'
  have kb' := bx_keep s2 ⟨kb, lb⟩
  clear kb lb nb
  obtain ⟨kb, lb⟩ := kb'
  have kc' := bx_keep s2 ⟨kc, lc⟩
  clear kc lc nc
  obtain ⟨kc, lc⟩ := kc'
  have na := World.block_lt_of_cell? w2 _ ka
  simp only at na
  have nb := World.block_lt_of_cell? w2 _ kb
  simp only at nb
  have nc := World.block_lt_of_cell? w2 _ kc
  simp only at nc
  have B2 := Below.trans B1 (s2.mono B1.size)
  clear B1
  go_wp2_with fail
  refine (H3.out _).mono ?_
  rintro e w3 ⟨rfl, b3⟩
  have s3 : Below w2.heap.size w2 w3 := below_step (by repeat first | exact Below.refl _ _ | refine below_drewN ?_ _ | refine Below.drew ?_ | refine Below.setCell ?_ (by simp <;> omega) _ | refine Below.alloc ?_ (by simp) _) b3 rfl
  have ka' := bx_keep s3 ⟨ka, la⟩
  clear ka la na
  obtain ⟨ka, la⟩ := ka'
  have kb' := bx_keep s3 ⟨kb, lb⟩
  clear kb lb nb
  obtain ⟨kb, lb⟩ := kb'
  have kc' := bx_keep s3 ⟨kc, lc⟩
  clear kc lc nc
  obtain ⟨kc, lc⟩ := kc'
  have na := World.block_lt_of_cell? w3 _ ka
  simp only at na
  have nb := World.block_lt_of_cell? w3 _ kb
  simp only at nb
  have nc := World.block_lt_of_cell? w3 _ kc
  simp only at nc
  have B3 := Below.trans B2 (s3.mono B2.size)
  clear B2
  go_wp2_with fail
  refine (H4.out _).mono ?_
  rintro e w4 ⟨rfl, b4⟩
  have s4 : Below w3.heap.size w3 w4 := below_step (by repeat first | exact Below.refl _ _ | refine below_drewN ?_ _ | refine Below.drew ?_ | refine Below.setCell ?_ (by simp <;> omega) _ | refine Below.alloc ?_ (by simp) _) b4 rfl
  have ka' := bx_keep s4 ⟨ka, la⟩
  clear ka la na
  obtain ⟨ka, la⟩ := ka'
  have kb' := bx_keep s4 ⟨kb, lb⟩
  clear kb lb nb
  obtain ⟨kb, lb⟩ := kb'
  have kc' := bx_keep s4 ⟨kc, lc⟩
  clear kc lc nc
  obtain ⟨kc, lc⟩ := kc'
  have na := World.block_lt_of_cell? w4 _ ka
  simp only at na
  have nb := World.block_lt_of_cell? w4 _ kb
  simp only at nb
  have nc := World.block_lt_of_cell? w4 _ kc
  simp only at nc
  have B4 := Below.trans B3 (s4.mono B3.size)
  clear B3
  go_wp2_with fail
  refine (H5.out _).mono ?_
  rintro e w5 ⟨rfl, b5⟩
  have s5 : Below w4.heap.size w4 w5 := below_step (by repeat first | exact Below.refl _ _ | refine below_drewN ?_ _ | refine Below.drew ?_ | refine Below.setCell ?_ (by simp <;> omega) _ | refine Below.alloc ?_ (by simp) _) b5 rfl
  have ka' := bx_keep s5 ⟨ka, la⟩
  clear ka la na
  obtain ⟨ka, la⟩ := ka'
  have kb' := bx_keep s5 ⟨kb, lb⟩
  clear kb lb nb
  obtain ⟨kb, lb⟩ := kb'
  have kc' := bx_keep s5 ⟨kc, lc⟩
  clear kc lc nc
  obtain ⟨kc, lc⟩ := kc'
  have na := World.block_lt_of_cell? w5 _ ka
  simp only at na
  have nb := World.block_lt_of_cell? w5 _ kb
  simp only at nb
  have nc := World.block_lt_of_cell? w5 _ kc
  simp only at nc
  have B5 := Below.trans B4 (s5.mono B4.size)
  clear B4
  go_wp2_with fail
  refine (H6.out _).mono ?_
  rintro e w6 ⟨rfl, b6⟩
  have s6 : Below w5.heap.size w5 w6 := below_step (by repeat first | exact Below.refl _ _ | refine below_drewN ?_ _ | refine Below.drew ?_ | refine Below.setCell ?_ (by simp <;> omega) _ | refine Below.alloc ?_ (by simp) _) b6 rfl
  have ka' := bx_keep s6 ⟨ka, la⟩
  clear ka la na
  obtain ⟨ka, la⟩ := ka'
  have kb' := bx_keep s6 ⟨kb, lb⟩
  clear kb lb nb
  obtain ⟨kb, lb⟩ := kb'
  have kc' := bx_keep s6 ⟨kc, lc⟩
  clear kc lc nc
  obtain ⟨kc, lc⟩ := kc'
  have na := World.block_lt_of_cell? w6 _ ka
  simp only at na
  have nb := World.block_lt_of_cell? w6 _ kb
  simp only at nb
  have nc := World.block_lt_of_cell? w6 _ kc
  simp only at nc
  have B6 := Below.trans B5 (s6.mono B5.size)
  clear B5
  go_wp2_with fail
  refine (H7.out _).mono ?_
  rintro e w7 ⟨rfl, b7⟩
  have s7 : Below w6.heap.size w6 w7 := below_step (by repeat first | exact Below.refl _ _ | refine below_drewN ?_ _ | refine Below.drew ?_ | refine Below.setCell ?_ (by simp <;> omega) _ | refine Below.alloc ?_ (by simp) _) b7 rfl
  have ka' := bx_keep s7 ⟨ka, la⟩
  clear ka la na
  obtain ⟨ka, la⟩ := ka'
  have kb' := bx_keep s7 ⟨kb, lb⟩
  clear kb lb nb
  obtain ⟨kb, lb⟩ := kb'
  have kc' := bx_keep s7 ⟨kc, lc⟩
  clear kc lc nc
  obtain ⟨kc, lc⟩ := kc'
  have na := World.block_lt_of_cell? w7 _ ka
  simp only at na
  have nb := World.block_lt_of_cell? w7 _ kb
  simp only at nb
  have nc := World.block_lt_of_cell? w7 _ kc
  simp only at nc
  have B7 := Below.trans B6 (s7.mono B6.size)
  clear B6
  go_wp2_with fail
  go_ret
  exact ⟨rfl, Below.trans B7 (Below.mono (by repeat first | exact Below.refl _ _ | refine below_drewN ?_ _ | refine Below.drew ?_ | refine Below.setCell ?_ (by simp <;> omega) _ | refine Below.alloc ?_ (by simp) _) B7.size)⟩

set_option maxRecDepth 100000 in
set_option maxHeartbeats 4000000 in
theorem order_gtd_0 (n ad bd : Int) (c : Q) (dn u : Int) (w : World)
    (H1 : Hid (∀ w, Calls Try.prog 8 #[] w fun e w' => e = .returned (.bool true) ∧ Below w.heap.size w w'))
    (H2 : Hid (∀ w, Calls Try.prog 9 #[.agg #[.int .i64 n, .int .i64 ad]] w fun e w' => e = .returned (.bool true) ∧ Below w.heap.size w w'))
    (H3 : Hid (∀ w, Calls Try.prog 9 #[.agg #[.int .i64 n, .int .i64 bd]] w fun e w' => e = .returned (.bool true) ∧ Below w.heap.size w w'))
    (H4 : Hid (∀ w, Calls Try.prog 9 #[.agg #[.int .i64 c.n, .int .i64 c.d]] w fun e w' => e = .returned (.bool true) ∧ Below w.heap.size w w'))
    (H5 : Hid (∀ w, Calls Try.prog 24 #[.agg #[.int .i64 n, .int .i64 ad], .agg #[.int .i64 n, .int .i64 bd]] w fun e w' => e = .returned (.int .i64 (1)) ∧ Below w.heap.size w w'))
    (H6 : Hid (∀ w, Calls Try.prog 24 #[.agg #[.int .i64 n, .int .i64 bd], .agg #[.int .i64 n, .int .i64 ad]] w fun e w' => e = .returned (.int .i64 (-1)) ∧ Below w.heap.size w w'))
    (H7 : Hid (∀ w, Calls Try.prog 18 #[.agg #[.int .i64 n, .int .i64 ad], .agg #[.int .i64 n, .int .i64 bd]] w fun e w' => e = .returned (.tuple #[.agg #[.int .i64 dn, .int .i64 u], .int .i64 0]) ∧ Below w.heap.size w w'))
    (ne : ¬ ad = bd)
    (hd : decide (0 < dn) = true) (he : decide (dn < 0) = false)
    : Calls Try.prog 6 #[.agg #[.int .i64 n, .int .i64 ad], .agg #[.int .i64 n, .int .i64 bd], .agg #[.int .i64 c.n, .int .i64 c.d]] w fun e w' => e = .returned (.bool true) ∧ Below w.heap.size w w' := by
  obtain ⟨W, hW⟩ : ∃ W, W = Tri ⟨n, ad⟩ ⟨n, bd⟩ c w := ⟨_, rfl⟩
  have hat := tri_bx ⟨n, ad⟩ ⟨n, bd⟩ c w
  rw [← hW] at hat
  obtain ⟨⟨ka, la⟩, ⟨kb, lb⟩, ⟨kc, lc⟩, B0⟩ := hat
  unfold Tri Par at hW
  simp only at hW
  have HW := Lib.hid hW
  clear hW
  have na := World.block_lt_of_cell? W _ ka
  simp only at na
  have nb := World.block_lt_of_cell? W _ kb
  simp only at nb
  have nc := World.block_lt_of_cell? W _ kc
  simp only at nc
  go_enter Try.func6, Try.ntmps6
  go_wp2_with fail
  rw [← HW.out]
  refine (H1.out _).mono ?_
  rintro e w1 ⟨rfl, b1⟩
  have s1 : Below W.heap.size W w1 := below_step (by repeat first | exact Below.refl _ _ | refine below_drewN ?_ _ | refine Below.drew ?_ | refine Below.setCell ?_ (by simp <;> omega) _ | refine Below.alloc ?_ (by simp) _) b1 rfl
  have ka' := bx_keep s1 ⟨ka, la⟩
  clear ka la na
  obtain ⟨ka, la⟩ := ka'
  have kb' := bx_keep s1 ⟨kb, lb⟩
  clear kb lb nb
  obtain ⟨kb, lb⟩ := kb'
  have kc' := bx_keep s1 ⟨kc, lc⟩
  clear kc lc nc
  obtain ⟨kc, lc⟩ := kc'
  have na := World.block_lt_of_cell? w1 _ ka
  simp only at na
  have nb := World.block_lt_of_cell? w1 _ kb
  simp only at nb
  have nc := World.block_lt_of_cell? w1 _ kc
  simp only at nc
  have B1 := Below.trans B0 (s1.mono B0.size)
  go_wp2_with fail
  refine (H2.out _).mono ?_
  rintro e w2 ⟨rfl, b2⟩
  have s2 : Below w1.heap.size w1 w2 := below_step (by repeat first | exact Below.refl _ _ | refine below_drewN ?_ _ | refine Below.drew ?_ | refine Below.setCell ?_ (by simp <;> omega) _ | refine Below.alloc ?_ (by simp) _) b2 rfl
  have ka' := bx_keep s2 ⟨ka, la⟩
  clear ka la na
  obtain ⟨ka, la⟩ := ka'
  have kb' := bx_keep s2 ⟨kb, lb⟩
  clear kb lb nb
  obtain ⟨kb, lb⟩ := kb'
  have kc' := bx_keep s2 ⟨kc, lc⟩
  clear kc lc nc
  obtain ⟨kc, lc⟩ := kc'
  have na := World.block_lt_of_cell? w2 _ ka
  simp only at na
  have nb := World.block_lt_of_cell? w2 _ kb
  simp only at nb
  have nc := World.block_lt_of_cell? w2 _ kc
  simp only at nc
  have B2 := Below.trans B1 (s2.mono B1.size)
  clear B1
  go_wp2_with fail
  refine (H3.out _).mono ?_
  rintro e w3 ⟨rfl, b3⟩
  have s3 : Below w2.heap.size w2 w3 := below_step (by repeat first | exact Below.refl _ _ | refine below_drewN ?_ _ | refine Below.drew ?_ | refine Below.setCell ?_ (by simp <;> omega) _ | refine Below.alloc ?_ (by simp) _) b3 rfl
  have ka' := bx_keep s3 ⟨ka, la⟩
  clear ka la na
  obtain ⟨ka, la⟩ := ka'
  have kb' := bx_keep s3 ⟨kb, lb⟩
  clear kb lb nb
  obtain ⟨kb, lb⟩ := kb'
  have kc' := bx_keep s3 ⟨kc, lc⟩
  clear kc lc nc
  obtain ⟨kc, lc⟩ := kc'
  have na := World.block_lt_of_cell? w3 _ ka
  simp only at na
  have nb := World.block_lt_of_cell? w3 _ kb
  simp only at nb
  have nc := World.block_lt_of_cell? w3 _ kc
  simp only at nc
  have B3 := Below.trans B2 (s3.mono B2.size)
  clear B2
  go_wp2_with fail
  refine (H4.out _).mono ?_
  rintro e w4 ⟨rfl, b4⟩
  have s4 : Below w3.heap.size w3 w4 := below_step (by repeat first | exact Below.refl _ _ | refine below_drewN ?_ _ | refine Below.drew ?_ | refine Below.setCell ?_ (by simp <;> omega) _ | refine Below.alloc ?_ (by simp) _) b4 rfl
  have ka' := bx_keep s4 ⟨ka, la⟩
  clear ka la na
  obtain ⟨ka, la⟩ := ka'
  have kb' := bx_keep s4 ⟨kb, lb⟩
  clear kb lb nb
  obtain ⟨kb, lb⟩ := kb'
  have kc' := bx_keep s4 ⟨kc, lc⟩
  clear kc lc nc
  obtain ⟨kc, lc⟩ := kc'
  have na := World.block_lt_of_cell? w4 _ ka
  simp only at na
  have nb := World.block_lt_of_cell? w4 _ kb
  simp only at nb
  have nc := World.block_lt_of_cell? w4 _ kc
  simp only at nc
  have B4 := Below.trans B3 (s4.mono B3.size)
  clear B3
  go_wp2_with fail
  refine (H5.out _).mono ?_
  rintro e w5 ⟨rfl, b5⟩
  have s5 : Below w4.heap.size w4 w5 := below_step (by repeat first | exact Below.refl _ _ | refine below_drewN ?_ _ | refine Below.drew ?_ | refine Below.setCell ?_ (by simp <;> omega) _ | refine Below.alloc ?_ (by simp) _) b5 rfl
  have ka' := bx_keep s5 ⟨ka, la⟩
  clear ka la na
  obtain ⟨ka, la⟩ := ka'
  have kb' := bx_keep s5 ⟨kb, lb⟩
  clear kb lb nb
  obtain ⟨kb, lb⟩ := kb'
  have kc' := bx_keep s5 ⟨kc, lc⟩
  clear kc lc nc
  obtain ⟨kc, lc⟩ := kc'
  have na := World.block_lt_of_cell? w5 _ ka
  simp only at na
  have nb := World.block_lt_of_cell? w5 _ kb
  simp only at nb
  have nc := World.block_lt_of_cell? w5 _ kc
  simp only at nc
  have B5 := Below.trans B4 (s5.mono B4.size)
  clear B4
  go_wp2_with fail
  refine (H6.out _).mono ?_
  rintro e w6 ⟨rfl, b6⟩
  have s6 : Below w5.heap.size w5 w6 := below_step (by repeat first | exact Below.refl _ _ | refine below_drewN ?_ _ | refine Below.drew ?_ | refine Below.setCell ?_ (by simp <;> omega) _ | refine Below.alloc ?_ (by simp) _) b6 rfl
  have ka' := bx_keep s6 ⟨ka, la⟩
  clear ka la na
  obtain ⟨ka, la⟩ := ka'
  have kb' := bx_keep s6 ⟨kb, lb⟩
  clear kb lb nb
  obtain ⟨kb, lb⟩ := kb'
  have kc' := bx_keep s6 ⟨kc, lc⟩
  clear kc lc nc
  obtain ⟨kc, lc⟩ := kc'
  have na := World.block_lt_of_cell? w6 _ ka
  simp only at na
  have nb := World.block_lt_of_cell? w6 _ kb
  simp only at nb
  have nc := World.block_lt_of_cell? w6 _ kc
  simp only at nc
  have B6 := Below.trans B5 (s6.mono B5.size)
  clear B5
  go_wp2_with fail
  refine (H7.out _).mono ?_
  rintro e w7 ⟨rfl, b7⟩
  have s7 : Below w6.heap.size w6 w7 := below_step (by repeat first | exact Below.refl _ _ | refine below_drewN ?_ _ | refine Below.drew ?_ | refine Below.setCell ?_ (by simp <;> omega) _ | refine Below.alloc ?_ (by simp) _) b7 rfl
  have ka' := bx_keep s7 ⟨ka, la⟩
  clear ka la na
  obtain ⟨ka, la⟩ := ka'
  have kb' := bx_keep s7 ⟨kb, lb⟩
  clear kb lb nb
  obtain ⟨kb, lb⟩ := kb'
  have kc' := bx_keep s7 ⟨kc, lc⟩
  clear kc lc nc
  obtain ⟨kc, lc⟩ := kc'
  have na := World.block_lt_of_cell? w7 _ ka
  simp only at na
  have nb := World.block_lt_of_cell? w7 _ kb
  simp only at nb
  have nc := World.block_lt_of_cell? w7 _ kc
  simp only at nc
  have B7 := Below.trans B6 (s7.mono B6.size)
  clear B6
  go_wp2_with fail
  go_ret
  exact ⟨rfl, Below.trans B7 (Below.mono (by repeat first | exact Below.refl _ _ | refine below_drewN ?_ _ | refine Below.drew ?_ | refine Below.setCell ?_ (by simp <;> omega) _ | refine Below.alloc ?_ (by simp) _) B7.size)⟩

set_option maxRecDepth 100000 in
set_option maxHeartbeats 4000000 in
theorem order_gtd_3 (n ad bd : Int) (c : Q) (dn u : Int) (w : World)
    (H1 : Hid (∀ w, Calls Try.prog 8 #[] w fun e w' => e = .returned (.bool true) ∧ Below w.heap.size w w'))
    (H2 : Hid (∀ w, Calls Try.prog 9 #[.agg #[.int .i64 n, .int .i64 ad]] w fun e w' => e = .returned (.bool true) ∧ Below w.heap.size w w'))
    (H3 : Hid (∀ w, Calls Try.prog 9 #[.agg #[.int .i64 n, .int .i64 bd]] w fun e w' => e = .returned (.bool true) ∧ Below w.heap.size w w'))
    (H4 : Hid (∀ w, Calls Try.prog 9 #[.agg #[.int .i64 c.n, .int .i64 c.d]] w fun e w' => e = .returned (.bool true) ∧ Below w.heap.size w w'))
    (H5 : Hid (∀ w, Calls Try.prog 24 #[.agg #[.int .i64 n, .int .i64 ad], .agg #[.int .i64 n, .int .i64 bd]] w fun e w' => e = .returned (.int .i64 (1)) ∧ Below w.heap.size w w'))
    (H6 : Hid (∀ w, Calls Try.prog 24 #[.agg #[.int .i64 n, .int .i64 bd], .agg #[.int .i64 n, .int .i64 ad]] w fun e w' => e = .returned (.int .i64 (-1)) ∧ Below w.heap.size w w'))
    (H7 : Hid (∀ w, Calls Try.prog 18 #[.agg #[.int .i64 n, .int .i64 ad], .agg #[.int .i64 n, .int .i64 bd]] w fun e w' => e = .returned (.tuple #[.agg #[.int .i64 dn, .int .i64 u], .int .i64 3]) ∧ Below w.heap.size w w'))
    (ne : ¬ ad = bd)
    : Calls Try.prog 6 #[.agg #[.int .i64 n, .int .i64 ad], .agg #[.int .i64 n, .int .i64 bd], .agg #[.int .i64 c.n, .int .i64 c.d]] w fun e w' => e = .returned (.bool true) ∧ Below w.heap.size w w' := by
  obtain ⟨W, hW⟩ : ∃ W, W = Tri ⟨n, ad⟩ ⟨n, bd⟩ c w := ⟨_, rfl⟩
  have hat := tri_bx ⟨n, ad⟩ ⟨n, bd⟩ c w
  rw [← hW] at hat
  obtain ⟨⟨ka, la⟩, ⟨kb, lb⟩, ⟨kc, lc⟩, B0⟩ := hat
  unfold Tri Par at hW
  simp only at hW
  have HW := Lib.hid hW
  clear hW
  have na := World.block_lt_of_cell? W _ ka
  simp only at na
  have nb := World.block_lt_of_cell? W _ kb
  simp only at nb
  have nc := World.block_lt_of_cell? W _ kc
  simp only at nc
  go_enter Try.func6, Try.ntmps6
  go_wp2_with fail
  rw [← HW.out]
  refine (H1.out _).mono ?_
  rintro e w1 ⟨rfl, b1⟩
  have s1 : Below W.heap.size W w1 := below_step (by repeat first | exact Below.refl _ _ | refine below_drewN ?_ _ | refine Below.drew ?_ | refine Below.setCell ?_ (by simp <;> omega) _ | refine Below.alloc ?_ (by simp) _) b1 rfl
  have ka' := bx_keep s1 ⟨ka, la⟩
  clear ka la na
  obtain ⟨ka, la⟩ := ka'
  have kb' := bx_keep s1 ⟨kb, lb⟩
  clear kb lb nb
  obtain ⟨kb, lb⟩ := kb'
  have kc' := bx_keep s1 ⟨kc, lc⟩
  clear kc lc nc
  obtain ⟨kc, lc⟩ := kc'
  have na := World.block_lt_of_cell? w1 _ ka
  simp only at na
  have nb := World.block_lt_of_cell? w1 _ kb
  simp only at nb
  have nc := World.block_lt_of_cell? w1 _ kc
  simp only at nc
  have B1 := Below.trans B0 (s1.mono B0.size)
  go_wp2_with fail
  refine (H2.out _).mono ?_
  rintro e w2 ⟨rfl, b2⟩
  have s2 : Below w1.heap.size w1 w2 := below_step (by repeat first | exact Below.refl _ _ | refine below_drewN ?_ _ | refine Below.drew ?_ | refine Below.setCell ?_ (by simp <;> omega) _ | refine Below.alloc ?_ (by simp) _) b2 rfl
  have ka' := bx_keep s2 ⟨ka, la⟩
  clear ka la na
  obtain ⟨ka, la⟩ := ka'
  have kb' := bx_keep s2 ⟨kb, lb⟩
  clear kb lb nb
  obtain ⟨kb, lb⟩ := kb'
  have kc' := bx_keep s2 ⟨kc, lc⟩
  clear kc lc nc
  obtain ⟨kc, lc⟩ := kc'
  have na := World.block_lt_of_cell? w2 _ ka
  simp only at na
  have nb := World.block_lt_of_cell? w2 _ kb
  simp only at nb
  have nc := World.block_lt_of_cell? w2 _ kc
  simp only at nc
  have B2 := Below.trans B1 (s2.mono B1.size)
  clear B1
  go_wp2_with fail
  refine (H3.out _).mono ?_
  rintro e w3 ⟨rfl, b3⟩
  have s3 : Below w2.heap.size w2 w3 := below_step (by repeat first | exact Below.refl _ _ | refine below_drewN ?_ _ | refine Below.drew ?_ | refine Below.setCell ?_ (by simp <;> omega) _ | refine Below.alloc ?_ (by simp) _) b3 rfl
  have ka' := bx_keep s3 ⟨ka, la⟩
  clear ka la na
  obtain ⟨ka, la⟩ := ka'
  have kb' := bx_keep s3 ⟨kb, lb⟩
  clear kb lb nb
  obtain ⟨kb, lb⟩ := kb'
  have kc' := bx_keep s3 ⟨kc, lc⟩
  clear kc lc nc
  obtain ⟨kc, lc⟩ := kc'
  have na := World.block_lt_of_cell? w3 _ ka
  simp only at na
  have nb := World.block_lt_of_cell? w3 _ kb
  simp only at nb
  have nc := World.block_lt_of_cell? w3 _ kc
  simp only at nc
  have B3 := Below.trans B2 (s3.mono B2.size)
  clear B2
  go_wp2_with fail
  refine (H4.out _).mono ?_
  rintro e w4 ⟨rfl, b4⟩
  have s4 : Below w3.heap.size w3 w4 := below_step (by repeat first | exact Below.refl _ _ | refine below_drewN ?_ _ | refine Below.drew ?_ | refine Below.setCell ?_ (by simp <;> omega) _ | refine Below.alloc ?_ (by simp) _) b4 rfl
  have ka' := bx_keep s4 ⟨ka, la⟩
  clear ka la na
  obtain ⟨ka, la⟩ := ka'
  have kb' := bx_keep s4 ⟨kb, lb⟩
  clear kb lb nb
  obtain ⟨kb, lb⟩ := kb'
  have kc' := bx_keep s4 ⟨kc, lc⟩
  clear kc lc nc
  obtain ⟨kc, lc⟩ := kc'
  have na := World.block_lt_of_cell? w4 _ ka
  simp only at na
  have nb := World.block_lt_of_cell? w4 _ kb
  simp only at nb
  have nc := World.block_lt_of_cell? w4 _ kc
  simp only at nc
  have B4 := Below.trans B3 (s4.mono B3.size)
  clear B3
  go_wp2_with fail
  refine (H5.out _).mono ?_
  rintro e w5 ⟨rfl, b5⟩
  have s5 : Below w4.heap.size w4 w5 := below_step (by repeat first | exact Below.refl _ _ | refine below_drewN ?_ _ | refine Below.drew ?_ | refine Below.setCell ?_ (by simp <;> omega) _ | refine Below.alloc ?_ (by simp) _) b5 rfl
  have ka' := bx_keep s5 ⟨ka, la⟩
  clear ka la na
  obtain ⟨ka, la⟩ := ka'
  have kb' := bx_keep s5 ⟨kb, lb⟩
  clear kb lb nb
  obtain ⟨kb, lb⟩ := kb'
  have kc' := bx_keep s5 ⟨kc, lc⟩
  clear kc lc nc
  obtain ⟨kc, lc⟩ := kc'
  have na := World.block_lt_of_cell? w5 _ ka
  simp only at na
  have nb := World.block_lt_of_cell? w5 _ kb
  simp only at nb
  have nc := World.block_lt_of_cell? w5 _ kc
  simp only at nc
  have B5 := Below.trans B4 (s5.mono B4.size)
  clear B4
  go_wp2_with fail
  refine (H6.out _).mono ?_
  rintro e w6 ⟨rfl, b6⟩
  have s6 : Below w5.heap.size w5 w6 := below_step (by repeat first | exact Below.refl _ _ | refine below_drewN ?_ _ | refine Below.drew ?_ | refine Below.setCell ?_ (by simp <;> omega) _ | refine Below.alloc ?_ (by simp) _) b6 rfl
  have ka' := bx_keep s6 ⟨ka, la⟩
  clear ka la na
  obtain ⟨ka, la⟩ := ka'
  have kb' := bx_keep s6 ⟨kb, lb⟩
  clear kb lb nb
  obtain ⟨kb, lb⟩ := kb'
  have kc' := bx_keep s6 ⟨kc, lc⟩
  clear kc lc nc
  obtain ⟨kc, lc⟩ := kc'
  have na := World.block_lt_of_cell? w6 _ ka
  simp only at na
  have nb := World.block_lt_of_cell? w6 _ kb
  simp only at nb
  have nc := World.block_lt_of_cell? w6 _ kc
  simp only at nc
  have B6 := Below.trans B5 (s6.mono B5.size)
  clear B5
  go_wp2_with fail
  refine (H7.out _).mono ?_
  rintro e w7 ⟨rfl, b7⟩
  have s7 : Below w6.heap.size w6 w7 := below_step (by repeat first | exact Below.refl _ _ | refine below_drewN ?_ _ | refine Below.drew ?_ | refine Below.setCell ?_ (by simp <;> omega) _ | refine Below.alloc ?_ (by simp) _) b7 rfl
  have ka' := bx_keep s7 ⟨ka, la⟩
  clear ka la na
  obtain ⟨ka, la⟩ := ka'
  have kb' := bx_keep s7 ⟨kb, lb⟩
  clear kb lb nb
  obtain ⟨kb, lb⟩ := kb'
  have kc' := bx_keep s7 ⟨kc, lc⟩
  clear kc lc nc
  obtain ⟨kc, lc⟩ := kc'
  have na := World.block_lt_of_cell? w7 _ ka
  simp only at na
  have nb := World.block_lt_of_cell? w7 _ kb
  simp only at nb
  have nc := World.block_lt_of_cell? w7 _ kc
  simp only at nc
  have B7 := Below.trans B6 (s7.mono B6.size)
  clear B6
  go_wp2_with fail
  go_ret
  exact ⟨rfl, Below.trans B7 (Below.mono (by repeat first | exact Below.refl _ _ | refine below_drewN ?_ _ | refine Below.drew ?_ | refine Below.setCell ?_ (by simp <;> omega) _ | refine Below.alloc ?_ (by simp) _) B7.size)⟩

end Go.Proofs.Ytfchbkhgoebagaa
