/- The walk of RatioField. -/
import Derived.Test.YtfchbkhgoebagaaRv
import Derived.Test.YtfchbkhgoebagaaRFld
namespace Go.Proofs.Ytfchbkhgoebagaa
open Go.RowKit Ra

def Tri (a b c : Q) (w : World) : World := (Par a b w).alloc (.cells #[.int .i64 c.n, .int .i64 c.d] 23)
theorem tri_bx (a b c : Q) (w : World) : Bx (Tri a b c w) w.heap.size a.n a.d ∧ Bx (Tri a b c w) (w.heap.size + 1) b.n b.d ∧ Bx (Tri a b c w) (w.heap.size + 1 + 1) c.n c.d ∧ Below w.heap.size w (Tri a b c w) := by
  refine ⟨⟨?_, ?_⟩, ⟨?_, ?_⟩, ⟨?_, ?_⟩, Below.alloc (Below.alloc (Below.alloc (Below.refl _ _) (Nat.le_refl _) _) (by simp) _) (by simp <;> omega) _⟩ <;> simp [Tri, Par, go_sem]
theorem par_bx (a b : Q) (w : World) : Bx (Par a b w) w.heap.size a.n a.d ∧ Bx (Par a b w) (w.heap.size + 1) b.n b.d ∧ Below w.heap.size w (Par a b w) := by
  refine ⟨⟨?_, ?_⟩, ⟨?_, ?_⟩, Below.alloc (Below.alloc (Below.refl _ _) (Nat.le_refl _) _) (by simp) _⟩ <;> simp [Par, go_sem]
theorem box1_bx (a : Q) (w : World) : Bx (Box1 a w) w.heap.size a.n a.d ∧ Below w.heap.size w (Box1 a w) := by
  refine ⟨⟨?_, ?_⟩, Below.alloc (Below.refl _ _) (Nat.le_refl _) _⟩ <;> simp [Box1, go_sem]

set_option maxRecDepth 100000 in
set_option maxHeartbeats 4000000 in
theorem field_no0 (a b c : Q) (w : World)
    (H1 : Hid (∀ w, Calls Try.prog 8 #[] w fun e w' => e = .returned (.bool true) ∧ Below w.heap.size w w'))
    (H2 : Hid (∀ w, Calls Try.prog 9 #[.agg #[.int .i64 a.n, .int .i64 a.d]] w fun e w' => e = .returned (.bool false) ∧ Below w.heap.size w w'))
    : Calls Try.prog 3 #[.agg #[.int .i64 a.n, .int .i64 a.d], .agg #[.int .i64 b.n, .int .i64 b.d], .agg #[.int .i64 c.n, .int .i64 c.d]] w fun e w' => e = .returned (.bool true) ∧ Below w.heap.size w w' := by
  obtain ⟨W, hW⟩ : ∃ W, W = Tri a b c w := ⟨_, rfl⟩
  have hat := tri_bx a b c w
  rw [← hW] at hat
  obtain ⟨⟨ka, la⟩, ⟨kb, lb⟩, ⟨kc, lc⟩, B0⟩ := hat
  unfold Tri Par at hW
  have HW := Lib.hid hW
  clear hW
  have na := World.block_lt_of_cell? W _ ka
  simp only at na
  have nb := World.block_lt_of_cell? W _ kb
  simp only at nb
  have nc := World.block_lt_of_cell? W _ kc
  simp only at nc
  go_enter Try.func3, Try.ntmps3
  go_wp2_with fail
  rw [← HW.out]
  refine (H1.out _).mono ?_
  rintro e w1 ⟨rfl, b1⟩
  have s1 : Below W.heap.size W w1 := below_step (by repeat first | exact Below.refl _ _ | refine below_drewN ?_ _ | refine Below.drew ?_ | refine Below.setCell ?_ (by simp <;> omega) _ | refine Below.alloc ?_ (by simp) _) b1 rfl
  have ka' := bx_keep s1 ⟨ka, la⟩
  clear ka la na
  obtain ⟨ka, la⟩ := ka'
  have kb' := bx_keep s1 ⟨kb, lb⟩
  clear kb lb nb
  obtain ⟨kb, lb⟩ := kb'
  have kc' := bx_keep s1 ⟨kc, lc⟩
  clear kc lc nc
  obtain ⟨kc, lc⟩ := kc'
  have na := World.block_lt_of_cell? w1 _ ka
  simp only at na
  have nb := World.block_lt_of_cell? w1 _ kb
  simp only at nb
  have nc := World.block_lt_of_cell? w1 _ kc
  simp only at nc
  have B1 := Below.trans B0 (s1.mono B0.size)
  go_wp2_with fail
  refine (H2.out _).mono ?_
  rintro e w2 ⟨rfl, b2⟩
  have s2 : Below w1.heap.size w1 w2 := below_step (by repeat first | exact Below.refl _ _ | refine below_drewN ?_ _ | refine Below.drew ?_ | refine Below.setCell ?_ (by simp <;> omega) _ | refine Below.alloc ?_ (by simp) _) b2 rfl
  have ka' := bx_keep s2 ⟨ka, la⟩
  clear ka la na
  obtain ⟨ka, la⟩ := ka'
  have kb' := bx_keep s2 ⟨kb, lb⟩
  clear kb lb nb
  obtain ⟨kb, lb⟩ := kb'
  have kc' := bx_keep s2 ⟨kc, lc⟩
  clear kc lc nc
  obtain ⟨kc, lc⟩ := kc'
  have na := World.block_lt_of_cell? w2 _ ka
  simp only at na
  have nb := World.block_lt_of_cell? w2 _ kb
  simp only at nb
  have nc := World.block_lt_of_cell? w2 _ kc
  simp only at nc
  have B2 := Below.trans B1 (s2.mono B1.size)
  clear B1
  go_wp2_with fail
  go_ret
  exact ⟨rfl, Below.trans B2 (Below.mono (by repeat first | exact Below.refl _ _ | refine below_drewN ?_ _ | refine Below.drew ?_ | refine Below.setCell ?_ (by simp <;> omega) _ | refine Below.alloc ?_ (by simp) _) B2.size)⟩

set_option maxRecDepth 100000 in
set_option maxHeartbeats 4000000 in
theorem field_no1 (a b c : Q) (w : World)
    (H1 : Hid (∀ w, Calls Try.prog 8 #[] w fun e w' => e = .returned (.bool true) ∧ Below w.heap.size w w'))
    (H2 : Hid (∀ w, Calls Try.prog 9 #[.agg #[.int .i64 a.n, .int .i64 a.d]] w fun e w' => e = .returned (.bool true) ∧ Below w.heap.size w w'))
    (H3 : Hid (∀ w, Calls Try.prog 9 #[.agg #[.int .i64 b.n, .int .i64 b.d]] w fun e w' => e = .returned (.bool false) ∧ Below w.heap.size w w'))
    : Calls Try.prog 3 #[.agg #[.int .i64 a.n, .int .i64 a.d], .agg #[.int .i64 b.n, .int .i64 b.d], .agg #[.int .i64 c.n, .int .i64 c.d]] w fun e w' => e = .returned (.bool true) ∧ Below w.heap.size w w' := by
  obtain ⟨W, hW⟩ : ∃ W, W = Tri a b c w := ⟨_, rfl⟩
  have hat := tri_bx a b c w
  rw [← hW] at hat
  obtain ⟨⟨ka, la⟩, ⟨kb, lb⟩, ⟨kc, lc⟩, B0⟩ := hat
  unfold Tri Par at hW
  have HW := Lib.hid hW
  clear hW
  have na := World.block_lt_of_cell? W _ ka
  simp only at na
  have nb := World.block_lt_of_cell? W _ kb
  simp only at nb
  have nc := World.block_lt_of_cell? W _ kc
  simp only at nc
  go_enter Try.func3, Try.ntmps3
  go_wp2_with fail
  rw [← HW.out]
  refine (H1.out _).mono ?_
  rintro e w1 ⟨rfl, b1⟩
  have s1 : Below W.heap.size W w1 := below_step (by repeat first | exact Below.refl _ _ | refine below_drewN ?_ _ | refine Below.drew ?_ | refine Below.setCell ?_ (by simp <;> omega) _ | refine Below.alloc ?_ (by simp) _) b1 rfl
  have ka' := bx_keep s1 ⟨ka, la⟩
  clear ka la na
  obtain ⟨ka, la⟩ := ka'
  have kb' := bx_keep s1 ⟨kb, lb⟩
  clear kb lb nb
  obtain ⟨kb, lb⟩ := kb'
  have kc' := bx_keep s1 ⟨kc, lc⟩
  clear kc lc nc
  obtain ⟨kc, lc⟩ := kc'
  have na := World.block_lt_of_cell? w1 _ ka
  simp only at na
  have nb := World.block_lt_of_cell? w1 _ kb
  simp only at nb
  have nc := World.block_lt_of_cell? w1 _ kc
  simp only at nc
  have B1 := Below.trans B0 (s1.mono B0.size)
  go_wp2_with fail
  refine (H2.out _).mono ?_
  rintro e w2 ⟨rfl, b2⟩
  have s2 : Below w1.heap.size w1 w2 := below_step (by repeat first | exact Below.refl _ _ | refine below_drewN ?_ _ | refine Below.drew ?_ | refine Below.setCell ?_ (by simp <;> omega) _ | refine Below.alloc ?_ (by simp) _) b2 rfl
  have ka' := bx_keep s2 ⟨ka, la⟩
  clear ka la na
  obtain ⟨ka, la⟩ := ka'
  have kb' := bx_keep s2 ⟨kb, lb⟩
  clear kb lb nb
  obtain ⟨kb, lb⟩ := kb'
  have kc' := bx_keep s2 ⟨kc, lc⟩
  clear kc lc nc
  obtain ⟨kc, lc⟩ := kc'
  have na := World.block_lt_of_cell? w2 _ ka
  simp only at na
  have nb := World.block_lt_of_cell? w2 _ kb
  simp only at nb
  have nc := World.block_lt_of_cell? w2 _ kc
  simp only at nc
  have B2 := Below.trans B1 (s2.mono B1.size)
  clear B1
  go_wp2_with fail
  refine (H3.out _).mono ?_
  rintro e w3 ⟨rfl, b3⟩
  have s3 : Below w2.heap.size w2 w3 := below_step (by repeat first | exact Below.refl _ _ | refine below_drewN ?_ _ | refine Below.drew ?_ | refine Below.setCell ?_ (by simp <;> omega) _ | refine Below.alloc ?_ (by simp) _) b3 rfl
  have ka' := bx_keep s3 ⟨ka, la⟩
  clear ka la na
  obtain ⟨ka, la⟩ := ka'
  have kb' := bx_keep s3 ⟨kb, lb⟩
  clear kb lb nb
  obtain ⟨kb, lb⟩ := kb'
  have kc' := bx_keep s3 ⟨kc, lc⟩
  clear kc lc nc
  obtain ⟨kc, lc⟩ := kc'
  have na := World.block_lt_of_cell? w3 _ ka
  simp only at na
  have nb := World.block_lt_of_cell? w3 _ kb
  simp only at nb
  have nc := World.block_lt_of_cell? w3 _ kc
  simp only at nc
  have B3 := Below.trans B2 (s3.mono B2.size)
  clear B2
  go_wp2_with fail
  go_ret
  exact ⟨rfl, Below.trans B3 (Below.mono (by repeat first | exact Below.refl _ _ | refine below_drewN ?_ _ | refine Below.drew ?_ | refine Below.setCell ?_ (by simp <;> omega) _ | refine Below.alloc ?_ (by simp) _) B3.size)⟩

set_option maxRecDepth 100000 in
set_option maxHeartbeats 4000000 in
theorem field_no2 (a b c : Q) (w : World)
    (H1 : Hid (∀ w, Calls Try.prog 8 #[] w fun e w' => e = .returned (.bool true) ∧ Below w.heap.size w w'))
    (H2 : Hid (∀ w, Calls Try.prog 9 #[.agg #[.int .i64 a.n, .int .i64 a.d]] w fun e w' => e = .returned (.bool true) ∧ Below w.heap.size w w'))
    (H3 : Hid (∀ w, Calls Try.prog 9 #[.agg #[.int .i64 b.n, .int .i64 b.d]] w fun e w' => e = .returned (.bool true) ∧ Below w.heap.size w w'))
    (H4 : Hid (∀ w, Calls Try.prog 9 #[.agg #[.int .i64 c.n, .int .i64 c.d]] w fun e w' => e = .returned (.bool false) ∧ Below w.heap.size w w'))
    : Calls Try.prog 3 #[.agg #[.int .i64 a.n, .int .i64 a.d], .agg #[.int .i64 b.n, .int .i64 b.d], .agg #[.int .i64 c.n, .int .i64 c.d]] w fun e w' => e = .returned (.bool true) ∧ Below w.heap.size w w' := by
  obtain ⟨W, hW⟩ : ∃ W, W = Tri a b c w := ⟨_, rfl⟩
  have hat := tri_bx a b c w
  rw [← hW] at hat
  obtain ⟨⟨ka, la⟩, ⟨kb, lb⟩, ⟨kc, lc⟩, B0⟩ := hat
  unfold Tri Par at hW
  have HW := Lib.hid hW
  clear hW
  have na := World.block_lt_of_cell? W _ ka
  simp only at na
  have nb := World.block_lt_of_cell? W _ kb
  simp only at nb
  have nc := World.block_lt_of_cell? W _ kc
  simp only at nc
  go_enter Try.func3, Try.ntmps3
  go_wp2_with fail
  rw [← HW.out]
  refine (H1.out _).mono ?_
  rintro e w1 ⟨rfl, b1⟩
  have s1 : Below W.heap.size W w1 := below_step (by repeat first | exact Below.refl _ _ | refine below_drewN ?_ _ | refine Below.drew ?_ | refine Below.setCell ?_ (by simp <;> omega) _ | refine Below.alloc ?_ (by simp) _) b1 rfl
  have ka' := bx_keep s1 ⟨ka, la⟩
  clear ka la na
  obtain ⟨ka, la⟩ := ka'
  have kb' := bx_keep s1 ⟨kb, lb⟩
  clear kb lb nb
  obtain ⟨kb, lb⟩ := kb'
  have kc' := bx_keep s1 ⟨kc, lc⟩
  clear kc lc nc
  obtain ⟨kc, lc⟩ := kc'
  have na := World.block_lt_of_cell? w1 _ ka
  simp only at na
  have nb := World.block_lt_of_cell? w1 _ kb
  simp only at nb
  have nc := World.block_lt_of_cell? w1 _ kc
  simp only at nc
  have B1 := Below.trans B0 (s1.mono B0.size)
  go_wp2_with fail
  refine (H2.out _).mono ?_
  rintro e w2 ⟨rfl, b2⟩
  have s2 : Below w1.heap.size w1 w2 := below_step (by repeat first | exact Below.refl _ _ | refine below_drewN ?_ _ | refine Below.drew ?_ | refine Below.setCell ?_ (by simp <;> omega) _ | refine Below.alloc ?_ (by simp) _) b2 rfl
  have ka' := bx_keep s2 ⟨ka, la⟩
  clear ka la na
  obtain ⟨ka, la⟩ := ka'
  have kb' := bx_keep s2 ⟨kb, lb⟩
  clear kb lb nb
  obtain ⟨kb, lb⟩ := kb'
  have kc' := bx_keep s2 ⟨kc, lc⟩
  clear kc lc nc
  obtain ⟨kc, lc⟩ := kc'
  have na := World.block_lt_of_cell? w2 _ ka
  simp only at na
  have nb := World.block_lt_of_cell? w2 _ kb
  simp only at nb
  have nc := World.block_lt_of_cell? w2 _ kc
  simp only at nc
  have B2 := Below.trans B1 (s2.mono B1.size)
  clear B1
  go_wp2_with fail
  refine (H3.out _).mono ?_
  rintro e w3 ⟨rfl, b3⟩
  have s3 : Below w2.heap.size w2 w3 := below_step (by repeat first | exact Below.refl _ _ | refine below_drewN ?_ _ | refine Below.drew ?_ | refine Below.setCell ?_ (by simp <;> omega) _ | refine Below.alloc ?_ (by simp) _) b3 rfl
  have ka' := bx_keep s3 ⟨ka, la⟩
  clear ka la na
  obtain ⟨ka, la⟩ := ka'
  have kb' := bx_keep s3 ⟨kb, lb⟩
  clear kb lb nb
  obtain ⟨kb, lb⟩ := kb'
  have kc' := bx_keep s3 ⟨kc, lc⟩
  clear kc lc nc
  obtain ⟨kc, lc⟩ := kc'
  have na := World.block_lt_of_cell? w3 _ ka
  simp only at na
  have nb := World.block_lt_of_cell? w3 _ kb
  simp only at nb
  have nc := World.block_lt_of_cell? w3 _ kc
  simp only at nc
  have B3 := Below.trans B2 (s3.mono B2.size)
  clear B2
  go_wp2_with fail
  refine (H4.out _).mono ?_
  rintro e w4 ⟨rfl, b4⟩
  have s4 : Below w3.heap.size w3 w4 := below_step (by repeat first | exact Below.refl _ _ | refine below_drewN ?_ _ | refine Below.drew ?_ | refine Below.setCell ?_ (by simp <;> omega) _ | refine Below.alloc ?_ (by simp) _) b4 rfl
  have ka' := bx_keep s4 ⟨ka, la⟩
  clear ka la na
  obtain ⟨ka, la⟩ := ka'
  have kb' := bx_keep s4 ⟨kb, lb⟩
  clear kb lb nb
  obtain ⟨kb, lb⟩ := kb'
  have kc' := bx_keep s4 ⟨kc, lc⟩
  clear kc lc nc
  obtain ⟨kc, lc⟩ := kc'
  have na := World.block_lt_of_cell? w4 _ ka
  simp only at na
  have nb := World.block_lt_of_cell? w4 _ kb
  simp only at nb
  have nc := World.block_lt_of_cell? w4 _ kc
  simp only at nc
  have B4 := Below.trans B3 (s4.mono B3.size)
  clear B3
  go_wp2_with fail
  go_ret
  exact ⟨rfl, Below.trans B4 (Below.mono (by repeat first | exact Below.refl _ _ | refine below_drewN ?_ _ | refine Below.drew ?_ | refine Below.setCell ?_ (by simp <;> omega) _ | refine Below.alloc ?_ (by simp) _) B4.size)⟩

set_option maxRecDepth 100000 in
set_option maxHeartbeats 4000000 in
theorem field_no3 (a b c : Q) (w : World)
    (H1 : Hid (∀ w, Calls Try.prog 8 #[] w fun e w' => e = .returned (.bool true) ∧ Below w.heap.size w w'))
    (H2 : Hid (∀ w, Calls Try.prog 9 #[.agg #[.int .i64 a.n, .int .i64 a.d]] w fun e w' => e = .returned (.bool true) ∧ Below w.heap.size w w'))
    (H3 : Hid (∀ w, Calls Try.prog 9 #[.agg #[.int .i64 b.n, .int .i64 b.d]] w fun e w' => e = .returned (.bool true) ∧ Below w.heap.size w w'))
    (H4 : Hid (∀ w, Calls Try.prog 9 #[.agg #[.int .i64 c.n, .int .i64 c.d]] w fun e w' => e = .returned (.bool true) ∧ Below w.heap.size w w'))
    (H5 : Hid (∀ w, Calls Try.prog 10 #[.agg #[.int .i64 a.n, .int .i64 a.d], .int .i64 1000] w fun e w' => e = .returned (.bool false) ∧ Below w.heap.size w w'))
    : Calls Try.prog 3 #[.agg #[.int .i64 a.n, .int .i64 a.d], .agg #[.int .i64 b.n, .int .i64 b.d], .agg #[.int .i64 c.n, .int .i64 c.d]] w fun e w' => e = .returned (.bool true) ∧ Below w.heap.size w w' := by
  obtain ⟨W, hW⟩ : ∃ W, W = Tri a b c w := ⟨_, rfl⟩
  have hat := tri_bx a b c w
  rw [← hW] at hat
  obtain ⟨⟨ka, la⟩, ⟨kb, lb⟩, ⟨kc, lc⟩, B0⟩ := hat
  unfold Tri Par at hW
  have HW := Lib.hid hW
  clear hW
  have na := World.block_lt_of_cell? W _ ka
  simp only at na
  have nb := World.block_lt_of_cell? W _ kb
  simp only at nb
  have nc := World.block_lt_of_cell? W _ kc
  simp only at nc
  go_enter Try.func3, Try.ntmps3
  go_wp2_with fail
  rw [← HW.out]
  refine (H1.out _).mono ?_
  rintro e w1 ⟨rfl, b1⟩
  have s1 : Below W.heap.size W w1 := below_step (by repeat first | exact Below.refl _ _ | refine below_drewN ?_ _ | refine Below.drew ?_ | refine Below.setCell ?_ (by simp <;> omega) _ | refine Below.alloc ?_ (by simp) _) b1 rfl
  have ka' := bx_keep s1 ⟨ka, la⟩
  clear ka la na
  obtain ⟨ka, la⟩ := ka'
  have kb' := bx_keep s1 ⟨kb, lb⟩
  clear kb lb nb
  obtain ⟨kb, lb⟩ := kb'
  have kc' := bx_keep s1 ⟨kc, lc⟩
  clear kc lc nc
  obtain ⟨kc, lc⟩ := kc'
  have na := World.block_lt_of_cell? w1 _ ka
  simp only at na
  have nb := World.block_lt_of_cell? w1 _ kb
  simp only at nb
  have nc := World.block_lt_of_cell? w1 _ kc
  simp only at nc
  have B1 := Below.trans B0 (s1.mono B0.size)
  go_wp2_with fail
  refine (H2.out _).mono ?_
  rintro e w2 ⟨rfl, b2⟩
  have s2 : Below w1.heap.size w1 w2 := below_step (by repeat first | exact Below.refl _ _ | refine below_drewN ?_ _ | refine Below.drew ?_ | refine Below.setCell ?_ (by simp <;> omega) _ | refine Below.alloc ?_ (by simp) _) b2 rfl
  have ka' := bx_keep s2 ⟨ka, la⟩
  clear ka la na
  obtain ⟨ka, la⟩ := ka'
  have kb' := bx_keep s2 ⟨kb, lb⟩
  clear kb lb nb
  obtain ⟨kb, lb⟩ := kb'
  have kc' := bx_keep s2 ⟨kc, lc⟩
  clear kc lc nc
  obtain ⟨kc, lc⟩ := kc'
  have na := World.block_lt_of_cell? w2 _ ka
  simp only at na
  have nb := World.block_lt_of_cell? w2 _ kb
  simp only at nb
  have nc := World.block_lt_of_cell? w2 _ kc
  simp only at nc
  have B2 := Below.trans B1 (s2.mono B1.size)
  clear B1
  go_wp2_with fail
  refine (H3.out _).mono ?_
  rintro e w3 ⟨rfl, b3⟩
  have s3 : Below w2.heap.size w2 w3 := below_step (by repeat first | exact Below.refl _ _ | refine below_drewN ?_ _ | refine Below.drew ?_ | refine Below.setCell ?_ (by simp <;> omega) _ | refine Below.alloc ?_ (by simp) _) b3 rfl
  have ka' := bx_keep s3 ⟨ka, la⟩
  clear ka la na
  obtain ⟨ka, la⟩ := ka'
  have kb' := bx_keep s3 ⟨kb, lb⟩
  clear kb lb nb
  obtain ⟨kb, lb⟩ := kb'
  have kc' := bx_keep s3 ⟨kc, lc⟩
  clear kc lc nc
  obtain ⟨kc, lc⟩ := kc'
  have na := World.block_lt_of_cell? w3 _ ka
  simp only at na
  have nb := World.block_lt_of_cell? w3 _ kb
  simp only at nb
  have nc := World.block_lt_of_cell? w3 _ kc
  simp only at nc
  have B3 := Below.trans B2 (s3.mono B2.size)
  clear B2
  go_wp2_with fail
  refine (H4.out _).mono ?_
  rintro e w4 ⟨rfl, b4⟩
  have s4 : Below w3.heap.size w3 w4 := below_step (by repeat first | exact Below.refl _ _ | refine below_drewN ?_ _ | refine Below.drew ?_ | refine Below.setCell ?_ (by simp <;> omega) _ | refine Below.alloc ?_ (by simp) _) b4 rfl
  have ka' := bx_keep s4 ⟨ka, la⟩
  clear ka la na
  obtain ⟨ka, la⟩ := ka'
  have kb' := bx_keep s4 ⟨kb, lb⟩
  clear kb lb nb
  obtain ⟨kb, lb⟩ := kb'
  have kc' := bx_keep s4 ⟨kc, lc⟩
  clear kc lc nc
  obtain ⟨kc, lc⟩ := kc'
  have na := World.block_lt_of_cell? w4 _ ka
  simp only at na
  have nb := World.block_lt_of_cell? w4 _ kb
  simp only at nb
  have nc := World.block_lt_of_cell? w4 _ kc
  simp only at nc
  have B4 := Below.trans B3 (s4.mono B3.size)
  clear B3
  go_wp2_with fail
  refine (H5.out _).mono ?_
  rintro e w5 ⟨rfl, b5⟩
  have s5 : Below w4.heap.size w4 w5 := below_step (by repeat first | exact Below.refl _ _ | refine below_drewN ?_ _ | refine Below.drew ?_ | refine Below.setCell ?_ (by simp <;> omega) _ | refine Below.alloc ?_ (by simp) _) b5 rfl
  have ka' := bx_keep s5 ⟨ka, la⟩
  clear ka la na
  obtain ⟨ka, la⟩ := ka'
  have kb' := bx_keep s5 ⟨kb, lb⟩
  clear kb lb nb
  obtain ⟨kb, lb⟩ := kb'
  have kc' := bx_keep s5 ⟨kc, lc⟩
  clear kc lc nc
  obtain ⟨kc, lc⟩ := kc'
  have na := World.block_lt_of_cell? w5 _ ka
  simp only at na
  have nb := World.block_lt_of_cell? w5 _ kb
  simp only at nb
  have nc := World.block_lt_of_cell? w5 _ kc
  simp only at nc
  have B5 := Below.trans B4 (s5.mono B4.size)
  clear B4
  go_wp2_with fail
  go_ret
  exact ⟨rfl, Below.trans B5 (Below.mono (by repeat first | exact Below.refl _ _ | refine below_drewN ?_ _ | refine Below.drew ?_ | refine Below.setCell ?_ (by simp <;> omega) _ | refine Below.alloc ?_ (by simp) _) B5.size)⟩

set_option maxRecDepth 100000 in
set_option maxHeartbeats 4000000 in
theorem field_no4 (a b c : Q) (w : World)
    (H1 : Hid (∀ w, Calls Try.prog 8 #[] w fun e w' => e = .returned (.bool true) ∧ Below w.heap.size w w'))
    (H2 : Hid (∀ w, Calls Try.prog 9 #[.agg #[.int .i64 a.n, .int .i64 a.d]] w fun e w' => e = .returned (.bool true) ∧ Below w.heap.size w w'))
    (H3 : Hid (∀ w, Calls Try.prog 9 #[.agg #[.int .i64 b.n, .int .i64 b.d]] w fun e w' => e = .returned (.bool true) ∧ Below w.heap.size w w'))
    (H4 : Hid (∀ w, Calls Try.prog 9 #[.agg #[.int .i64 c.n, .int .i64 c.d]] w fun e w' => e = .returned (.bool true) ∧ Below w.heap.size w w'))
    (H5 : Hid (∀ w, Calls Try.prog 10 #[.agg #[.int .i64 a.n, .int .i64 a.d], .int .i64 1000] w fun e w' => e = .returned (.bool true) ∧ Below w.heap.size w w'))
    (H6 : Hid (∀ w, Calls Try.prog 10 #[.agg #[.int .i64 b.n, .int .i64 b.d], .int .i64 1000] w fun e w' => e = .returned (.bool false) ∧ Below w.heap.size w w'))
    : Calls Try.prog 3 #[.agg #[.int .i64 a.n, .int .i64 a.d], .agg #[.int .i64 b.n, .int .i64 b.d], .agg #[.int .i64 c.n, .int .i64 c.d]] w fun e w' => e = .returned (.bool true) ∧ Below w.heap.size w w' := by
  obtain ⟨W, hW⟩ : ∃ W, W = Tri a b c w := ⟨_, rfl⟩
  have hat := tri_bx a b c w
  rw [← hW] at hat
  obtain ⟨⟨ka, la⟩, ⟨kb, lb⟩, ⟨kc, lc⟩, B0⟩ := hat
  unfold Tri Par at hW
  have HW := Lib.hid hW
  clear hW
  have na := World.block_lt_of_cell? W _ ka
  simp only at na
  have nb := World.block_lt_of_cell? W _ kb
  simp only at nb
  have nc := World.block_lt_of_cell? W _ kc
  simp only at nc
  go_enter Try.func3, Try.ntmps3
  go_wp2_with fail
  rw [← HW.out]
  refine (H1.out _).mono ?_
  rintro e w1 ⟨rfl, b1⟩
  have s1 : Below W.heap.size W w1 := below_step (by repeat first | exact Below.refl _ _ | refine below_drewN ?_ _ | refine Below.drew ?_ | refine Below.setCell ?_ (by simp <;> omega) _ | refine Below.alloc ?_ (by simp) _) b1 rfl
  have ka' := bx_keep s1 ⟨ka, la⟩
  clear ka la na
  obtain ⟨ka, la⟩ := ka'
  have kb' := bx_keep s1 ⟨kb, lb⟩
  clear kb lb nb
  obtain ⟨kb, lb⟩ := kb'
  have kc' := bx_keep s1 ⟨kc, lc⟩
  clear kc lc nc
  obtain ⟨kc, lc⟩ := kc'
  have na := World.block_lt_of_cell? w1 _ ka
  simp only at na
  have nb := World.block_lt_of_cell? w1 _ kb
  simp only at nb
  have nc := World.block_lt_of_cell? w1 _ kc
  simp only at nc
  have B1 := Below.trans B0 (s1.mono B0.size)
  go_wp2_with fail
  refine (H2.out _).mono ?_
  rintro e w2 ⟨rfl, b2⟩
  have s2 : Below w1.heap.size w1 w2 := below_step (by repeat first | exact Below.refl _ _ | refine below_drewN ?_ _ | refine Below.drew ?_ | refine Below.setCell ?_ (by simp <;> omega) _ | refine Below.alloc ?_ (by simp) _) b2 rfl
  have ka' := bx_keep s2 ⟨ka, la⟩
  clear ka la na
  obtain ⟨ka, la⟩ := ka'
  have kb' := bx_keep s2 ⟨kb, lb⟩
  clear kb lb nb
  obtain ⟨kb, lb⟩ := kb'
  have kc' := bx_keep s2 ⟨kc, lc⟩
  clear kc lc nc
  obtain ⟨kc, lc⟩ := kc'
  have na := World.block_lt_of_cell? w2 _ ka
  simp only at na
  have nb := World.block_lt_of_cell? w2 _ kb
  simp only at nb
  have nc := World.block_lt_of_cell? w2 _ kc
  simp only at nc
  have B2 := Below.trans B1 (s2.mono B1.size)
  clear B1
  go_wp2_with fail
  refine (H3.out _).mono ?_
  rintro e w3 ⟨rfl, b3⟩
  have s3 : Below w2.heap.size w2 w3 := below_step (by repeat first | exact Below.refl _ _ | refine below_drewN ?_ _ | refine Below.drew ?_ | refine Below.setCell ?_ (by simp <;> omega) _ | refine Below.alloc ?_ (by simp) _) b3 rfl
  have ka' := bx_keep s3 ⟨ka, la⟩
  clear ka la na
  obtain ⟨ka, la⟩ := ka'
  have kb' := bx_keep s3 ⟨kb, lb⟩
  clear kb lb nb
  obtain ⟨kb, lb⟩ := kb'
  have kc' := bx_keep s3 ⟨kc, lc⟩
  clear kc lc nc
  obtain ⟨kc, lc⟩ := kc'
  have na := World.block_lt_of_cell? w3 _ ka
  simp only at na
  have nb := World.block_lt_of_cell? w3 _ kb
  simp only at nb
  have nc := World.block_lt_of_cell? w3 _ kc
  simp only at nc
  have B3 := Below.trans B2 (s3.mono B2.size)
  clear B2
  go_wp2_with fail
  refine (H4.out _).mono ?_
  rintro e w4 ⟨rfl, b4⟩
  have s4 : Below w3.heap.size w3 w4 := below_step (by repeat first | exact Below.refl _ _ | refine below_drewN ?_ _ | refine Below.drew ?_ | refine Below.setCell ?_ (by simp <;> omega) _ | refine Below.alloc ?_ (by simp) _) b4 rfl
  have ka' := bx_keep s4 ⟨ka, la⟩
  clear ka la na
  obtain ⟨ka, la⟩ := ka'
  have kb' := bx_keep s4 ⟨kb, lb⟩
  clear kb lb nb
  obtain ⟨kb, lb⟩ := kb'
  have kc' := bx_keep s4 ⟨kc, lc⟩
  clear kc lc nc
  obtain ⟨kc, lc⟩ := kc'
  have na := World.block_lt_of_cell? w4 _ ka
  simp only at na
  have nb := World.block_lt_of_cell? w4 _ kb
  simp only at nb
  have nc := World.block_lt_of_cell? w4 _ kc
  simp only at nc
  have B4 := Below.trans B3 (s4.mono B3.size)
  clear B3
  go_wp2_with fail
  refine (H5.out _).mono ?_
  rintro e w5 ⟨rfl, b5⟩
  have s5 : Below w4.heap.size w4 w5 := below_step (by repeat first | exact Below.refl _ _ | refine below_drewN ?_ _ | refine Below.drew ?_ | refine Below.setCell ?_ (by simp <;> omega) _ | refine Below.alloc ?_ (by simp) _) b5 rfl
  have ka' := bx_keep s5 ⟨ka, la⟩
  clear ka la na
  obtain ⟨ka, la⟩ := ka'
  have kb' := bx_keep s5 ⟨kb, lb⟩
  clear kb lb nb
  obtain ⟨kb, lb⟩ := kb'
  have kc' := bx_keep s5 ⟨kc, lc⟩
  clear kc lc nc
  obtain ⟨kc, lc⟩ := kc'
  have na := World.block_lt_of_cell? w5 _ ka
  simp only at na
  have nb := World.block_lt_of_cell? w5 _ kb
  simp only at nb
  have nc := World.block_lt_of_cell? w5 _ kc
  simp only at nc
  have B5 := Below.trans B4 (s5.mono B4.size)
  clear B4
  go_wp2_with fail
  refine (H6.out _).mono ?_
  rintro e w6 ⟨rfl, b6⟩
  have s6 : Below w5.heap.size w5 w6 := below_step (by repeat first | exact Below.refl _ _ | refine below_drewN ?_ _ | refine Below.drew ?_ | refine Below.setCell ?_ (by simp <;> omega) _ | refine Below.alloc ?_ (by simp) _) b6 rfl
  have ka' := bx_keep s6 ⟨ka, la⟩
  clear ka la na
  obtain ⟨ka, la⟩ := ka'
  have kb' := bx_keep s6 ⟨kb, lb⟩
  clear kb lb nb
  obtain ⟨kb, lb⟩ := kb'
  have kc' := bx_keep s6 ⟨kc, lc⟩
  clear kc lc nc
  obtain ⟨kc, lc⟩ := kc'
  have na := World.block_lt_of_cell? w6 _ ka
  simp only at na
  have nb := World.block_lt_of_cell? w6 _ kb
  simp only at nb
  have nc := World.block_lt_of_cell? w6 _ kc
  simp only at nc
  have B6 := Below.trans B5 (s6.mono B5.size)
  clear B5
  go_wp2_with fail
  go_ret
  exact ⟨rfl, Below.trans B6 (Below.mono (by repeat first | exact Below.refl _ _ | refine below_drewN ?_ _ | refine Below.drew ?_ | refine Below.setCell ?_ (by simp <;> omega) _ | refine Below.alloc ?_ (by simp) _) B6.size)⟩

set_option maxRecDepth 100000 in
set_option maxHeartbeats 4000000 in
theorem field_no5 (a b c : Q) (w : World)
    (H1 : Hid (∀ w, Calls Try.prog 8 #[] w fun e w' => e = .returned (.bool true) ∧ Below w.heap.size w w'))
    (H2 : Hid (∀ w, Calls Try.prog 9 #[.agg #[.int .i64 a.n, .int .i64 a.d]] w fun e w' => e = .returned (.bool true) ∧ Below w.heap.size w w'))
    (H3 : Hid (∀ w, Calls Try.prog 9 #[.agg #[.int .i64 b.n, .int .i64 b.d]] w fun e w' => e = .returned (.bool true) ∧ Below w.heap.size w w'))
    (H4 : Hid (∀ w, Calls Try.prog 9 #[.agg #[.int .i64 c.n, .int .i64 c.d]] w fun e w' => e = .returned (.bool true) ∧ Below w.heap.size w w'))
    (H5 : Hid (∀ w, Calls Try.prog 10 #[.agg #[.int .i64 a.n, .int .i64 a.d], .int .i64 1000] w fun e w' => e = .returned (.bool true) ∧ Below w.heap.size w w'))
    (H6 : Hid (∀ w, Calls Try.prog 10 #[.agg #[.int .i64 b.n, .int .i64 b.d], .int .i64 1000] w fun e w' => e = .returned (.bool true) ∧ Below w.heap.size w w'))
    (H7 : Hid (∀ w, Calls Try.prog 10 #[.agg #[.int .i64 c.n, .int .i64 c.d], .int .i64 1000] w fun e w' => e = .returned (.bool false) ∧ Below w.heap.size w w'))
    : Calls Try.prog 3 #[.agg #[.int .i64 a.n, .int .i64 a.d], .agg #[.int .i64 b.n, .int .i64 b.d], .agg #[.int .i64 c.n, .int .i64 c.d]] w fun e w' => e = .returned (.bool true) ∧ Below w.heap.size w w' := by
  obtain ⟨W, hW⟩ : ∃ W, W = Tri a b c w := ⟨_, rfl⟩
  have hat := tri_bx a b c w
  rw [← hW] at hat
  obtain ⟨⟨ka, la⟩, ⟨kb, lb⟩, ⟨kc, lc⟩, B0⟩ := hat
  unfold Tri Par at hW
  have HW := Lib.hid hW
  clear hW
  have na := World.block_lt_of_cell? W _ ka
  simp only at na
  have nb := World.block_lt_of_cell? W _ kb
  simp only at nb
  have nc := World.block_lt_of_cell? W _ kc
  simp only at nc
  go_enter Try.func3, Try.ntmps3
  go_wp2_with fail
  rw [← HW.out]
  refine (H1.out _).mono ?_
  rintro e w1 ⟨rfl, b1⟩
  have s1 : Below W.heap.size W w1 := below_step (by repeat first | exact Below.refl _ _ | refine below_drewN ?_ _ | refine Below.drew ?_ | refine Below.setCell ?_ (by simp <;> omega) _ | refine Below.alloc ?_ (by simp) _) b1 rfl
  have ka' := bx_keep s1 ⟨ka, la⟩
  clear ka la na
  obtain ⟨ka, la⟩ := ka'
  have kb' := bx_keep s1 ⟨kb, lb⟩
  clear kb lb nb
  obtain ⟨kb, lb⟩ := kb'
  have kc' := bx_keep s1 ⟨kc, lc⟩
  clear kc lc nc
  obtain ⟨kc, lc⟩ := kc'
  have na := World.block_lt_of_cell? w1 _ ka
  simp only at na
  have nb := World.block_lt_of_cell? w1 _ kb
  simp only at nb
  have nc := World.block_lt_of_cell? w1 _ kc
  simp only at nc
  have B1 := Below.trans B0 (s1.mono B0.size)
  go_wp2_with fail
  refine (H2.out _).mono ?_
  rintro e w2 ⟨rfl, b2⟩
  have s2 : Below w1.heap.size w1 w2 := below_step (by repeat first | exact Below.refl _ _ | refine below_drewN ?_ _ | refine Below.drew ?_ | refine Below.setCell ?_ (by simp <;> omega) _ | refine Below.alloc ?_ (by simp) _) b2 rfl
  have ka' := bx_keep s2 ⟨ka, la⟩
  clear ka la na
  obtain ⟨ka, la⟩ := ka'
  have kb' := bx_keep s2 ⟨kb, lb⟩
  clear kb lb nb
  obtain ⟨kb, lb⟩ := kb'
  have kc' := bx_keep s2 ⟨kc, lc⟩
  clear kc lc nc
  obtain ⟨kc, lc⟩ := kc'
  have na := World.block_lt_of_cell? w2 _ ka
  simp only at na
  have nb := World.block_lt_of_cell? w2 _ kb
  simp only at nb
  have nc := World.block_lt_of_cell? w2 _ kc
  simp only at nc
  have B2 := Below.trans B1 (s2.mono B1.size)
  clear B1
  go_wp2_with fail
  refine (H3.out _).mono ?_
  rintro e w3 ⟨rfl, b3⟩
  have s3 : Below w2.heap.size w2 w3 := below_step (by repeat first | exact Below.refl _ _ | refine below_drewN ?_ _ | refine Below.drew ?_ | refine Below.setCell ?_ (by simp <;> omega) _ | refine Below.alloc ?_ (by simp) _) b3 rfl
  have ka' := bx_keep s3 ⟨ka, la⟩
  clear ka la na
  obtain ⟨ka, la⟩ := ka'
  have kb' := bx_keep s3 ⟨kb, lb⟩
  clear kb lb nb
  obtain ⟨kb, lb⟩ := kb'
  have kc' := bx_keep s3 ⟨kc, lc⟩
  clear kc lc nc
  obtain ⟨kc, lc⟩ := kc'
  have na := World.block_lt_of_cell? w3 _ ka
  simp only at na
  have nb := World.block_lt_of_cell? w3 _ kb
  simp only at nb
  have nc := World.block_lt_of_cell? w3 _ kc
  simp only at nc
  have B3 := Below.trans B2 (s3.mono B2.size)
  clear B2
  go_wp2_with fail
  refine (H4.out _).mono ?_
  rintro e w4 ⟨rfl, b4⟩
  have s4 : Below w3.heap.size w3 w4 := below_step (by repeat first | exact Below.refl _ _ | refine below_drewN ?_ _ | refine Below.drew ?_ | refine Below.setCell ?_ (by simp <;> omega) _ | refine Below.alloc ?_ (by simp) _) b4 rfl
  have ka' := bx_keep s4 ⟨ka, la⟩
  clear ka la na
  obtain ⟨ka, la⟩ := ka'
  have kb' := bx_keep s4 ⟨kb, lb⟩
  clear kb lb nb
  obtain ⟨kb, lb⟩ := kb'
  have kc' := bx_keep s4 ⟨kc, lc⟩
  clear kc lc nc
  obtain ⟨kc, lc⟩ := kc'
  have na := World.block_lt_of_cell? w4 _ ka
  simp only at na
  have nb := World.block_lt_of_cell? w4 _ kb
  simp only at nb
  have nc := World.block_lt_of_cell? w4 _ kc
  simp only at nc
  have B4 := Below.trans B3 (s4.mono B3.size)
  clear B3
  go_wp2_with fail
  refine (H5.out _).mono ?_
  rintro e w5 ⟨rfl, b5⟩
  have s5 : Below w4.heap.size w4 w5 := below_step (by repeat first | exact Below.refl _ _ | refine below_drewN ?_ _ | refine Below.drew ?_ | refine Below.setCell ?_ (by simp <;> omega) _ | refine Below.alloc ?_ (by simp) _) b5 rfl
  have ka' := bx_keep s5 ⟨ka, la⟩
  clear ka la na
  obtain ⟨ka, la⟩ := ka'
  have kb' := bx_keep s5 ⟨kb, lb⟩
  clear kb lb nb
  obtain ⟨kb, lb⟩ := kb'
  have kc' := bx_keep s5 ⟨kc, lc⟩
  clear kc lc nc
  obtain ⟨kc, lc⟩ := kc'
  have na := World.block_lt_of_cell? w5 _ ka
  simp only at na
  have nb := World.block_lt_of_cell? w5 _ kb
  simp only at nb
  have nc := World.block_lt_of_cell? w5 _ kc
  simp only at nc
  have B5 := Below.trans B4 (s5.mono B4.size)
  clear B4
  go_wp2_with fail
  refine (H6.out _).mono ?_
  rintro e w6 ⟨rfl, b6⟩
  have s6 : Below w5.heap.size w5 w6 := below_step (by repeat first | exact Below.refl _ _ | refine below_drewN ?_ _ | refine Below.drew ?_ | refine Below.setCell ?_ (by simp <;> omega) _ | refine Below.alloc ?_ (by simp) _) b6 rfl
  have ka' := bx_keep s6 ⟨ka, la⟩
  clear ka la na
  obtain ⟨ka, la⟩ := ka'
  have kb' := bx_keep s6 ⟨kb, lb⟩
  clear kb lb nb
  obtain ⟨kb, lb⟩ := kb'
  have kc' := bx_keep s6 ⟨kc, lc⟩
  clear kc lc nc
  obtain ⟨kc, lc⟩ := kc'
  have na := World.block_lt_of_cell? w6 _ ka
  simp only at na
  have nb := World.block_lt_of_cell? w6 _ kb
  simp only at nb
  have nc := World.block_lt_of_cell? w6 _ kc
  simp only at nc
  have B6 := Below.trans B5 (s6.mono B5.size)
  clear B5
  go_wp2_with fail
  refine (H7.out _).mono ?_
  rintro e w7 ⟨rfl, b7⟩
  have s7 : Below w6.heap.size w6 w7 := below_step (by repeat first | exact Below.refl _ _ | refine below_drewN ?_ _ | refine Below.drew ?_ | refine Below.setCell ?_ (by simp <;> omega) _ | refine Below.alloc ?_ (by simp) _) b7 rfl
  have ka' := bx_keep s7 ⟨ka, la⟩
  clear ka la na
  obtain ⟨ka, la⟩ := ka'
  have kb' := bx_keep s7 ⟨kb, lb⟩
  clear kb lb nb
  obtain ⟨kb, lb⟩ := kb'
  have kc' := bx_keep s7 ⟨kc, lc⟩
  clear kc lc nc
  obtain ⟨kc, lc⟩ := kc'
  have na := World.block_lt_of_cell? w7 _ ka
  simp only at na
  have nb := World.block_lt_of_cell? w7 _ kb
  simp only at nb
  have nc := World.block_lt_of_cell? w7 _ kc
  simp only at nc
  have B7 := Below.trans B6 (s7.mono B6.size)
  clear B6
  go_wp2_with fail
  go_ret
  exact ⟨rfl, Below.trans B7 (Below.mono (by repeat first | exact Below.refl _ _ | refine below_drewN ?_ _ | refine Below.drew ?_ | refine Below.setCell ?_ (by simp <;> omega) _ | refine Below.alloc ?_ (by simp) _) B7.size)⟩

end Go.Proofs.Ytfchbkhgoebagaa
