/- The walk of RatioField: all are right and fit. -/
import Derived.Test.YtfchbkhgoebagaaRFa
namespace Go.Proofs.Ytfchbkhgoebagaa
open Go.RowKit Ra

set_option maxRecDepth 100000 in
set_option maxHeartbeats 4000000 in
theorem field_yes (a b c x y l p q s u : Q) (w : World)
    (H1 : Hid (∀ w, Calls Try.prog 8 #[] w fun e w' => e = .returned (.bool true) ∧ Below w.heap.size w w'))
    (H2 : Hid (∀ w, Calls Try.prog 9 #[.agg #[.int .i64 a.n, .int .i64 a.d]] w fun e w' => e = .returned (.bool true) ∧ Below w.heap.size w w'))
    (H3 : Hid (∀ w, Calls Try.prog 9 #[.agg #[.int .i64 b.n, .int .i64 b.d]] w fun e w' => e = .returned (.bool true) ∧ Below w.heap.size w w'))
    (H4 : Hid (∀ w, Calls Try.prog 9 #[.agg #[.int .i64 c.n, .int .i64 c.d]] w fun e w' => e = .returned (.bool true) ∧ Below w.heap.size w w'))
    (H5 : Hid (∀ w, Calls Try.prog 10 #[.agg #[.int .i64 a.n, .int .i64 a.d], .int .i64 1000] w fun e w' => e = .returned (.bool true) ∧ Below w.heap.size w w'))
    (H6 : Hid (∀ w, Calls Try.prog 10 #[.agg #[.int .i64 b.n, .int .i64 b.d], .int .i64 1000] w fun e w' => e = .returned (.bool true) ∧ Below w.heap.size w w'))
    (H7 : Hid (∀ w, Calls Try.prog 10 #[.agg #[.int .i64 c.n, .int .i64 c.d], .int .i64 1000] w fun e w' => e = .returned (.bool true) ∧ Below w.heap.size w w'))
    (H8 : Hid (∀ w, Calls Try.prog 11 #[.agg #[.int .i64 a.n, .int .i64 a.d], .agg #[.int .i64 b.n, .int .i64 b.d]] w fun e w' => e = .returned (.tuple #[.agg #[.int .i64 x.n, .int .i64 x.d], .bool true]) ∧ Below w.heap.size w w'))
    (H9 : Hid (∀ w, Calls Try.prog 11 #[.agg #[.int .i64 b.n, .int .i64 b.d], .agg #[.int .i64 a.n, .int .i64 a.d]] w fun e w' => e = .returned (.tuple #[.agg #[.int .i64 x.n, .int .i64 x.d], .bool true]) ∧ Below w.heap.size w w'))
    (H10 : Hid (∀ w, Calls Try.prog 11 #[.agg #[.int .i64 b.n, .int .i64 b.d], .agg #[.int .i64 c.n, .int .i64 c.d]] w fun e w' => e = .returned (.tuple #[.agg #[.int .i64 y.n, .int .i64 y.d], .bool true]) ∧ Below w.heap.size w w'))
    (H11 : Hid (∀ w, Calls Try.prog 11 #[.agg #[.int .i64 x.n, .int .i64 x.d], .agg #[.int .i64 c.n, .int .i64 c.d]] w fun e w' => e = .returned (.tuple #[.agg #[.int .i64 l.n, .int .i64 l.d], .bool true]) ∧ Below w.heap.size w w'))
    (H12 : Hid (∀ w, Calls Try.prog 11 #[.agg #[.int .i64 a.n, .int .i64 a.d], .agg #[.int .i64 y.n, .int .i64 y.d]] w fun e w' => e = .returned (.tuple #[.agg #[.int .i64 l.n, .int .i64 l.d], .bool true]) ∧ Below w.heap.size w w'))
    (H13 : Hid (∀ w, Calls Try.prog 12 #[.agg #[.int .i64 a.n, .int .i64 a.d], .agg #[.int .i64 b.n, .int .i64 b.d]] w fun e w' => e = .returned (.tuple #[.agg #[.int .i64 p.n, .int .i64 p.d], .bool true]) ∧ Below w.heap.size w w'))
    (H14 : Hid (∀ w, Calls Try.prog 12 #[.agg #[.int .i64 a.n, .int .i64 a.d], .agg #[.int .i64 c.n, .int .i64 c.d]] w fun e w' => e = .returned (.tuple #[.agg #[.int .i64 q.n, .int .i64 q.d], .bool true]) ∧ Below w.heap.size w w'))
    (H15 : Hid (∀ w, Calls Try.prog 12 #[.agg #[.int .i64 a.n, .int .i64 a.d], .agg #[.int .i64 y.n, .int .i64 y.d]] w fun e w' => e = .returned (.tuple #[.agg #[.int .i64 s.n, .int .i64 s.d], .bool true]) ∧ Below w.heap.size w w'))
    (H16 : Hid (∀ w, Calls Try.prog 11 #[.agg #[.int .i64 p.n, .int .i64 p.d], .agg #[.int .i64 q.n, .int .i64 q.d]] w fun e w' => e = .returned (.tuple #[.agg #[.int .i64 s.n, .int .i64 s.d], .bool true]) ∧ Below w.heap.size w w'))
    (H17 : Hid (∀ w, Calls Try.prog 12 #[.agg #[.int .i64 p.n, .int .i64 p.d], .agg #[.int .i64 c.n, .int .i64 c.d]] w fun e w' => e = .returned (.tuple #[.agg #[.int .i64 u.n, .int .i64 u.d], .bool true]) ∧ Below w.heap.size w w'))
    (H18 : Hid (∀ w, Calls Try.prog 12 #[.agg #[.int .i64 q.n, .int .i64 q.d], .agg #[.int .i64 b.n, .int .i64 b.d]] w fun e w' => e = .returned (.tuple #[.agg #[.int .i64 u.n, .int .i64 u.d], .bool true]) ∧ Below w.heap.size w w'))
    : Calls Try.prog 3 #[.agg #[.int .i64 a.n, .int .i64 a.d], .agg #[.int .i64 b.n, .int .i64 b.d], .agg #[.int .i64 c.n, .int .i64 c.d]] w fun e w' => e = .returned (.bool true) ∧ Below w.heap.size w w' := by
  obtain ⟨W, hW⟩ : ∃ W, W = Tri a b c w := ⟨_, rfl⟩
  have hat := tri_bx a b c w
  rw [← hW] at hat
  obtain ⟨⟨ka, la⟩, ⟨kb, lb⟩, ⟨kc, lc⟩, B0⟩ := hat
  unfold Tri Par at hW
  have HW := Lib.hid hW
  clear hW
  have na := World.block_lt_of_cell? W _ ka
  simp only at na
  have nb := World.block_lt_of_cell? W _ kb
  simp only at nb
  have nc := World.block_lt_of_cell? W _ kc
  simp only at nc
  go_enter Try.func3, Try.ntmps3
  go_wp2_with fail
  rw [← HW.out]
  refine (H1.out _).mono ?_
  rintro e w1 ⟨rfl, b1⟩
  have s1 : Below W.heap.size W w1 := below_step (by repeat first | exact Below.refl _ _ | refine below_drewN ?_ _ | refine Below.drew ?_ | refine Below.setCell ?_ (by simp <;> omega) _ | refine Below.alloc ?_ (by simp) _) b1 rfl
  have ka' := bx_keep s1 ⟨ka, la⟩
  clear ka la na
  obtain ⟨ka, la⟩ := ka'
  have kb' := bx_keep s1 ⟨kb, lb⟩
  clear kb lb nb
  obtain ⟨kb, lb⟩ := kb'
  have kc' := bx_keep s1 ⟨kc, lc⟩
  clear kc lc nc
  obtain ⟨kc, lc⟩ := kc'
  have na := World.block_lt_of_cell? w1 _ ka
  simp only at na
  have nb := World.block_lt_of_cell? w1 _ kb
  simp only at nb
  have nc := World.block_lt_of_cell? w1 _ kc
  simp only at nc
  have B1 := Below.trans B0 (s1.mono B0.size)
  go_wp2_with fail
  refine (H2.out _).mono ?_
  rintro e w2 ⟨rfl, b2⟩
  have s2 : Below w1.heap.size w1 w2 := below_step (by repeat first | exact Below.refl _ _ | refine below_drewN ?_ _ | refine Below.drew ?_ | refine Below.setCell ?_ (by simp <;> omega) _ | refine Below.alloc ?_ (by simp) _) b2 rfl
  have ka' := bx_keep s2 ⟨ka, la⟩
  clear ka la na
  obtain ⟨ka, la⟩ := ka'
  have kb' := bx_keep s2 ⟨kb, lb⟩
  clear kb lb nb
  obtain ⟨kb, lb⟩ := kb'
  have kc' := bx_keep s2 ⟨kc, lc⟩
  clear kc lc nc
  obtain ⟨kc, lc⟩ := kc'
  have na := World.block_lt_of_cell? w2 _ ka
  simp only at na
  have nb := World.block_lt_of_cell? w2 _ kb
  simp only at nb
  have nc := World.block_lt_of_cell? w2 _ kc
  simp only at nc
  have B2 := Below.trans B1 (s2.mono B1.size)
  clear B1
  go_wp2_with fail
  refine (H3.out _).mono ?_
  rintro e w3 ⟨rfl, b3⟩
  have s3 : Below w2.heap.size w2 w3 := below_step (by repeat first | exact Below.refl _ _ | refine below_drewN ?_ _ | refine Below.drew ?_ | refine Below.setCell ?_ (by simp <;> omega) _ | refine Below.alloc ?_ (by simp) _) b3 rfl
  have ka' := bx_keep s3 ⟨ka, la⟩
  clear ka la na
  obtain ⟨ka, la⟩ := ka'
  have kb' := bx_keep s3 ⟨kb, lb⟩
  clear kb lb nb
  obtain ⟨kb, lb⟩ := kb'
  have kc' := bx_keep s3 ⟨kc, lc⟩
  clear kc lc nc
  obtain ⟨kc, lc⟩ := kc'
  have na := World.block_lt_of_cell? w3 _ ka
  simp only at na
  have nb := World.block_lt_of_cell? w3 _ kb
  simp only at nb
  have nc := World.block_lt_of_cell? w3 _ kc
  simp only at nc
  have B3 := Below.trans B2 (s3.mono B2.size)
  clear B2
  go_wp2_with fail
  refine (H4.out _).mono ?_
  rintro e w4 ⟨rfl, b4⟩
  have s4 : Below w3.heap.size w3 w4 := below_step (by repeat first | exact Below.refl _ _ | refine below_drewN ?_ _ | refine Below.drew ?_ | refine Below.setCell ?_ (by simp <;> omega) _ | refine Below.alloc ?_ (by simp) _) b4 rfl
  have ka' := bx_keep s4 ⟨ka, la⟩
  clear ka la na
  obtain ⟨ka, la⟩ := ka'
  have kb' := bx_keep s4 ⟨kb, lb⟩
  clear kb lb nb
  obtain ⟨kb, lb⟩ := kb'
  have kc' := bx_keep s4 ⟨kc, lc⟩
  clear kc lc nc
  obtain ⟨kc, lc⟩ := kc'
  have na := World.block_lt_of_cell? w4 _ ka
  simp only at na
  have nb := World.block_lt_of_cell? w4 _ kb
  simp only at nb
  have nc := World.block_lt_of_cell? w4 _ kc
  simp only at nc
  have B4 := Below.trans B3 (s4.mono B3.size)
  clear B3
  go_wp2_with fail
  refine (H5.out _).mono ?_
  rintro e w5 ⟨rfl, b5⟩
  have s5 : Below w4.heap.size w4 w5 := below_step (by repeat first | exact Below.refl _ _ | refine below_drewN ?_ _ | refine Below.drew ?_ | refine Below.setCell ?_ (by simp <;> omega) _ | refine Below.alloc ?_ (by simp) _) b5 rfl
  have ka' := bx_keep s5 ⟨ka, la⟩
  clear ka la na
  obtain ⟨ka, la⟩ := ka'
  have kb' := bx_keep s5 ⟨kb, lb⟩
  clear kb lb nb
  obtain ⟨kb, lb⟩ := kb'
  have kc' := bx_keep s5 ⟨kc, lc⟩
  clear kc lc nc
  obtain ⟨kc, lc⟩ := kc'
  have na := World.block_lt_of_cell? w5 _ ka
  simp only at na
  have nb := World.block_lt_of_cell? w5 _ kb
  simp only at nb
  have nc := World.block_lt_of_cell? w5 _ kc
  simp only at nc
  have B5 := Below.trans B4 (s5.mono B4.size)
  clear B4
  go_wp2_with fail
  refine (H6.out _).mono ?_
  rintro e w6 ⟨rfl, b6⟩
  have s6 : Below w5.heap.size w5 w6 := below_step (by repeat first | exact Below.refl _ _ | refine below_drewN ?_ _ | refine Below.drew ?_ | refine Below.setCell ?_ (by simp <;> omega) _ | refine Below.alloc ?_ (by simp) _) b6 rfl
  have ka' := bx_keep s6 ⟨ka, la⟩
  clear ka la na
  obtain ⟨ka, la⟩ := ka'
  have kb' := bx_keep s6 ⟨kb, lb⟩
  clear kb lb nb
  obtain ⟨kb, lb⟩ := kb'
  have kc' := bx_keep s6 ⟨kc, lc⟩
  clear kc lc nc
  obtain ⟨kc, lc⟩ := kc'
  have na := World.block_lt_of_cell? w6 _ ka
  simp only at na
  have nb := World.block_lt_of_cell? w6 _ kb
  simp only at nb
  have nc := World.block_lt_of_cell? w6 _ kc
  simp only at nc
  have B6 := Below.trans B5 (s6.mono B5.size)
  clear B5
  go_wp2_with fail
  refine (H7.out _).mono ?_
  rintro e w7 ⟨rfl, b7⟩
  have s7 : Below w6.heap.size w6 w7 := below_step (by repeat first | exact Below.refl _ _ | refine below_drewN ?_ _ | refine Below.drew ?_ | refine Below.setCell ?_ (by simp <;> omega) _ | refine Below.alloc ?_ (by simp) _) b7 rfl
  have ka' := bx_keep s7 ⟨ka, la⟩
  clear ka la na
  obtain ⟨ka, la⟩ := ka'
  have kb' := bx_keep s7 ⟨kb, lb⟩
  clear kb lb nb
  obtain ⟨kb, lb⟩ := kb'
  have kc' := bx_keep s7 ⟨kc, lc⟩
  clear kc lc nc
  obtain ⟨kc, lc⟩ := kc'
  have na := World.block_lt_of_cell? w7 _ ka
  simp only at na
  have nb := World.block_lt_of_cell? w7 _ kb
  simp only at nb
  have nc := World.block_lt_of_cell? w7 _ kc
  simp only at nc
  have B7 := Below.trans B6 (s7.mono B6.size)
  clear B6
  go_wp2_with fail
  refine (H8.out _).mono ?_
  rintro e w8 ⟨rfl, b8⟩
  have s8 : Below w7.heap.size w7 w8 := below_step (by repeat first | exact Below.refl _ _ | refine below_drewN ?_ _ | refine Below.drew ?_ | refine Below.setCell ?_ (by simp <;> omega) _ | refine Below.alloc ?_ (by simp) _) b8 rfl
  have ka' := bx_keep s8 ⟨ka, la⟩
  clear ka la na
  obtain ⟨ka, la⟩ := ka'
  have kb' := bx_keep s8 ⟨kb, lb⟩
  clear kb lb nb
  obtain ⟨kb, lb⟩ := kb'
  have kc' := bx_keep s8 ⟨kc, lc⟩
  clear kc lc nc
  obtain ⟨kc, lc⟩ := kc'
  have na := World.block_lt_of_cell? w8 _ ka
  simp only at na
  have nb := World.block_lt_of_cell? w8 _ kb
  simp only at nb
  have nc := World.block_lt_of_cell? w8 _ kc
  simp only at nc
  have B8 := Below.trans B7 (s8.mono B7.size)
  clear B7
  go_wp2_with fail
  refine (H9.out _).mono ?_
  rintro e w9 ⟨rfl, b9⟩
  have s9 : Below w8.heap.size w8 w9 := below_step (by repeat first | exact Below.refl _ _ | refine below_drewN ?_ _ | refine Below.drew ?_ | refine Below.setCell ?_ (by simp <;> omega) _ | refine Below.alloc ?_ (by simp) _) b9 rfl
  have ka' := bx_keep s9 ⟨ka, la⟩
  clear ka la na
  obtain ⟨ka, la⟩ := ka'
  have kb' := bx_keep s9 ⟨kb, lb⟩
  clear kb lb nb
  obtain ⟨kb, lb⟩ := kb'
  have kc' := bx_keep s9 ⟨kc, lc⟩
  clear kc lc nc
  obtain ⟨kc, lc⟩ := kc'
  obtain ⟨kx1, lx1⟩ := bx_new b9 (by simp)
  have na := World.block_lt_of_cell? w9 _ ka
  simp only at na
  have nb := World.block_lt_of_cell? w9 _ kb
  simp only at nb
  have nc := World.block_lt_of_cell? w9 _ kc
  simp only at nc
  have nx1 := World.block_lt_of_cell? w9 _ kx1
  simp only at nx1
  have B9 := Below.trans B8 (s9.mono B8.size)
  clear B8
  go_wp2_with fail
  refine (H10.out _).mono ?_
  rintro e w10 ⟨rfl, b10⟩
  have s10 : Below w9.heap.size w9 w10 := below_step (by repeat first | exact Below.refl _ _ | refine below_drewN ?_ _ | refine Below.drew ?_ | refine Below.setCell ?_ (by simp <;> omega) _ | refine Below.alloc ?_ (by simp) _) b10 rfl
  have ka' := bx_keep s10 ⟨ka, la⟩
  clear ka la na
  obtain ⟨ka, la⟩ := ka'
  have kb' := bx_keep s10 ⟨kb, lb⟩
  clear kb lb nb
  obtain ⟨kb, lb⟩ := kb'
  have kc' := bx_keep s10 ⟨kc, lc⟩
  clear kc lc nc
  obtain ⟨kc, lc⟩ := kc'
  have kx1' := bx_keep s10 ⟨kx1, lx1⟩
  clear kx1 lx1 nx1
  obtain ⟨kx1, lx1⟩ := kx1'
  obtain ⟨kx2, lx2⟩ := bx_new b10 (by simp)
  have na := World.block_lt_of_cell? w10 _ ka
  simp only at na
  have nb := World.block_lt_of_cell? w10 _ kb
  simp only at nb
  have nc := World.block_lt_of_cell? w10 _ kc
  simp only at nc
  have nx1 := World.block_lt_of_cell? w10 _ kx1
  simp only at nx1
  have nx2 := World.block_lt_of_cell? w10 _ kx2
  simp only at nx2
  have B10 := Below.trans B9 (s10.mono B9.size)
  clear B9
  go_wp2_with fail
  refine (H11.out _).mono ?_
  rintro e w11 ⟨rfl, b11⟩
  have s11 : Below w10.heap.size w10 w11 := below_step (by repeat first | exact Below.refl _ _ | refine below_drewN ?_ _ | refine Below.drew ?_ | refine Below.setCell ?_ (by simp <;> omega) _ | refine Below.alloc ?_ (by simp) _) b11 rfl
  have ka' := bx_keep s11 ⟨ka, la⟩
  clear ka la na
  obtain ⟨ka, la⟩ := ka'
  have kb' := bx_keep s11 ⟨kb, lb⟩
  clear kb lb nb
  obtain ⟨kb, lb⟩ := kb'
  have kc' := bx_keep s11 ⟨kc, lc⟩
  clear kc lc nc
  obtain ⟨kc, lc⟩ := kc'
  have kx1' := bx_keep s11 ⟨kx1, lx1⟩
  clear kx1 lx1 nx1
  obtain ⟨kx1, lx1⟩ := kx1'
  have kx2' := bx_keep s11 ⟨kx2, lx2⟩
  clear kx2 lx2 nx2
  obtain ⟨kx2, lx2⟩ := kx2'
  obtain ⟨ky1, ly1⟩ := bx_new b11 (by simp)
  have na := World.block_lt_of_cell? w11 _ ka
  simp only at na
  have nb := World.block_lt_of_cell? w11 _ kb
  simp only at nb
  have nc := World.block_lt_of_cell? w11 _ kc
  simp only at nc
  have nx1 := World.block_lt_of_cell? w11 _ kx1
  simp only at nx1
  have nx2 := World.block_lt_of_cell? w11 _ kx2
  simp only at nx2
  have ny1 := World.block_lt_of_cell? w11 _ ky1
  simp only at ny1
  have B11 := Below.trans B10 (s11.mono B10.size)
  clear B10
  go_wp2_with fail
  refine (H12.out _).mono ?_
  rintro e w12 ⟨rfl, b12⟩
  have s12 : Below w11.heap.size w11 w12 := below_step (by repeat first | exact Below.refl _ _ | refine below_drewN ?_ _ | refine Below.drew ?_ | refine Below.setCell ?_ (by simp <;> omega) _ | refine Below.alloc ?_ (by simp) _) b12 rfl
  have ka' := bx_keep s12 ⟨ka, la⟩
  clear ka la na
  obtain ⟨ka, la⟩ := ka'
  have kb' := bx_keep s12 ⟨kb, lb⟩
  clear kb lb nb
  obtain ⟨kb, lb⟩ := kb'
  have kc' := bx_keep s12 ⟨kc, lc⟩
  clear kc lc nc
  obtain ⟨kc, lc⟩ := kc'
  have kx1' := bx_keep s12 ⟨kx1, lx1⟩
  clear kx1 lx1 nx1
  obtain ⟨kx1, lx1⟩ := kx1'
  have kx2' := bx_keep s12 ⟨kx2, lx2⟩
  clear kx2 lx2 nx2
  obtain ⟨kx2, lx2⟩ := kx2'
  have ky1' := bx_keep s12 ⟨ky1, ly1⟩
  clear ky1 ly1 ny1
  obtain ⟨ky1, ly1⟩ := ky1'
  obtain ⟨kl1, ll1⟩ := bx_new b12 (by simp)
  have na := World.block_lt_of_cell? w12 _ ka
  simp only at na
  have nb := World.block_lt_of_cell? w12 _ kb
  simp only at nb
  have nc := World.block_lt_of_cell? w12 _ kc
  simp only at nc
  have nx1 := World.block_lt_of_cell? w12 _ kx1
  simp only at nx1
  have nx2 := World.block_lt_of_cell? w12 _ kx2
  simp only at nx2
  have ny1 := World.block_lt_of_cell? w12 _ ky1
  simp only at ny1
  have nl1 := World.block_lt_of_cell? w12 _ kl1
  simp only at nl1
  have B12 := Below.trans B11 (s12.mono B11.size)
  clear B11
  go_wp2_with fail
  refine (H13.out _).mono ?_
  rintro e w13 ⟨rfl, b13⟩
  have s13 : Below w12.heap.size w12 w13 := below_step (by repeat first | exact Below.refl _ _ | refine below_drewN ?_ _ | refine Below.drew ?_ | refine Below.setCell ?_ (by simp <;> omega) _ | refine Below.alloc ?_ (by simp) _) b13 rfl
  have ka' := bx_keep s13 ⟨ka, la⟩
  clear ka la na
  obtain ⟨ka, la⟩ := ka'
  have kb' := bx_keep s13 ⟨kb, lb⟩
  clear kb lb nb
  obtain ⟨kb, lb⟩ := kb'
  have kc' := bx_keep s13 ⟨kc, lc⟩
  clear kc lc nc
  obtain ⟨kc, lc⟩ := kc'
  have kx1' := bx_keep s13 ⟨kx1, lx1⟩
  clear kx1 lx1 nx1
  obtain ⟨kx1, lx1⟩ := kx1'
  have kx2' := bx_keep s13 ⟨kx2, lx2⟩
  clear kx2 lx2 nx2
  obtain ⟨kx2, lx2⟩ := kx2'
  have ky1' := bx_keep s13 ⟨ky1, ly1⟩
  clear ky1 ly1 ny1
  obtain ⟨ky1, ly1⟩ := ky1'
  have kl1' := bx_keep s13 ⟨kl1, ll1⟩
  clear kl1 ll1 nl1
  obtain ⟨kl1, ll1⟩ := kl1'
  obtain ⟨kl2, ll2⟩ := bx_new b13 (by simp)
  have na := World.block_lt_of_cell? w13 _ ka
  simp only at na
  have nb := World.block_lt_of_cell? w13 _ kb
  simp only at nb
  have nc := World.block_lt_of_cell? w13 _ kc
  simp only at nc
  have nx1 := World.block_lt_of_cell? w13 _ kx1
  simp only at nx1
  have nx2 := World.block_lt_of_cell? w13 _ kx2
  simp only at nx2
  have ny1 := World.block_lt_of_cell? w13 _ ky1
  simp only at ny1
  have nl1 := World.block_lt_of_cell? w13 _ kl1
  simp only at nl1
  have nl2 := World.block_lt_of_cell? w13 _ kl2
  simp only at nl2
  have B13 := Below.trans B12 (s13.mono B12.size)
  clear B12
  go_wp2_with fail
  refine (H14.out _).mono ?_
  rintro e w14 ⟨rfl, b14⟩
  have s14 : Below w13.heap.size w13 w14 := below_step (by repeat first | exact Below.refl _ _ | refine below_drewN ?_ _ | refine Below.drew ?_ | refine Below.setCell ?_ (by simp <;> omega) _ | refine Below.alloc ?_ (by simp) _) b14 rfl
  have ka' := bx_keep s14 ⟨ka, la⟩
  clear ka la na
  obtain ⟨ka, la⟩ := ka'
  have kb' := bx_keep s14 ⟨kb, lb⟩
  clear kb lb nb
  obtain ⟨kb, lb⟩ := kb'
  have kc' := bx_keep s14 ⟨kc, lc⟩
  clear kc lc nc
  obtain ⟨kc, lc⟩ := kc'
  have kx1' := bx_keep s14 ⟨kx1, lx1⟩
  clear kx1 lx1 nx1
  obtain ⟨kx1, lx1⟩ := kx1'
  have kx2' := bx_keep s14 ⟨kx2, lx2⟩
  clear kx2 lx2 nx2
  obtain ⟨kx2, lx2⟩ := kx2'
  have ky1' := bx_keep s14 ⟨ky1, ly1⟩
  clear ky1 ly1 ny1
  obtain ⟨ky1, ly1⟩ := ky1'
  have kl1' := bx_keep s14 ⟨kl1, ll1⟩
  clear kl1 ll1 nl1
  obtain ⟨kl1, ll1⟩ := kl1'
  have kl2' := bx_keep s14 ⟨kl2, ll2⟩
  clear kl2 ll2 nl2
  obtain ⟨kl2, ll2⟩ := kl2'
  obtain ⟨kp1, lp1⟩ := bx_new b14 (by simp)
  have na := World.block_lt_of_cell? w14 _ ka
  simp only at na
  have nb := World.block_lt_of_cell? w14 _ kb
  simp only at nb
  have nc := World.block_lt_of_cell? w14 _ kc
  simp only at nc
  have nx1 := World.block_lt_of_cell? w14 _ kx1
  simp only at nx1
  have nx2 := World.block_lt_of_cell? w14 _ kx2
  simp only at nx2
  have ny1 := World.block_lt_of_cell? w14 _ ky1
  simp only at ny1
  have nl1 := World.block_lt_of_cell? w14 _ kl1
  simp only at nl1
  have nl2 := World.block_lt_of_cell? w14 _ kl2
  simp only at nl2
  have np1 := World.block_lt_of_cell? w14 _ kp1
  simp only at np1
  have B14 := Below.trans B13 (s14.mono B13.size)
  clear B13
  go_wp2_with fail
  refine (H15.out _).mono ?_
  rintro e w15 ⟨rfl, b15⟩
  have s15 : Below w14.heap.size w14 w15 := below_step (by repeat first | exact Below.refl _ _ | refine below_drewN ?_ _ | refine Below.drew ?_ | refine Below.setCell ?_ (by simp <;> omega) _ | refine Below.alloc ?_ (by simp) _) b15 rfl
  have ka' := bx_keep s15 ⟨ka, la⟩
  clear ka la na
  obtain ⟨ka, la⟩ := ka'
  have kb' := bx_keep s15 ⟨kb, lb⟩
  clear kb lb nb
  obtain ⟨kb, lb⟩ := kb'
  have kc' := bx_keep s15 ⟨kc, lc⟩
  clear kc lc nc
  obtain ⟨kc, lc⟩ := kc'
  have kx1' := bx_keep s15 ⟨kx1, lx1⟩
  clear kx1 lx1 nx1
  obtain ⟨kx1, lx1⟩ := kx1'
  have kx2' := bx_keep s15 ⟨kx2, lx2⟩
  clear kx2 lx2 nx2
  obtain ⟨kx2, lx2⟩ := kx2'
  have ky1' := bx_keep s15 ⟨ky1, ly1⟩
  clear ky1 ly1 ny1
  obtain ⟨ky1, ly1⟩ := ky1'
  have kl1' := bx_keep s15 ⟨kl1, ll1⟩
  clear kl1 ll1 nl1
  obtain ⟨kl1, ll1⟩ := kl1'
  have kl2' := bx_keep s15 ⟨kl2, ll2⟩
  clear kl2 ll2 nl2
  obtain ⟨kl2, ll2⟩ := kl2'
  have kp1' := bx_keep s15 ⟨kp1, lp1⟩
  clear kp1 lp1 np1
  obtain ⟨kp1, lp1⟩ := kp1'
  obtain ⟨kq1, lq1⟩ := bx_new b15 (by simp)
  have na := World.block_lt_of_cell? w15 _ ka
  simp only at na
  have nb := World.block_lt_of_cell? w15 _ kb
  simp only at nb
  have nc := World.block_lt_of_cell? w15 _ kc
  simp only at nc
  have nx1 := World.block_lt_of_cell? w15 _ kx1
  simp only at nx1
  have nx2 := World.block_lt_of_cell? w15 _ kx2
  simp only at nx2
  have ny1 := World.block_lt_of_cell? w15 _ ky1
  simp only at ny1
  have nl1 := World.block_lt_of_cell? w15 _ kl1
  simp only at nl1
  have nl2 := World.block_lt_of_cell? w15 _ kl2
  simp only at nl2
  have np1 := World.block_lt_of_cell? w15 _ kp1
  simp only at np1
  have nq1 := World.block_lt_of_cell? w15 _ kq1
  simp only at nq1
  have B15 := Below.trans B14 (s15.mono B14.size)
  clear B14
  go_wp2_with fail
  refine (H16.out _).mono ?_
  rintro e w16 ⟨rfl, b16⟩
  have s16 : Below w15.heap.size w15 w16 := below_step (by repeat first | exact Below.refl _ _ | refine below_drewN ?_ _ | refine Below.drew ?_ | refine Below.setCell ?_ (by simp <;> omega) _ | refine Below.alloc ?_ (by simp) _) b16 rfl
  have ka' := bx_keep s16 ⟨ka, la⟩
  clear ka la na
  obtain ⟨ka, la⟩ := ka'
  have kb' := bx_keep s16 ⟨kb, lb⟩
  clear kb lb nb
  obtain ⟨kb, lb⟩ := kb'
  have kc' := bx_keep s16 ⟨kc, lc⟩
  clear kc lc nc
  obtain ⟨kc, lc⟩ := kc'
  have kx1' := bx_keep s16 ⟨kx1, lx1⟩
  clear kx1 lx1 nx1
  obtain ⟨kx1, lx1⟩ := kx1'
  have kx2' := bx_keep s16 ⟨kx2, lx2⟩
  clear kx2 lx2 nx2
  obtain ⟨kx2, lx2⟩ := kx2'
  have ky1' := bx_keep s16 ⟨ky1, ly1⟩
  clear ky1 ly1 ny1
  obtain ⟨ky1, ly1⟩ := ky1'
  have kl1' := bx_keep s16 ⟨kl1, ll1⟩
  clear kl1 ll1 nl1
  obtain ⟨kl1, ll1⟩ := kl1'
  have kl2' := bx_keep s16 ⟨kl2, ll2⟩
  clear kl2 ll2 nl2
  obtain ⟨kl2, ll2⟩ := kl2'
  have kp1' := bx_keep s16 ⟨kp1, lp1⟩
  clear kp1 lp1 np1
  obtain ⟨kp1, lp1⟩ := kp1'
  have kq1' := bx_keep s16 ⟨kq1, lq1⟩
  clear kq1 lq1 nq1
  obtain ⟨kq1, lq1⟩ := kq1'
  obtain ⟨kss1, lss1⟩ := bx_new b16 (by simp)
  have na := World.block_lt_of_cell? w16 _ ka
  simp only at na
  have nb := World.block_lt_of_cell? w16 _ kb
  simp only at nb
  have nc := World.block_lt_of_cell? w16 _ kc
  simp only at nc
  have nx1 := World.block_lt_of_cell? w16 _ kx1
  simp only at nx1
  have nx2 := World.block_lt_of_cell? w16 _ kx2
  simp only at nx2
  have ny1 := World.block_lt_of_cell? w16 _ ky1
  simp only at ny1
  have nl1 := World.block_lt_of_cell? w16 _ kl1
  simp only at nl1
  have nl2 := World.block_lt_of_cell? w16 _ kl2
  simp only at nl2
  have np1 := World.block_lt_of_cell? w16 _ kp1
  simp only at np1
  have nq1 := World.block_lt_of_cell? w16 _ kq1
  simp only at nq1
  have nss1 := World.block_lt_of_cell? w16 _ kss1
  simp only at nss1
  have B16 := Below.trans B15 (s16.mono B15.size)
  clear B15
  go_wp2_with fail
  refine (H17.out _).mono ?_
  rintro e w17 ⟨rfl, b17⟩
  have s17 : Below w16.heap.size w16 w17 := below_step (by repeat first | exact Below.refl _ _ | refine below_drewN ?_ _ | refine Below.drew ?_ | refine Below.setCell ?_ (by simp <;> omega) _ | refine Below.alloc ?_ (by simp) _) b17 rfl
  have ka' := bx_keep s17 ⟨ka, la⟩
  clear ka la na
  obtain ⟨ka, la⟩ := ka'
  have kb' := bx_keep s17 ⟨kb, lb⟩
  clear kb lb nb
  obtain ⟨kb, lb⟩ := kb'
  have kc' := bx_keep s17 ⟨kc, lc⟩
  clear kc lc nc
  obtain ⟨kc, lc⟩ := kc'
  have kx1' := bx_keep s17 ⟨kx1, lx1⟩
  clear kx1 lx1 nx1
  obtain ⟨kx1, lx1⟩ := kx1'
  have kx2' := bx_keep s17 ⟨kx2, lx2⟩
  clear kx2 lx2 nx2
  obtain ⟨kx2, lx2⟩ := kx2'
  have ky1' := bx_keep s17 ⟨ky1, ly1⟩
  clear ky1 ly1 ny1
  obtain ⟨ky1, ly1⟩ := ky1'
  have kl1' := bx_keep s17 ⟨kl1, ll1⟩
  clear kl1 ll1 nl1
  obtain ⟨kl1, ll1⟩ := kl1'
  have kl2' := bx_keep s17 ⟨kl2, ll2⟩
  clear kl2 ll2 nl2
  obtain ⟨kl2, ll2⟩ := kl2'
  have kp1' := bx_keep s17 ⟨kp1, lp1⟩
  clear kp1 lp1 np1
  obtain ⟨kp1, lp1⟩ := kp1'
  have kq1' := bx_keep s17 ⟨kq1, lq1⟩
  clear kq1 lq1 nq1
  obtain ⟨kq1, lq1⟩ := kq1'
  have kss1' := bx_keep s17 ⟨kss1, lss1⟩
  clear kss1 lss1 nss1
  obtain ⟨kss1, lss1⟩ := kss1'
  obtain ⟨kss2, lss2⟩ := bx_new b17 (by simp)
  have na := World.block_lt_of_cell? w17 _ ka
  simp only at na
  have nb := World.block_lt_of_cell? w17 _ kb
  simp only at nb
  have nc := World.block_lt_of_cell? w17 _ kc
  simp only at nc
  have nx1 := World.block_lt_of_cell? w17 _ kx1
  simp only at nx1
  have nx2 := World.block_lt_of_cell? w17 _ kx2
  simp only at nx2
  have ny1 := World.block_lt_of_cell? w17 _ ky1
  simp only at ny1
  have nl1 := World.block_lt_of_cell? w17 _ kl1
  simp only at nl1
  have nl2 := World.block_lt_of_cell? w17 _ kl2
  simp only at nl2
  have np1 := World.block_lt_of_cell? w17 _ kp1
  simp only at np1
  have nq1 := World.block_lt_of_cell? w17 _ kq1
  simp only at nq1
  have nss1 := World.block_lt_of_cell? w17 _ kss1
  simp only at nss1
  have nss2 := World.block_lt_of_cell? w17 _ kss2
  simp only at nss2
  have B17 := Below.trans B16 (s17.mono B16.size)
  clear B16
  go_wp2_with fail
  refine (H18.out _).mono ?_
  rintro e w18 ⟨rfl, b18⟩
  have s18 : Below w17.heap.size w17 w18 := below_step (by repeat first | exact Below.refl _ _ | refine below_drewN ?_ _ | refine Below.drew ?_ | refine Below.setCell ?_ (by simp <;> omega) _ | refine Below.alloc ?_ (by simp) _) b18 rfl
  have ka' := bx_keep s18 ⟨ka, la⟩
  clear ka la na
  obtain ⟨ka, la⟩ := ka'
  have kb' := bx_keep s18 ⟨kb, lb⟩
  clear kb lb nb
  obtain ⟨kb, lb⟩ := kb'
  have kc' := bx_keep s18 ⟨kc, lc⟩
  clear kc lc nc
  obtain ⟨kc, lc⟩ := kc'
  have kx1' := bx_keep s18 ⟨kx1, lx1⟩
  clear kx1 lx1 nx1
  obtain ⟨kx1, lx1⟩ := kx1'
  have kx2' := bx_keep s18 ⟨kx2, lx2⟩
  clear kx2 lx2 nx2
  obtain ⟨kx2, lx2⟩ := kx2'
  have ky1' := bx_keep s18 ⟨ky1, ly1⟩
  clear ky1 ly1 ny1
  obtain ⟨ky1, ly1⟩ := ky1'
  have kl1' := bx_keep s18 ⟨kl1, ll1⟩
  clear kl1 ll1 nl1
  obtain ⟨kl1, ll1⟩ := kl1'
  have kl2' := bx_keep s18 ⟨kl2, ll2⟩
  clear kl2 ll2 nl2
  obtain ⟨kl2, ll2⟩ := kl2'
  have kp1' := bx_keep s18 ⟨kp1, lp1⟩
  clear kp1 lp1 np1
  obtain ⟨kp1, lp1⟩ := kp1'
  have kq1' := bx_keep s18 ⟨kq1, lq1⟩
  clear kq1 lq1 nq1
  obtain ⟨kq1, lq1⟩ := kq1'
  have kss1' := bx_keep s18 ⟨kss1, lss1⟩
  clear kss1 lss1 nss1
  obtain ⟨kss1, lss1⟩ := kss1'
  have kss2' := bx_keep s18 ⟨kss2, lss2⟩
  clear kss2 lss2 nss2
  obtain ⟨kss2, lss2⟩ := kss2'
  obtain ⟨ku1, lu1⟩ := bx_new b18 (by simp)
  have na := World.block_lt_of_cell? w18 _ ka
  simp only at na
  have nb := World.block_lt_of_cell? w18 _ kb
  simp only at nb
  have nc := World.block_lt_of_cell? w18 _ kc
  simp only at nc
  have nx1 := World.block_lt_of_cell? w18 _ kx1
  simp only at nx1
  have nx2 := World.block_lt_of_cell? w18 _ kx2
  simp only at nx2
  have ny1 := World.block_lt_of_cell? w18 _ ky1
  simp only at ny1
  have nl1 := World.block_lt_of_cell? w18 _ kl1
  simp only at nl1
  have nl2 := World.block_lt_of_cell? w18 _ kl2
  simp only at nl2
  have np1 := World.block_lt_of_cell? w18 _ kp1
  simp only at np1
  have nq1 := World.block_lt_of_cell? w18 _ kq1
  simp only at nq1
  have nss1 := World.block_lt_of_cell? w18 _ kss1
  simp only at nss1
  have nss2 := World.block_lt_of_cell? w18 _ kss2
  simp only at nss2
  have nu1 := World.block_lt_of_cell? w18 _ ku1
  simp only at nu1
  have B18 := Below.trans B17 (s18.mono B17.size)
  clear B17
  go_wp2_with fail
  go_ret
  exact ⟨rfl, Below.trans B18 (Below.mono (by repeat first | exact Below.refl _ _ | refine below_drewN ?_ _ | refine Below.drew ?_ | refine Below.setCell ?_ (by simp <;> omega) _ | refine Below.alloc ?_ (by simp) _) B18.size)⟩

end Go.Proofs.Ytfchbkhgoebagaa
