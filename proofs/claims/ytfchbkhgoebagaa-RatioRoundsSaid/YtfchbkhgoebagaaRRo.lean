/- The walk of RatioRounds. -/
import Derived.Test.YtfchbkhgoebagaaRFa
import Derived.Deep.RegionHeld3
import Derived.Deep.DrawnRows
import Derived.Deep.DeepCutAuto
namespace Go.Proofs.Ytfchbkhgoebagaa
open Go.RowKit Ra
attribute [local go_sem ↓] Go.wp_at_zero Go.wp_at_succ

theorem box_hold {n d : Int} {k B : Nat} {w0 wx w' : World} (hk : Below B wx w') (hB : B = wx.heap.size) (h : wx.cell? ⟨k, 0, none⟩ = some (.int .i64 n) ∧ wx.cell? ⟨k, 1, none⟩ = some (.int .i64 d) ∧ Below k w0 wx) : w'.cell? ⟨k, 0, none⟩ = some (.int .i64 n) ∧ w'.cell? ⟨k, 1, none⟩ = some (.int .i64 d) ∧ Below k w0 w' := by
  subst hB
  obtain ⟨h1, h2, h3⟩ := h
  have hl := World.block_lt_of_cell? wx _ h1
  simp only at hl
  exact ⟨by rw [hk.cell (by simp only; omega)]; exact h1, by rw [hk.cell (by simp only; omega)]; exact h2, Below.trans h3 (hk.mono (by omega))⟩

set_option maxRecDepth 100000 in
set_option maxHeartbeats 4000000 in
theorem rounds_no (a : Q) (w : World)
    (H1 : Hid (∀ w, Calls Try.prog 8 #[] w fun e w' => e = .returned (.bool true) ∧ Below w.heap.size w w'))
    (H2 : Hid (∀ w, Calls Try.prog 9 #[.agg #[.int .i64 a.n, .int .i64 a.d]] w fun e w' => e = .returned (.bool false) ∧ Below w.heap.size w w'))
    (H3 : Hid (∀ w, Calls Try.prog 26 #[.agg #[.int .i64 a.n, .int .i64 a.d]] w fun e w' => e = .returned (.int .i64 0) ∧ Below w.heap.size w w'))
    (H4 : Hid (∀ w, Calls Try.prog 28 #[.agg #[.int .i64 a.n, .int .i64 a.d]] w fun e w' => e = .returned (.int .i64 0) ∧ Below w.heap.size w w'))
    (H5 : Hid (∀ w, Calls Try.prog 30 #[.agg #[.int .i64 a.n, .int .i64 a.d]] w fun e w' => e = .returned (.int .i64 0) ∧ Below w.heap.size w w'))
    : Calls Try.prog 7 #[.agg #[.int .i64 a.n, .int .i64 a.d]] w fun e w' => e = .returned (.bool true) ∧ Below w.heap.size w w' := by
  obtain ⟨W, hW⟩ : ∃ W, W = Box1 a w := ⟨_, rfl⟩
  have hat := box1_bx a w
  rw [← hW] at hat
  obtain ⟨⟨ka, la⟩, B0⟩ := hat
  unfold Box1 at hW
  have HW := Lib.hid hW
  clear hW
  have na := World.block_lt_of_cell? W _ ka
  simp only at na
  go_enter Try.func7, Try.ntmps7
  go_wp2_with fail
  rw [← HW.out]
  refine (H1.out _).mono ?_
  rintro e w1 ⟨rfl, b1⟩
  have s1 : Below W.heap.size W w1 := below_step (by repeat first | exact Below.refl _ _ | refine below_drewN ?_ _ | refine Below.drew ?_ | refine Below.setCell ?_ (by simp <;> omega) _ | refine Below.alloc ?_ (by simp) _) b1 rfl
  have ka' := bx_keep s1 ⟨ka, la⟩
  clear ka la na
  obtain ⟨ka, la⟩ := ka'
  have na := World.block_lt_of_cell? w1 _ ka
  simp only at na
  have B1 := Below.trans B0 (s1.mono B0.size)
  go_wp2_with fail
  refine (H2.out _).mono ?_
  rintro e w2 ⟨rfl, b2⟩
  have s2 : Below w1.heap.size w1 w2 := below_step (by repeat first | exact Below.refl _ _ | refine below_drewN ?_ _ | refine Below.drew ?_ | refine Below.setCell ?_ (by simp <;> omega) _ | refine Below.alloc ?_ (by simp) _) b2 rfl
  have ka' := bx_keep s2 ⟨ka, la⟩
  clear ka la na
  obtain ⟨ka, la⟩ := ka'
  have na := World.block_lt_of_cell? w2 _ ka
  simp only at na
  have B2 := Below.trans B1 (s2.mono B1.size)
  clear B1
  go_wp2_with fail
  refine (H3.out _).mono ?_
  rintro e w3 ⟨rfl, b3⟩
  have s3 : Below w2.heap.size w2 w3 := below_step (by repeat first | exact Below.refl _ _ | refine below_drewN ?_ _ | refine Below.drew ?_ | refine Below.setCell ?_ (by simp <;> omega) _ | refine Below.alloc ?_ (by simp) _) b3 rfl
  have ka' := bx_keep s3 ⟨ka, la⟩
  clear ka la na
  obtain ⟨ka, la⟩ := ka'
  have na := World.block_lt_of_cell? w3 _ ka
  simp only at na
  have B3 := Below.trans B2 (s3.mono B2.size)
  clear B2
  go_wp2_with fail
  refine (H4.out _).mono ?_
  rintro e w4 ⟨rfl, b4⟩
  have s4 : Below w3.heap.size w3 w4 := below_step (by repeat first | exact Below.refl _ _ | refine below_drewN ?_ _ | refine Below.drew ?_ | refine Below.setCell ?_ (by simp <;> omega) _ | refine Below.alloc ?_ (by simp) _) b4 rfl
  have ka' := bx_keep s4 ⟨ka, la⟩
  clear ka la na
  obtain ⟨ka, la⟩ := ka'
  have na := World.block_lt_of_cell? w4 _ ka
  simp only at na
  have B4 := Below.trans B3 (s4.mono B3.size)
  clear B3
  go_wp2_with fail
  refine (H5.out _).mono ?_
  rintro e w5 ⟨rfl, b5⟩
  have s5 : Below w4.heap.size w4 w5 := below_step (by repeat first | exact Below.refl _ _ | refine below_drewN ?_ _ | refine Below.drew ?_ | refine Below.setCell ?_ (by simp <;> omega) _ | refine Below.alloc ?_ (by simp) _) b5 rfl
  have ka' := bx_keep s5 ⟨ka, la⟩
  clear ka la na
  obtain ⟨ka, la⟩ := ka'
  have na := World.block_lt_of_cell? w5 _ ka
  simp only at na
  have B5 := Below.trans B4 (s5.mono B4.size)
  clear B4
  go_wp2_with fail
  go_ret
  exact ⟨rfl, Below.trans B5 (Below.mono (by repeat first | exact Below.refl _ _ | refine below_drewN ?_ _ | refine Below.drew ?_ | refine Below.setCell ?_ (by simp <;> omega) _ | refine Below.alloc ?_ (by simp) _) B5.size)⟩

set_option maxRecDepth 100000 in
set_option maxHeartbeats 4000000 in
theorem rounds_int (n : Int) (w : World)
    (H1 : Hid (∀ w, Calls Try.prog 8 #[] w fun e w' => e = .returned (.bool true) ∧ Below w.heap.size w w'))
    (H2 : Hid (∀ w, Calls Try.prog 9 #[.agg #[.int .i64 n, .int .i64 1]] w fun e w' => e = .returned (.bool true) ∧ Below w.heap.size w w'))
    (H3 : Hid (∀ w, Calls Try.prog 13 #[.int .i64 n, .int .i64 1] w fun e w' => e = .returned (.tuple #[.agg #[.int .i64 n, .int .i64 1], .int .i64 0]) ∧ Below w.heap.size w w'))
    (H4 : Hid (∀ w, Calls Try.prog 13 #[.int .i64 n, .int .i64 1] w fun e w' => e = .returned (.tuple #[.agg #[.int .i64 n, .int .i64 1], .int .i64 0]) ∧ Below w.heap.size w w'))
    (H5 : Hid (∀ w, Calls Try.prog 13 #[.int .i64 n, .int .i64 1] w fun e w' => e = .returned (.tuple #[.agg #[.int .i64 n, .int .i64 1], .int .i64 0]) ∧ Below w.heap.size w w'))
    (H6 : Hid (∀ w, Calls Try.prog 24 #[.agg #[.int .i64 n, .int .i64 1], .agg #[.int .i64 n, .int .i64 1]] w fun e w' => e = .returned (.int .i64 0) ∧ Below w.heap.size w w'))
    (H7 : Hid (∀ w, Calls Try.prog 24 #[.agg #[.int .i64 n, .int .i64 1], .agg #[.int .i64 n, .int .i64 1]] w fun e w' => e = .returned (.int .i64 0) ∧ Below w.heap.size w w'))
    (HF : Hid (∀ w, Calls Try.prog 26 #[.agg #[.int .i64 n, .int .i64 1]] w fun e w' => e = .returned (.int .i64 n) ∧ Below w.heap.size w w'))
    (HC : Hid (∀ w, Calls Try.prog 28 #[.agg #[.int .i64 n, .int .i64 1]] w fun e w' => e = .returned (.int .i64 n) ∧ Below w.heap.size w w'))
    (HN : Hid (∀ w, Calls Try.prog 30 #[.agg #[.int .i64 n, .int .i64 1]] w fun e w' => e = .returned (.int .i64 n) ∧ Below w.heap.size w w'))
    : Calls Try.prog 7 #[.agg #[.int .i64 n, .int .i64 1]] w fun e w' => e = .returned (.bool true) ∧ Below w.heap.size w w' := by
  obtain ⟨W, hW⟩ : ∃ W, W = Box1 ⟨n, 1⟩ w := ⟨_, rfl⟩
  have hat := box1_bx ⟨n, 1⟩ w
  rw [← hW] at hat
  obtain ⟨⟨ka, la⟩, B0⟩ := hat
  unfold Box1 at hW
  simp only at hW
  have HW := Lib.hid hW
  clear hW
  have na := World.block_lt_of_cell? W _ ka
  simp only at na
  go_enter Try.func7, Try.ntmps7
  go_wp2_with fail
  rw [← HW.out]
  refine (H1.out _).mono ?_
  rintro e w1 ⟨rfl, b1⟩
  have s1 : Below W.heap.size W w1 := below_step (by repeat first | exact Below.refl _ _ | refine below_drewN ?_ _ | refine Below.drew ?_ | refine Below.setCell ?_ (by simp <;> omega) _ | refine Below.alloc ?_ (by simp) _) b1 rfl
  have ka' := bx_keep s1 ⟨ka, la⟩
  clear ka la na
  obtain ⟨ka, la⟩ := ka'
  have na := World.block_lt_of_cell? w1 _ ka
  simp only at na
  have B1 := Below.trans B0 (s1.mono B0.size)
  go_wp2_with fail
  refine (H2.out _).mono ?_
  rintro e w2 ⟨rfl, b2⟩
  have s2 : Below w1.heap.size w1 w2 := below_step (by repeat first | exact Below.refl _ _ | refine below_drewN ?_ _ | refine Below.drew ?_ | refine Below.setCell ?_ (by simp <;> omega) _ | refine Below.alloc ?_ (by simp) _) b2 rfl
  have ka' := bx_keep s2 ⟨ka, la⟩
  clear ka la na
  obtain ⟨ka, la⟩ := ka'
  have na := World.block_lt_of_cell? w2 _ ka
  simp only at na
  have B2 := Below.trans B1 (s2.mono B1.size)
  clear B1
  clear na
  go_upto_region 4 with fail
  go_cut [4, 5, 6] (fun s4 s5 s6 wx => s4 = .int .i64 n ∧ s5 = .int .i64 n ∧ s6 = .int .i64 n ∧ wx.cell? ⟨w.heap.size, 0, none⟩ = some (.int .i64 n) ∧ wx.cell? ⟨w.heap.size, 1, none⟩ = some (.int .i64 1) ∧ Below w.heap.size w wx)
  case first =>
    go_region_held3 (fun w' => w'.cell? ⟨w.heap.size, 0, none⟩ = some (.int .i64 n) ∧ w'.cell? ⟨w.heap.size, 1, none⟩ = some (.int .i64 1) ∧ Below w.heap.size w w')
      (first
        | assumption
        | exact box_hold bt rfl (by assumption)
        | exact box_hold (Below.drew (Below.refl _ _)) rfl ⟨ka, la, B2⟩)
      (first
        | (go_at_call 26; refine (HF.out _).mono ?_; rintro e wt ⟨rfl, bt⟩)
        | (go_at_call 28; refine (HC.out _).mono ?_; rintro e wt ⟨rfl, bt⟩)
        | (go_at_call 30; refine (HN.out _).mono ?_; rintro e wt ⟨rfl, bt⟩))
    all_goals go_wp2_with fail
    all_goals go_meet
    all_goals exact ⟨rfl, rfl, rfl, by assumption⟩
  case rest =>
  clear ka la B2
  obtain ⟨rfl, rfl, rfl, ka, la, B2⟩ := hcut
  have na := World.block_lt_of_cell? wc _ ka
  simp only at na
  go_wp2_with fail
  refine (H3.out _).mono ?_
  rintro e w3 ⟨rfl, b3⟩
  have s3 : Below wc.heap.size wc w3 := below_step (by repeat first | exact Below.refl _ _ | refine below_drewN ?_ _ | refine Below.drew ?_ | refine Below.setCell ?_ (by simp <;> omega) _ | refine Below.alloc ?_ (by simp) _) b3 rfl
  have ka' := bx_keep s3 ⟨ka, la⟩
  clear ka la na
  obtain ⟨ka, la⟩ := ka'
  have na := World.block_lt_of_cell? w3 _ ka
  simp only at na
  have B3 := Below.trans B2 (s3.mono B2.size)
  clear B2
  go_wp2_with fail
  refine (H4.out _).mono ?_
  rintro e w4 ⟨rfl, b4⟩
  have s4 : Below w3.heap.size w3 w4 := below_step (by repeat first | exact Below.refl _ _ | refine below_drewN ?_ _ | refine Below.drew ?_ | refine Below.setCell ?_ (by simp <;> omega) _ | refine Below.alloc ?_ (by simp) _) b4 rfl
  have ka' := bx_keep s4 ⟨ka, la⟩
  clear ka la na
  obtain ⟨ka, la⟩ := ka'
  obtain ⟨kx1, lx1⟩ := bx_new b4 (by simp)
  have na := World.block_lt_of_cell? w4 _ ka
  simp only at na
  have nx1 := World.block_lt_of_cell? w4 _ kx1
  simp only at nx1
  have B4 := Below.trans B3 (s4.mono B3.size)
  clear B3
  go_wp2_with fail
  refine (H5.out _).mono ?_
  rintro e w5 ⟨rfl, b5⟩
  have s5 : Below w4.heap.size w4 w5 := below_step (by repeat first | exact Below.refl _ _ | refine below_drewN ?_ _ | refine Below.drew ?_ | refine Below.setCell ?_ (by simp <;> omega) _ | refine Below.alloc ?_ (by simp) _) b5 rfl
  have ka' := bx_keep s5 ⟨ka, la⟩
  clear ka la na
  obtain ⟨ka, la⟩ := ka'
  have kx1' := bx_keep s5 ⟨kx1, lx1⟩
  clear kx1 lx1 nx1
  obtain ⟨kx1, lx1⟩ := kx1'
  obtain ⟨ky1, ly1⟩ := bx_new b5 (by simp)
  have na := World.block_lt_of_cell? w5 _ ka
  simp only at na
  have nx1 := World.block_lt_of_cell? w5 _ kx1
  simp only at nx1
  have ny1 := World.block_lt_of_cell? w5 _ ky1
  simp only at ny1
  have B5 := Below.trans B4 (s5.mono B4.size)
  clear B4
  go_wp2_with fail
  refine (H6.out _).mono ?_
  rintro e w6 ⟨rfl, b6⟩
  have s6 : Below w5.heap.size w5 w6 := below_step (by repeat first | exact Below.refl _ _ | refine below_drewN ?_ _ | refine Below.drew ?_ | refine Below.setCell ?_ (by simp <;> omega) _ | refine Below.alloc ?_ (by simp) _) b6 rfl
  have ka' := bx_keep s6 ⟨ka, la⟩
  clear ka la na
  obtain ⟨ka, la⟩ := ka'
  have kx1' := bx_keep s6 ⟨kx1, lx1⟩
  clear kx1 lx1 nx1
  obtain ⟨kx1, lx1⟩ := kx1'
  have ky1' := bx_keep s6 ⟨ky1, ly1⟩
  clear ky1 ly1 ny1
  obtain ⟨ky1, ly1⟩ := ky1'
  obtain ⟨kz1, lz1⟩ := bx_new b6 (by simp)
  have na := World.block_lt_of_cell? w6 _ ka
  simp only at na
  have nx1 := World.block_lt_of_cell? w6 _ kx1
  simp only at nx1
  have ny1 := World.block_lt_of_cell? w6 _ ky1
  simp only at ny1
  have nz1 := World.block_lt_of_cell? w6 _ kz1
  simp only at nz1
  have B6 := Below.trans B5 (s6.mono B5.size)
  clear B5
  go_wp2_with fail
  refine (H7.out _).mono ?_
  rintro e w7 ⟨rfl, b7⟩
  have s7 : Below w6.heap.size w6 w7 := below_step (by repeat first | exact Below.refl _ _ | refine below_drewN ?_ _ | refine Below.drew ?_ | refine Below.setCell ?_ (by simp <;> omega) _ | refine Below.alloc ?_ (by simp) _) b7 rfl
  have ka' := bx_keep s7 ⟨ka, la⟩
  clear ka la na
  obtain ⟨ka, la⟩ := ka'
  have kx1' := bx_keep s7 ⟨kx1, lx1⟩
  clear kx1 lx1 nx1
  obtain ⟨kx1, lx1⟩ := kx1'
  have ky1' := bx_keep s7 ⟨ky1, ly1⟩
  clear ky1 ly1 ny1
  obtain ⟨ky1, ly1⟩ := ky1'
  have kz1' := bx_keep s7 ⟨kz1, lz1⟩
  clear kz1 lz1 nz1
  obtain ⟨kz1, lz1⟩ := kz1'
  have na := World.block_lt_of_cell? w7 _ ka
  simp only at na
  have nx1 := World.block_lt_of_cell? w7 _ kx1
  simp only at nx1
  have ny1 := World.block_lt_of_cell? w7 _ ky1
  simp only at ny1
  have nz1 := World.block_lt_of_cell? w7 _ kz1
  simp only at nz1
  have B7 := Below.trans B6 (s7.mono B6.size)
  clear B6
  go_wp2_with fail
  go_ret
  exact ⟨rfl, Below.trans B7 (Below.mono (by repeat first | exact Below.refl _ _ | refine below_drewN ?_ _ | refine Below.drew ?_ | refine Below.setCell ?_ (by simp <;> omega) _ | refine Below.alloc ?_ (by simp) _) B7.size)⟩

set_option maxRecDepth 100000 in
set_option maxHeartbeats 4000000 in
theorem rounds_lolt (n d lo s t : Int) (w : World)
    (H1 : Hid (∀ w, Calls Try.prog 8 #[] w fun e w' => e = .returned (.bool true) ∧ Below w.heap.size w w'))
    (H2 : Hid (∀ w, Calls Try.prog 9 #[.agg #[.int .i64 n, .int .i64 d]] w fun e w' => e = .returned (.bool true) ∧ Below w.heap.size w w'))
    (H3 : Hid (∀ w, Calls Try.prog 13 #[.int .i64 lo, .int .i64 1] w fun e w' => e = .returned (.tuple #[.agg #[.int .i64 lo, .int .i64 1], .int .i64 0]) ∧ Below w.heap.size w w'))
    (H4 : Hid (∀ w, Calls Try.prog 13 #[.int .i64 (lo + 1), .int .i64 1] w fun e w' => e = .returned (.tuple #[.agg #[.int .i64 (lo + 1), .int .i64 1], .int .i64 0]) ∧ Below w.heap.size w w'))
    (H5 : Hid (∀ w, Calls Try.prog 13 #[.int .i64 lo, .int .i64 1] w fun e w' => e = .returned (.tuple #[.agg #[.int .i64 lo, .int .i64 1], .int .i64 0]) ∧ Below w.heap.size w w'))
    (H6 : Hid (∀ w, Calls Try.prog 24 #[.agg #[.int .i64 lo, .int .i64 1], .agg #[.int .i64 n, .int .i64 d]] w fun e w' => e = .returned (.int .i64 (-1)) ∧ Below w.heap.size w w'))
    (H7 : Hid (∀ w, Calls Try.prog 24 #[.agg #[.int .i64 n, .int .i64 d], .agg #[.int .i64 (lo + 1), .int .i64 1]] w fun e w' => e = .returned (.int .i64 (-1)) ∧ Below w.heap.size w w'))
    (H8 : Hid (∀ w, Calls Try.prog 18 #[.agg #[.int .i64 n, .int .i64 d], .agg #[.int .i64 lo, .int .i64 1]] w fun e w' => e = .returned (.tuple #[.agg #[.int .i64 s, .int .i64 d], .int .i64 0]) ∧ Below w.heap.size w w'))
    (H9 : Hid (∀ w, Calls Try.prog 18 #[.agg #[.int .i64 (lo + 1), .int .i64 1], .agg #[.int .i64 n, .int .i64 d]] w fun e w' => e = .returned (.tuple #[.agg #[.int .i64 t, .int .i64 d], .int .i64 0]) ∧ Below w.heap.size w w'))
    (H10 : Hid (∀ w, Calls Try.prog 24 #[.agg #[.int .i64 s, .int .i64 d], .agg #[.int .i64 t, .int .i64 d]] w fun e w' => e = .returned (.int .i64 (-1)) ∧ Below w.heap.size w w'))
    (d1 : (d == 1) = false) (hw : IntKind.i64.wrap (lo + 1) = lo + 1)
    (HF : Hid (∀ w, Calls Try.prog 26 #[.agg #[.int .i64 n, .int .i64 d]] w fun e w' => e = .returned (.int .i64 lo) ∧ Below w.heap.size w w'))
    (HC : Hid (∀ w, Calls Try.prog 28 #[.agg #[.int .i64 n, .int .i64 d]] w fun e w' => e = .returned (.int .i64 (lo + 1)) ∧ Below w.heap.size w w'))
    (HN : Hid (∀ w, Calls Try.prog 30 #[.agg #[.int .i64 n, .int .i64 d]] w fun e w' => e = .returned (.int .i64 lo) ∧ Below w.heap.size w w'))
    : Calls Try.prog 7 #[.agg #[.int .i64 n, .int .i64 d]] w fun e w' => e = .returned (.bool true) ∧ Below w.heap.size w w' := by
  obtain ⟨W, hW⟩ : ∃ W, W = Box1 ⟨n, d⟩ w := ⟨_, rfl⟩
  have hat := box1_bx ⟨n, d⟩ w
  rw [← hW] at hat
  obtain ⟨⟨ka, la⟩, B0⟩ := hat
  unfold Box1 at hW
  simp only at hW
  have HW := Lib.hid hW
  clear hW
  have na := World.block_lt_of_cell? W _ ka
  simp only at na
  go_enter Try.func7, Try.ntmps7
  go_wp2_with fail
  rw [← HW.out]
  refine (H1.out _).mono ?_
  rintro e w1 ⟨rfl, b1⟩
  have s1 : Below W.heap.size W w1 := below_step (by repeat first | exact Below.refl _ _ | refine below_drewN ?_ _ | refine Below.drew ?_ | refine Below.setCell ?_ (by simp <;> omega) _ | refine Below.alloc ?_ (by simp) _) b1 rfl
  have ka' := bx_keep s1 ⟨ka, la⟩
  clear ka la na
  obtain ⟨ka, la⟩ := ka'
  have na := World.block_lt_of_cell? w1 _ ka
  simp only at na
  have B1 := Below.trans B0 (s1.mono B0.size)
  go_wp2_with fail
  refine (H2.out _).mono ?_
  rintro e w2 ⟨rfl, b2⟩
  have s2 : Below w1.heap.size w1 w2 := below_step (by repeat first | exact Below.refl _ _ | refine below_drewN ?_ _ | refine Below.drew ?_ | refine Below.setCell ?_ (by simp <;> omega) _ | refine Below.alloc ?_ (by simp) _) b2 rfl
  have ka' := bx_keep s2 ⟨ka, la⟩
  clear ka la na
  obtain ⟨ka, la⟩ := ka'
  have na := World.block_lt_of_cell? w2 _ ka
  simp only at na
  have B2 := Below.trans B1 (s2.mono B1.size)
  clear B1
  clear na
  go_upto_region 4 with fail
  go_cut [4, 5, 6] (fun s4 s5 s6 wx => s4 = .int .i64 lo ∧ s5 = .int .i64 (lo + 1) ∧ s6 = .int .i64 lo ∧ wx.cell? ⟨w.heap.size, 0, none⟩ = some (.int .i64 n) ∧ wx.cell? ⟨w.heap.size, 1, none⟩ = some (.int .i64 d) ∧ Below w.heap.size w wx)
  case first =>
    go_region_held3 (fun w' => w'.cell? ⟨w.heap.size, 0, none⟩ = some (.int .i64 n) ∧ w'.cell? ⟨w.heap.size, 1, none⟩ = some (.int .i64 d) ∧ Below w.heap.size w w')
      (first
        | assumption
        | exact box_hold bt rfl (by assumption)
        | exact box_hold (Below.drew (Below.refl _ _)) rfl ⟨ka, la, B2⟩)
      (first
        | (go_at_call 26; refine (HF.out _).mono ?_; rintro e wt ⟨rfl, bt⟩)
        | (go_at_call 28; refine (HC.out _).mono ?_; rintro e wt ⟨rfl, bt⟩)
        | (go_at_call 30; refine (HN.out _).mono ?_; rintro e wt ⟨rfl, bt⟩))
    all_goals go_wp2_with fail
    all_goals go_meet
    all_goals exact ⟨rfl, rfl, rfl, by assumption⟩
  case rest =>
  clear ka la B2
  obtain ⟨rfl, rfl, rfl, ka, la, B2⟩ := hcut
  have na := World.block_lt_of_cell? wc _ ka
  simp only at na
  go_wp2_with fail
  refine (H3.out _).mono ?_
  rintro e w3 ⟨rfl, b3⟩
  have s3 : Below wc.heap.size wc w3 := below_step (by repeat first | exact Below.refl _ _ | refine below_drewN ?_ _ | refine Below.drew ?_ | refine Below.setCell ?_ (by simp <;> omega) _ | refine Below.alloc ?_ (by simp) _) b3 rfl
  have ka' := bx_keep s3 ⟨ka, la⟩
  clear ka la na
  obtain ⟨ka, la⟩ := ka'
  have na := World.block_lt_of_cell? w3 _ ka
  simp only at na
  have B3 := Below.trans B2 (s3.mono B2.size)
  clear B2
  go_wp2_with fail
  refine (H4.out _).mono ?_
  rintro e w4 ⟨rfl, b4⟩
  have s4 : Below w3.heap.size w3 w4 := below_step (by repeat first | exact Below.refl _ _ | refine below_drewN ?_ _ | refine Below.drew ?_ | refine Below.setCell ?_ (by simp <;> omega) _ | refine Below.alloc ?_ (by simp) _) b4 rfl
  have ka' := bx_keep s4 ⟨ka, la⟩
  clear ka la na
  obtain ⟨ka, la⟩ := ka'
  obtain ⟨kx1, lx1⟩ := bx_new b4 (by simp)
  have na := World.block_lt_of_cell? w4 _ ka
  simp only at na
  have nx1 := World.block_lt_of_cell? w4 _ kx1
  simp only at nx1
  have B4 := Below.trans B3 (s4.mono B3.size)
  clear B3
  go_wp2_with fail
  refine (H5.out _).mono ?_
  rintro e w5 ⟨rfl, b5⟩
  have s5 : Below w4.heap.size w4 w5 := below_step (by repeat first | exact Below.refl _ _ | refine below_drewN ?_ _ | refine Below.drew ?_ | refine Below.setCell ?_ (by simp <;> omega) _ | refine Below.alloc ?_ (by simp) _) b5 rfl
  have ka' := bx_keep s5 ⟨ka, la⟩
  clear ka la na
  obtain ⟨ka, la⟩ := ka'
  have kx1' := bx_keep s5 ⟨kx1, lx1⟩
  clear kx1 lx1 nx1
  obtain ⟨kx1, lx1⟩ := kx1'
  obtain ⟨ky1, ly1⟩ := bx_new b5 (by simp)
  have na := World.block_lt_of_cell? w5 _ ka
  simp only at na
  have nx1 := World.block_lt_of_cell? w5 _ kx1
  simp only at nx1
  have ny1 := World.block_lt_of_cell? w5 _ ky1
  simp only at ny1
  have B5 := Below.trans B4 (s5.mono B4.size)
  clear B4
  go_wp2_with fail
  refine (H6.out _).mono ?_
  rintro e w6 ⟨rfl, b6⟩
  have s6 : Below w5.heap.size w5 w6 := below_step (by repeat first | exact Below.refl _ _ | refine below_drewN ?_ _ | refine Below.drew ?_ | refine Below.setCell ?_ (by simp <;> omega) _ | refine Below.alloc ?_ (by simp) _) b6 rfl
  have ka' := bx_keep s6 ⟨ka, la⟩
  clear ka la na
  obtain ⟨ka, la⟩ := ka'
  have kx1' := bx_keep s6 ⟨kx1, lx1⟩
  clear kx1 lx1 nx1
  obtain ⟨kx1, lx1⟩ := kx1'
  have ky1' := bx_keep s6 ⟨ky1, ly1⟩
  clear ky1 ly1 ny1
  obtain ⟨ky1, ly1⟩ := ky1'
  obtain ⟨kz1, lz1⟩ := bx_new b6 (by simp)
  have na := World.block_lt_of_cell? w6 _ ka
  simp only at na
  have nx1 := World.block_lt_of_cell? w6 _ kx1
  simp only at nx1
  have ny1 := World.block_lt_of_cell? w6 _ ky1
  simp only at ny1
  have nz1 := World.block_lt_of_cell? w6 _ kz1
  simp only at nz1
  have B6 := Below.trans B5 (s6.mono B5.size)
  clear B5
  go_wp2_with fail
  refine (H7.out _).mono ?_
  rintro e w7 ⟨rfl, b7⟩
  have s7 : Below w6.heap.size w6 w7 := below_step (by repeat first | exact Below.refl _ _ | refine below_drewN ?_ _ | refine Below.drew ?_ | refine Below.setCell ?_ (by simp <;> omega) _ | refine Below.alloc ?_ (by simp) _) b7 rfl
  have ka' := bx_keep s7 ⟨ka, la⟩
  clear ka la na
  obtain ⟨ka, la⟩ := ka'
  have kx1' := bx_keep s7 ⟨kx1, lx1⟩
  clear kx1 lx1 nx1
  obtain ⟨kx1, lx1⟩ := kx1'
  have ky1' := bx_keep s7 ⟨ky1, ly1⟩
  clear ky1 ly1 ny1
  obtain ⟨ky1, ly1⟩ := ky1'
  have kz1' := bx_keep s7 ⟨kz1, lz1⟩
  clear kz1 lz1 nz1
  obtain ⟨kz1, lz1⟩ := kz1'
  have na := World.block_lt_of_cell? w7 _ ka
  simp only at na
  have nx1 := World.block_lt_of_cell? w7 _ kx1
  simp only at nx1
  have ny1 := World.block_lt_of_cell? w7 _ ky1
  simp only at ny1
  have nz1 := World.block_lt_of_cell? w7 _ kz1
  simp only at nz1
  have B7 := Below.trans B6 (s7.mono B6.size)
  clear B6
  go_wp2_with fail
  refine (H8.out _).mono ?_
  rintro e w8 ⟨rfl, b8⟩
  have s8 : Below w7.heap.size w7 w8 := below_step (by repeat first | exact Below.refl _ _ | refine below_drewN ?_ _ | refine Below.drew ?_ | refine Below.setCell ?_ (by simp <;> omega) _ | refine Below.alloc ?_ (by simp) _) b8 rfl
  have ka' := bx_keep s8 ⟨ka, la⟩
  clear ka la na
  obtain ⟨ka, la⟩ := ka'
  have kx1' := bx_keep s8 ⟨kx1, lx1⟩
  clear kx1 lx1 nx1
  obtain ⟨kx1, lx1⟩ := kx1'
  have ky1' := bx_keep s8 ⟨ky1, ly1⟩
  clear ky1 ly1 ny1
  obtain ⟨ky1, ly1⟩ := ky1'
  have kz1' := bx_keep s8 ⟨kz1, lz1⟩
  clear kz1 lz1 nz1
  obtain ⟨kz1, lz1⟩ := kz1'
  have na := World.block_lt_of_cell? w8 _ ka
  simp only at na
  have nx1 := World.block_lt_of_cell? w8 _ kx1
  simp only at nx1
  have ny1 := World.block_lt_of_cell? w8 _ ky1
  simp only at ny1
  have nz1 := World.block_lt_of_cell? w8 _ kz1
  simp only at nz1
  have B8 := Below.trans B7 (s8.mono B7.size)
  clear B7
  go_wp2_with fail
  refine (H9.out _).mono ?_
  rintro e w9 ⟨rfl, b9⟩
  have s9 : Below w8.heap.size w8 w9 := below_step (by repeat first | exact Below.refl _ _ | refine below_drewN ?_ _ | refine Below.drew ?_ | refine Below.setCell ?_ (by simp <;> omega) _ | refine Below.alloc ?_ (by simp) _) b9 rfl
  have ka' := bx_keep s9 ⟨ka, la⟩
  clear ka la na
  obtain ⟨ka, la⟩ := ka'
  have kx1' := bx_keep s9 ⟨kx1, lx1⟩
  clear kx1 lx1 nx1
  obtain ⟨kx1, lx1⟩ := kx1'
  have ky1' := bx_keep s9 ⟨ky1, ly1⟩
  clear ky1 ly1 ny1
  obtain ⟨ky1, ly1⟩ := ky1'
  have kz1' := bx_keep s9 ⟨kz1, lz1⟩
  clear kz1 lz1 nz1
  obtain ⟨kz1, lz1⟩ := kz1'
  obtain ⟨kdn, ldn⟩ := bx_new b9 (by simp)
  have na := World.block_lt_of_cell? w9 _ ka
  simp only at na
  have nx1 := World.block_lt_of_cell? w9 _ kx1
  simp only at nx1
  have ny1 := World.block_lt_of_cell? w9 _ ky1
  simp only at ny1
  have nz1 := World.block_lt_of_cell? w9 _ kz1
  simp only at nz1
  have ndn := World.block_lt_of_cell? w9 _ kdn
  simp only at ndn
  have B9 := Below.trans B8 (s9.mono B8.size)
  clear B8
  go_wp2_with fail
  refine (H10.out _).mono ?_
  rintro e w10 ⟨rfl, b10⟩
  have s10 : Below w9.heap.size w9 w10 := below_step (by repeat first | exact Below.refl _ _ | refine below_drewN ?_ _ | refine Below.drew ?_ | refine Below.setCell ?_ (by simp <;> omega) _ | refine Below.alloc ?_ (by simp) _) b10 rfl
  have ka' := bx_keep s10 ⟨ka, la⟩
  clear ka la na
  obtain ⟨ka, la⟩ := ka'
  have kx1' := bx_keep s10 ⟨kx1, lx1⟩
  clear kx1 lx1 nx1
  obtain ⟨kx1, lx1⟩ := kx1'
  have ky1' := bx_keep s10 ⟨ky1, ly1⟩
  clear ky1 ly1 ny1
  obtain ⟨ky1, ly1⟩ := ky1'
  have kz1' := bx_keep s10 ⟨kz1, lz1⟩
  clear kz1 lz1 nz1
  obtain ⟨kz1, lz1⟩ := kz1'
  have kdn' := bx_keep s10 ⟨kdn, ldn⟩
  clear kdn ldn ndn
  obtain ⟨kdn, ldn⟩ := kdn'
  obtain ⟨kup, lup⟩ := bx_new b10 (by simp)
  have na := World.block_lt_of_cell? w10 _ ka
  simp only at na
  have nx1 := World.block_lt_of_cell? w10 _ kx1
  simp only at nx1
  have ny1 := World.block_lt_of_cell? w10 _ ky1
  simp only at ny1
  have nz1 := World.block_lt_of_cell? w10 _ kz1
  simp only at nz1
  have ndn := World.block_lt_of_cell? w10 _ kdn
  simp only at ndn
  have nup := World.block_lt_of_cell? w10 _ kup
  simp only at nup
  have B10 := Below.trans B9 (s10.mono B9.size)
  clear B9
  go_wp2_with fail
  go_ret
  exact ⟨rfl, Below.trans B10 (Below.mono (by repeat first | exact Below.refl _ _ | refine below_drewN ?_ _ | refine Below.drew ?_ | refine Below.setCell ?_ (by simp <;> omega) _ | refine Below.alloc ?_ (by simp) _) B10.size)⟩

set_option maxRecDepth 100000 in
set_option maxHeartbeats 4000000 in
theorem rounds_loeq (n d lo s t : Int) (w : World)
    (H1 : Hid (∀ w, Calls Try.prog 8 #[] w fun e w' => e = .returned (.bool true) ∧ Below w.heap.size w w'))
    (H2 : Hid (∀ w, Calls Try.prog 9 #[.agg #[.int .i64 n, .int .i64 d]] w fun e w' => e = .returned (.bool true) ∧ Below w.heap.size w w'))
    (H3 : Hid (∀ w, Calls Try.prog 13 #[.int .i64 lo, .int .i64 1] w fun e w' => e = .returned (.tuple #[.agg #[.int .i64 lo, .int .i64 1], .int .i64 0]) ∧ Below w.heap.size w w'))
    (H4 : Hid (∀ w, Calls Try.prog 13 #[.int .i64 (lo + 1), .int .i64 1] w fun e w' => e = .returned (.tuple #[.agg #[.int .i64 (lo + 1), .int .i64 1], .int .i64 0]) ∧ Below w.heap.size w w'))
    (H5 : Hid (∀ w, Calls Try.prog 13 #[.int .i64 lo, .int .i64 1] w fun e w' => e = .returned (.tuple #[.agg #[.int .i64 lo, .int .i64 1], .int .i64 0]) ∧ Below w.heap.size w w'))
    (H6 : Hid (∀ w, Calls Try.prog 24 #[.agg #[.int .i64 lo, .int .i64 1], .agg #[.int .i64 n, .int .i64 d]] w fun e w' => e = .returned (.int .i64 (-1)) ∧ Below w.heap.size w w'))
    (H7 : Hid (∀ w, Calls Try.prog 24 #[.agg #[.int .i64 n, .int .i64 d], .agg #[.int .i64 (lo + 1), .int .i64 1]] w fun e w' => e = .returned (.int .i64 (-1)) ∧ Below w.heap.size w w'))
    (H8 : Hid (∀ w, Calls Try.prog 18 #[.agg #[.int .i64 n, .int .i64 d], .agg #[.int .i64 lo, .int .i64 1]] w fun e w' => e = .returned (.tuple #[.agg #[.int .i64 s, .int .i64 d], .int .i64 0]) ∧ Below w.heap.size w w'))
    (H9 : Hid (∀ w, Calls Try.prog 18 #[.agg #[.int .i64 (lo + 1), .int .i64 1], .agg #[.int .i64 n, .int .i64 d]] w fun e w' => e = .returned (.tuple #[.agg #[.int .i64 t, .int .i64 d], .int .i64 0]) ∧ Below w.heap.size w w'))
    (H10 : Hid (∀ w, Calls Try.prog 24 #[.agg #[.int .i64 s, .int .i64 d], .agg #[.int .i64 t, .int .i64 d]] w fun e w' => e = .returned (.int .i64 0) ∧ Below w.heap.size w w'))
    (d1 : (d == 1) = false) (hw : IntKind.i64.wrap (lo + 1) = lo + 1)
    (ev : lo.tmod 2 = 0)
    (HF : Hid (∀ w, Calls Try.prog 26 #[.agg #[.int .i64 n, .int .i64 d]] w fun e w' => e = .returned (.int .i64 lo) ∧ Below w.heap.size w w'))
    (HC : Hid (∀ w, Calls Try.prog 28 #[.agg #[.int .i64 n, .int .i64 d]] w fun e w' => e = .returned (.int .i64 (lo + 1)) ∧ Below w.heap.size w w'))
    (HN : Hid (∀ w, Calls Try.prog 30 #[.agg #[.int .i64 n, .int .i64 d]] w fun e w' => e = .returned (.int .i64 lo) ∧ Below w.heap.size w w'))
    : Calls Try.prog 7 #[.agg #[.int .i64 n, .int .i64 d]] w fun e w' => e = .returned (.bool true) ∧ Below w.heap.size w w' := by
  obtain ⟨W, hW⟩ : ∃ W, W = Box1 ⟨n, d⟩ w := ⟨_, rfl⟩
  have hat := box1_bx ⟨n, d⟩ w
  rw [← hW] at hat
  obtain ⟨⟨ka, la⟩, B0⟩ := hat
  unfold Box1 at hW
  simp only at hW
  have HW := Lib.hid hW
  clear hW
  have na := World.block_lt_of_cell? W _ ka
  simp only at na
  go_enter Try.func7, Try.ntmps7
  go_wp2_with fail
  rw [← HW.out]
  refine (H1.out _).mono ?_
  rintro e w1 ⟨rfl, b1⟩
  have s1 : Below W.heap.size W w1 := below_step (by repeat first | exact Below.refl _ _ | refine below_drewN ?_ _ | refine Below.drew ?_ | refine Below.setCell ?_ (by simp <;> omega) _ | refine Below.alloc ?_ (by simp) _) b1 rfl
  have ka' := bx_keep s1 ⟨ka, la⟩
  clear ka la na
  obtain ⟨ka, la⟩ := ka'
  have na := World.block_lt_of_cell? w1 _ ka
  simp only at na
  have B1 := Below.trans B0 (s1.mono B0.size)
  go_wp2_with fail
  refine (H2.out _).mono ?_
  rintro e w2 ⟨rfl, b2⟩
  have s2 : Below w1.heap.size w1 w2 := below_step (by repeat first | exact Below.refl _ _ | refine below_drewN ?_ _ | refine Below.drew ?_ | refine Below.setCell ?_ (by simp <;> omega) _ | refine Below.alloc ?_ (by simp) _) b2 rfl
  have ka' := bx_keep s2 ⟨ka, la⟩
  clear ka la na
  obtain ⟨ka, la⟩ := ka'
  have na := World.block_lt_of_cell? w2 _ ka
  simp only at na
  have B2 := Below.trans B1 (s2.mono B1.size)
  clear B1
  clear na
  go_upto_region 4 with fail
  go_cut [4, 5, 6] (fun s4 s5 s6 wx => s4 = .int .i64 lo ∧ s5 = .int .i64 (lo + 1) ∧ s6 = .int .i64 lo ∧ wx.cell? ⟨w.heap.size, 0, none⟩ = some (.int .i64 n) ∧ wx.cell? ⟨w.heap.size, 1, none⟩ = some (.int .i64 d) ∧ Below w.heap.size w wx)
  case first =>
    go_region_held3 (fun w' => w'.cell? ⟨w.heap.size, 0, none⟩ = some (.int .i64 n) ∧ w'.cell? ⟨w.heap.size, 1, none⟩ = some (.int .i64 d) ∧ Below w.heap.size w w')
      (first
        | assumption
        | exact box_hold bt rfl (by assumption)
        | exact box_hold (Below.drew (Below.refl _ _)) rfl ⟨ka, la, B2⟩)
      (first
        | (go_at_call 26; refine (HF.out _).mono ?_; rintro e wt ⟨rfl, bt⟩)
        | (go_at_call 28; refine (HC.out _).mono ?_; rintro e wt ⟨rfl, bt⟩)
        | (go_at_call 30; refine (HN.out _).mono ?_; rintro e wt ⟨rfl, bt⟩))
    all_goals go_wp2_with fail
    all_goals go_meet
    all_goals exact ⟨rfl, rfl, rfl, by assumption⟩
  case rest =>
  clear ka la B2
  obtain ⟨rfl, rfl, rfl, ka, la, B2⟩ := hcut
  have na := World.block_lt_of_cell? wc _ ka
  simp only at na
  go_wp2_with fail
  refine (H3.out _).mono ?_
  rintro e w3 ⟨rfl, b3⟩
  have s3 : Below wc.heap.size wc w3 := below_step (by repeat first | exact Below.refl _ _ | refine below_drewN ?_ _ | refine Below.drew ?_ | refine Below.setCell ?_ (by simp <;> omega) _ | refine Below.alloc ?_ (by simp) _) b3 rfl
  have ka' := bx_keep s3 ⟨ka, la⟩
  clear ka la na
  obtain ⟨ka, la⟩ := ka'
  have na := World.block_lt_of_cell? w3 _ ka
  simp only at na
  have B3 := Below.trans B2 (s3.mono B2.size)
  clear B2
  go_wp2_with fail
  refine (H4.out _).mono ?_
  rintro e w4 ⟨rfl, b4⟩
  have s4 : Below w3.heap.size w3 w4 := below_step (by repeat first | exact Below.refl _ _ | refine below_drewN ?_ _ | refine Below.drew ?_ | refine Below.setCell ?_ (by simp <;> omega) _ | refine Below.alloc ?_ (by simp) _) b4 rfl
  have ka' := bx_keep s4 ⟨ka, la⟩
  clear ka la na
  obtain ⟨ka, la⟩ := ka'
  obtain ⟨kx1, lx1⟩ := bx_new b4 (by simp)
  have na := World.block_lt_of_cell? w4 _ ka
  simp only at na
  have nx1 := World.block_lt_of_cell? w4 _ kx1
  simp only at nx1
  have B4 := Below.trans B3 (s4.mono B3.size)
  clear B3
  go_wp2_with fail
  refine (H5.out _).mono ?_
  rintro e w5 ⟨rfl, b5⟩
  have s5 : Below w4.heap.size w4 w5 := below_step (by repeat first | exact Below.refl _ _ | refine below_drewN ?_ _ | refine Below.drew ?_ | refine Below.setCell ?_ (by simp <;> omega) _ | refine Below.alloc ?_ (by simp) _) b5 rfl
  have ka' := bx_keep s5 ⟨ka, la⟩
  clear ka la na
  obtain ⟨ka, la⟩ := ka'
  have kx1' := bx_keep s5 ⟨kx1, lx1⟩
  clear kx1 lx1 nx1
  obtain ⟨kx1, lx1⟩ := kx1'
  obtain ⟨ky1, ly1⟩ := bx_new b5 (by simp)
  have na := World.block_lt_of_cell? w5 _ ka
  simp only at na
  have nx1 := World.block_lt_of_cell? w5 _ kx1
  simp only at nx1
  have ny1 := World.block_lt_of_cell? w5 _ ky1
  simp only at ny1
  have B5 := Below.trans B4 (s5.mono B4.size)
  clear B4
  go_wp2_with fail
  refine (H6.out _).mono ?_
  rintro e w6 ⟨rfl, b6⟩
  have s6 : Below w5.heap.size w5 w6 := below_step (by repeat first | exact Below.refl _ _ | refine below_drewN ?_ _ | refine Below.drew ?_ | refine Below.setCell ?_ (by simp <;> omega) _ | refine Below.alloc ?_ (by simp) _) b6 rfl
  have ka' := bx_keep s6 ⟨ka, la⟩
  clear ka la na
  obtain ⟨ka, la⟩ := ka'
  have kx1' := bx_keep s6 ⟨kx1, lx1⟩
  clear kx1 lx1 nx1
  obtain ⟨kx1, lx1⟩ := kx1'
  have ky1' := bx_keep s6 ⟨ky1, ly1⟩
  clear ky1 ly1 ny1
  obtain ⟨ky1, ly1⟩ := ky1'
  obtain ⟨kz1, lz1⟩ := bx_new b6 (by simp)
  have na := World.block_lt_of_cell? w6 _ ka
  simp only at na
  have nx1 := World.block_lt_of_cell? w6 _ kx1
  simp only at nx1
  have ny1 := World.block_lt_of_cell? w6 _ ky1
  simp only at ny1
  have nz1 := World.block_lt_of_cell? w6 _ kz1
  simp only at nz1
  have B6 := Below.trans B5 (s6.mono B5.size)
  clear B5
  go_wp2_with fail
  refine (H7.out _).mono ?_
  rintro e w7 ⟨rfl, b7⟩
  have s7 : Below w6.heap.size w6 w7 := below_step (by repeat first | exact Below.refl _ _ | refine below_drewN ?_ _ | refine Below.drew ?_ | refine Below.setCell ?_ (by simp <;> omega) _ | refine Below.alloc ?_ (by simp) _) b7 rfl
  have ka' := bx_keep s7 ⟨ka, la⟩
  clear ka la na
  obtain ⟨ka, la⟩ := ka'
  have kx1' := bx_keep s7 ⟨kx1, lx1⟩
  clear kx1 lx1 nx1
  obtain ⟨kx1, lx1⟩ := kx1'
  have ky1' := bx_keep s7 ⟨ky1, ly1⟩
  clear ky1 ly1 ny1
  obtain ⟨ky1, ly1⟩ := ky1'
  have kz1' := bx_keep s7 ⟨kz1, lz1⟩
  clear kz1 lz1 nz1
  obtain ⟨kz1, lz1⟩ := kz1'
  have na := World.block_lt_of_cell? w7 _ ka
  simp only at na
  have nx1 := World.block_lt_of_cell? w7 _ kx1
  simp only at nx1
  have ny1 := World.block_lt_of_cell? w7 _ ky1
  simp only at ny1
  have nz1 := World.block_lt_of_cell? w7 _ kz1
  simp only at nz1
  have B7 := Below.trans B6 (s7.mono B6.size)
  clear B6
  go_wp2_with fail
  refine (H8.out _).mono ?_
  rintro e w8 ⟨rfl, b8⟩
  have s8 : Below w7.heap.size w7 w8 := below_step (by repeat first | exact Below.refl _ _ | refine below_drewN ?_ _ | refine Below.drew ?_ | refine Below.setCell ?_ (by simp <;> omega) _ | refine Below.alloc ?_ (by simp) _) b8 rfl
  have ka' := bx_keep s8 ⟨ka, la⟩
  clear ka la na
  obtain ⟨ka, la⟩ := ka'
  have kx1' := bx_keep s8 ⟨kx1, lx1⟩
  clear kx1 lx1 nx1
  obtain ⟨kx1, lx1⟩ := kx1'
  have ky1' := bx_keep s8 ⟨ky1, ly1⟩
  clear ky1 ly1 ny1
  obtain ⟨ky1, ly1⟩ := ky1'
  have kz1' := bx_keep s8 ⟨kz1, lz1⟩
  clear kz1 lz1 nz1
  obtain ⟨kz1, lz1⟩ := kz1'
  have na := World.block_lt_of_cell? w8 _ ka
  simp only at na
  have nx1 := World.block_lt_of_cell? w8 _ kx1
  simp only at nx1
  have ny1 := World.block_lt_of_cell? w8 _ ky1
  simp only at ny1
  have nz1 := World.block_lt_of_cell? w8 _ kz1
  simp only at nz1
  have B8 := Below.trans B7 (s8.mono B7.size)
  clear B7
  go_wp2_with fail
  refine (H9.out _).mono ?_
  rintro e w9 ⟨rfl, b9⟩
  have s9 : Below w8.heap.size w8 w9 := below_step (by repeat first | exact Below.refl _ _ | refine below_drewN ?_ _ | refine Below.drew ?_ | refine Below.setCell ?_ (by simp <;> omega) _ | refine Below.alloc ?_ (by simp) _) b9 rfl
  have ka' := bx_keep s9 ⟨ka, la⟩
  clear ka la na
  obtain ⟨ka, la⟩ := ka'
  have kx1' := bx_keep s9 ⟨kx1, lx1⟩
  clear kx1 lx1 nx1
  obtain ⟨kx1, lx1⟩ := kx1'
  have ky1' := bx_keep s9 ⟨ky1, ly1⟩
  clear ky1 ly1 ny1
  obtain ⟨ky1, ly1⟩ := ky1'
  have kz1' := bx_keep s9 ⟨kz1, lz1⟩
  clear kz1 lz1 nz1
  obtain ⟨kz1, lz1⟩ := kz1'
  obtain ⟨kdn, ldn⟩ := bx_new b9 (by simp)
  have na := World.block_lt_of_cell? w9 _ ka
  simp only at na
  have nx1 := World.block_lt_of_cell? w9 _ kx1
  simp only at nx1
  have ny1 := World.block_lt_of_cell? w9 _ ky1
  simp only at ny1
  have nz1 := World.block_lt_of_cell? w9 _ kz1
  simp only at nz1
  have ndn := World.block_lt_of_cell? w9 _ kdn
  simp only at ndn
  have B9 := Below.trans B8 (s9.mono B8.size)
  clear B8
  go_wp2_with fail
  refine (H10.out _).mono ?_
  rintro e w10 ⟨rfl, b10⟩
  have s10 : Below w9.heap.size w9 w10 := below_step (by repeat first | exact Below.refl _ _ | refine below_drewN ?_ _ | refine Below.drew ?_ | refine Below.setCell ?_ (by simp <;> omega) _ | refine Below.alloc ?_ (by simp) _) b10 rfl
  have ka' := bx_keep s10 ⟨ka, la⟩
  clear ka la na
  obtain ⟨ka, la⟩ := ka'
  have kx1' := bx_keep s10 ⟨kx1, lx1⟩
  clear kx1 lx1 nx1
  obtain ⟨kx1, lx1⟩ := kx1'
  have ky1' := bx_keep s10 ⟨ky1, ly1⟩
  clear ky1 ly1 ny1
  obtain ⟨ky1, ly1⟩ := ky1'
  have kz1' := bx_keep s10 ⟨kz1, lz1⟩
  clear kz1 lz1 nz1
  obtain ⟨kz1, lz1⟩ := kz1'
  have kdn' := bx_keep s10 ⟨kdn, ldn⟩
  clear kdn ldn ndn
  obtain ⟨kdn, ldn⟩ := kdn'
  obtain ⟨kup, lup⟩ := bx_new b10 (by simp)
  have na := World.block_lt_of_cell? w10 _ ka
  simp only at na
  have nx1 := World.block_lt_of_cell? w10 _ kx1
  simp only at nx1
  have ny1 := World.block_lt_of_cell? w10 _ ky1
  simp only at ny1
  have nz1 := World.block_lt_of_cell? w10 _ kz1
  simp only at nz1
  have ndn := World.block_lt_of_cell? w10 _ kdn
  simp only at ndn
  have nup := World.block_lt_of_cell? w10 _ kup
  simp only at nup
  have B10 := Below.trans B9 (s10.mono B9.size)
  clear B9
  go_wp2_with fail
  go_ret
  exact ⟨rfl, Below.trans B10 (Below.mono (by repeat first | exact Below.refl _ _ | refine below_drewN ?_ _ | refine Below.drew ?_ | refine Below.setCell ?_ (by simp <;> omega) _ | refine Below.alloc ?_ (by simp) _) B10.size)⟩

set_option maxRecDepth 100000 in
set_option maxHeartbeats 4000000 in
theorem rounds_higt (n d lo s t : Int) (w : World)
    (H1 : Hid (∀ w, Calls Try.prog 8 #[] w fun e w' => e = .returned (.bool true) ∧ Below w.heap.size w w'))
    (H2 : Hid (∀ w, Calls Try.prog 9 #[.agg #[.int .i64 n, .int .i64 d]] w fun e w' => e = .returned (.bool true) ∧ Below w.heap.size w w'))
    (H3 : Hid (∀ w, Calls Try.prog 13 #[.int .i64 lo, .int .i64 1] w fun e w' => e = .returned (.tuple #[.agg #[.int .i64 lo, .int .i64 1], .int .i64 0]) ∧ Below w.heap.size w w'))
    (H4 : Hid (∀ w, Calls Try.prog 13 #[.int .i64 (lo + 1), .int .i64 1] w fun e w' => e = .returned (.tuple #[.agg #[.int .i64 (lo + 1), .int .i64 1], .int .i64 0]) ∧ Below w.heap.size w w'))
    (H5 : Hid (∀ w, Calls Try.prog 13 #[.int .i64 (lo + 1), .int .i64 1] w fun e w' => e = .returned (.tuple #[.agg #[.int .i64 (lo + 1), .int .i64 1], .int .i64 0]) ∧ Below w.heap.size w w'))
    (H6 : Hid (∀ w, Calls Try.prog 24 #[.agg #[.int .i64 lo, .int .i64 1], .agg #[.int .i64 n, .int .i64 d]] w fun e w' => e = .returned (.int .i64 (-1)) ∧ Below w.heap.size w w'))
    (H7 : Hid (∀ w, Calls Try.prog 24 #[.agg #[.int .i64 n, .int .i64 d], .agg #[.int .i64 (lo + 1), .int .i64 1]] w fun e w' => e = .returned (.int .i64 (-1)) ∧ Below w.heap.size w w'))
    (H8 : Hid (∀ w, Calls Try.prog 18 #[.agg #[.int .i64 n, .int .i64 d], .agg #[.int .i64 lo, .int .i64 1]] w fun e w' => e = .returned (.tuple #[.agg #[.int .i64 s, .int .i64 d], .int .i64 0]) ∧ Below w.heap.size w w'))
    (H9 : Hid (∀ w, Calls Try.prog 18 #[.agg #[.int .i64 (lo + 1), .int .i64 1], .agg #[.int .i64 n, .int .i64 d]] w fun e w' => e = .returned (.tuple #[.agg #[.int .i64 t, .int .i64 d], .int .i64 0]) ∧ Below w.heap.size w w'))
    (H10 : Hid (∀ w, Calls Try.prog 24 #[.agg #[.int .i64 s, .int .i64 d], .agg #[.int .i64 t, .int .i64 d]] w fun e w' => e = .returned (.int .i64 1) ∧ Below w.heap.size w w'))
    (d1 : (d == 1) = false) (hw : IntKind.i64.wrap (lo + 1) = lo + 1)
    (ne : ¬ lo + 1 = lo)
    (HF : Hid (∀ w, Calls Try.prog 26 #[.agg #[.int .i64 n, .int .i64 d]] w fun e w' => e = .returned (.int .i64 lo) ∧ Below w.heap.size w w'))
    (HC : Hid (∀ w, Calls Try.prog 28 #[.agg #[.int .i64 n, .int .i64 d]] w fun e w' => e = .returned (.int .i64 (lo + 1)) ∧ Below w.heap.size w w'))
    (HN : Hid (∀ w, Calls Try.prog 30 #[.agg #[.int .i64 n, .int .i64 d]] w fun e w' => e = .returned (.int .i64 (lo + 1)) ∧ Below w.heap.size w w'))
    : Calls Try.prog 7 #[.agg #[.int .i64 n, .int .i64 d]] w fun e w' => e = .returned (.bool true) ∧ Below w.heap.size w w' := by
  obtain ⟨W, hW⟩ : ∃ W, W = Box1 ⟨n, d⟩ w := ⟨_, rfl⟩
  have hat := box1_bx ⟨n, d⟩ w
  rw [← hW] at hat
  obtain ⟨⟨ka, la⟩, B0⟩ := hat
  unfold Box1 at hW
  simp only at hW
  have HW := Lib.hid hW
  clear hW
  have na := World.block_lt_of_cell? W _ ka
  simp only at na
  go_enter Try.func7, Try.ntmps7
  go_wp2_with fail
  rw [← HW.out]
  refine (H1.out _).mono ?_
  rintro e w1 ⟨rfl, b1⟩
  have s1 : Below W.heap.size W w1 := below_step (by repeat first | exact Below.refl _ _ | refine below_drewN ?_ _ | refine Below.drew ?_ | refine Below.setCell ?_ (by simp <;> omega) _ | refine Below.alloc ?_ (by simp) _) b1 rfl
  have ka' := bx_keep s1 ⟨ka, la⟩
  clear ka la na
  obtain ⟨ka, la⟩ := ka'
  have na := World.block_lt_of_cell? w1 _ ka
  simp only at na
  have B1 := Below.trans B0 (s1.mono B0.size)
  go_wp2_with fail
  refine (H2.out _).mono ?_
  rintro e w2 ⟨rfl, b2⟩
  have s2 : Below w1.heap.size w1 w2 := below_step (by repeat first | exact Below.refl _ _ | refine below_drewN ?_ _ | refine Below.drew ?_ | refine Below.setCell ?_ (by simp <;> omega) _ | refine Below.alloc ?_ (by simp) _) b2 rfl
  have ka' := bx_keep s2 ⟨ka, la⟩
  clear ka la na
  obtain ⟨ka, la⟩ := ka'
  have na := World.block_lt_of_cell? w2 _ ka
  simp only at na
  have B2 := Below.trans B1 (s2.mono B1.size)
  clear B1
  clear na
  go_upto_region 4 with fail
  go_cut [4, 5, 6] (fun s4 s5 s6 wx => s4 = .int .i64 lo ∧ s5 = .int .i64 (lo + 1) ∧ s6 = .int .i64 (lo + 1) ∧ wx.cell? ⟨w.heap.size, 0, none⟩ = some (.int .i64 n) ∧ wx.cell? ⟨w.heap.size, 1, none⟩ = some (.int .i64 d) ∧ Below w.heap.size w wx)
  case first =>
    go_region_held3 (fun w' => w'.cell? ⟨w.heap.size, 0, none⟩ = some (.int .i64 n) ∧ w'.cell? ⟨w.heap.size, 1, none⟩ = some (.int .i64 d) ∧ Below w.heap.size w w')
      (first
        | assumption
        | exact box_hold bt rfl (by assumption)
        | exact box_hold (Below.drew (Below.refl _ _)) rfl ⟨ka, la, B2⟩)
      (first
        | (go_at_call 26; refine (HF.out _).mono ?_; rintro e wt ⟨rfl, bt⟩)
        | (go_at_call 28; refine (HC.out _).mono ?_; rintro e wt ⟨rfl, bt⟩)
        | (go_at_call 30; refine (HN.out _).mono ?_; rintro e wt ⟨rfl, bt⟩))
    all_goals go_wp2_with fail
    all_goals go_meet
    all_goals exact ⟨rfl, rfl, rfl, by assumption⟩
  case rest =>
  clear ka la B2
  obtain ⟨rfl, rfl, rfl, ka, la, B2⟩ := hcut
  have na := World.block_lt_of_cell? wc _ ka
  simp only at na
  go_wp2_with fail
  refine (H3.out _).mono ?_
  rintro e w3 ⟨rfl, b3⟩
  have s3 : Below wc.heap.size wc w3 := below_step (by repeat first | exact Below.refl _ _ | refine below_drewN ?_ _ | refine Below.drew ?_ | refine Below.setCell ?_ (by simp <;> omega) _ | refine Below.alloc ?_ (by simp) _) b3 rfl
  have ka' := bx_keep s3 ⟨ka, la⟩
  clear ka la na
  obtain ⟨ka, la⟩ := ka'
  have na := World.block_lt_of_cell? w3 _ ka
  simp only at na
  have B3 := Below.trans B2 (s3.mono B2.size)
  clear B2
  go_wp2_with fail
  refine (H4.out _).mono ?_
  rintro e w4 ⟨rfl, b4⟩
  have s4 : Below w3.heap.size w3 w4 := below_step (by repeat first | exact Below.refl _ _ | refine below_drewN ?_ _ | refine Below.drew ?_ | refine Below.setCell ?_ (by simp <;> omega) _ | refine Below.alloc ?_ (by simp) _) b4 rfl
  have ka' := bx_keep s4 ⟨ka, la⟩
  clear ka la na
  obtain ⟨ka, la⟩ := ka'
  obtain ⟨kx1, lx1⟩ := bx_new b4 (by simp)
  have na := World.block_lt_of_cell? w4 _ ka
  simp only at na
  have nx1 := World.block_lt_of_cell? w4 _ kx1
  simp only at nx1
  have B4 := Below.trans B3 (s4.mono B3.size)
  clear B3
  go_wp2_with fail
  refine (H5.out _).mono ?_
  rintro e w5 ⟨rfl, b5⟩
  have s5 : Below w4.heap.size w4 w5 := below_step (by repeat first | exact Below.refl _ _ | refine below_drewN ?_ _ | refine Below.drew ?_ | refine Below.setCell ?_ (by simp <;> omega) _ | refine Below.alloc ?_ (by simp) _) b5 rfl
  have ka' := bx_keep s5 ⟨ka, la⟩
  clear ka la na
  obtain ⟨ka, la⟩ := ka'
  have kx1' := bx_keep s5 ⟨kx1, lx1⟩
  clear kx1 lx1 nx1
  obtain ⟨kx1, lx1⟩ := kx1'
  obtain ⟨ky1, ly1⟩ := bx_new b5 (by simp)
  have na := World.block_lt_of_cell? w5 _ ka
  simp only at na
  have nx1 := World.block_lt_of_cell? w5 _ kx1
  simp only at nx1
  have ny1 := World.block_lt_of_cell? w5 _ ky1
  simp only at ny1
  have B5 := Below.trans B4 (s5.mono B4.size)
  clear B4
  go_wp2_with fail
  refine (H6.out _).mono ?_
  rintro e w6 ⟨rfl, b6⟩
  have s6 : Below w5.heap.size w5 w6 := below_step (by repeat first | exact Below.refl _ _ | refine below_drewN ?_ _ | refine Below.drew ?_ | refine Below.setCell ?_ (by simp <;> omega) _ | refine Below.alloc ?_ (by simp) _) b6 rfl
  have ka' := bx_keep s6 ⟨ka, la⟩
  clear ka la na
  obtain ⟨ka, la⟩ := ka'
  have kx1' := bx_keep s6 ⟨kx1, lx1⟩
  clear kx1 lx1 nx1
  obtain ⟨kx1, lx1⟩ := kx1'
  have ky1' := bx_keep s6 ⟨ky1, ly1⟩
  clear ky1 ly1 ny1
  obtain ⟨ky1, ly1⟩ := ky1'
  obtain ⟨kz1, lz1⟩ := bx_new b6 (by simp)
  have na := World.block_lt_of_cell? w6 _ ka
  simp only at na
  have nx1 := World.block_lt_of_cell? w6 _ kx1
  simp only at nx1
  have ny1 := World.block_lt_of_cell? w6 _ ky1
  simp only at ny1
  have nz1 := World.block_lt_of_cell? w6 _ kz1
  simp only at nz1
  have B6 := Below.trans B5 (s6.mono B5.size)
  clear B5
  go_wp2_with fail
  refine (H7.out _).mono ?_
  rintro e w7 ⟨rfl, b7⟩
  have s7 : Below w6.heap.size w6 w7 := below_step (by repeat first | exact Below.refl _ _ | refine below_drewN ?_ _ | refine Below.drew ?_ | refine Below.setCell ?_ (by simp <;> omega) _ | refine Below.alloc ?_ (by simp) _) b7 rfl
  have ka' := bx_keep s7 ⟨ka, la⟩
  clear ka la na
  obtain ⟨ka, la⟩ := ka'
  have kx1' := bx_keep s7 ⟨kx1, lx1⟩
  clear kx1 lx1 nx1
  obtain ⟨kx1, lx1⟩ := kx1'
  have ky1' := bx_keep s7 ⟨ky1, ly1⟩
  clear ky1 ly1 ny1
  obtain ⟨ky1, ly1⟩ := ky1'
  have kz1' := bx_keep s7 ⟨kz1, lz1⟩
  clear kz1 lz1 nz1
  obtain ⟨kz1, lz1⟩ := kz1'
  have na := World.block_lt_of_cell? w7 _ ka
  simp only at na
  have nx1 := World.block_lt_of_cell? w7 _ kx1
  simp only at nx1
  have ny1 := World.block_lt_of_cell? w7 _ ky1
  simp only at ny1
  have nz1 := World.block_lt_of_cell? w7 _ kz1
  simp only at nz1
  have B7 := Below.trans B6 (s7.mono B6.size)
  clear B6
  go_wp2_with fail
  refine (H8.out _).mono ?_
  rintro e w8 ⟨rfl, b8⟩
  have s8 : Below w7.heap.size w7 w8 := below_step (by repeat first | exact Below.refl _ _ | refine below_drewN ?_ _ | refine Below.drew ?_ | refine Below.setCell ?_ (by simp <;> omega) _ | refine Below.alloc ?_ (by simp) _) b8 rfl
  have ka' := bx_keep s8 ⟨ka, la⟩
  clear ka la na
  obtain ⟨ka, la⟩ := ka'
  have kx1' := bx_keep s8 ⟨kx1, lx1⟩
  clear kx1 lx1 nx1
  obtain ⟨kx1, lx1⟩ := kx1'
  have ky1' := bx_keep s8 ⟨ky1, ly1⟩
  clear ky1 ly1 ny1
  obtain ⟨ky1, ly1⟩ := ky1'
  have kz1' := bx_keep s8 ⟨kz1, lz1⟩
  clear kz1 lz1 nz1
  obtain ⟨kz1, lz1⟩ := kz1'
  have na := World.block_lt_of_cell? w8 _ ka
  simp only at na
  have nx1 := World.block_lt_of_cell? w8 _ kx1
  simp only at nx1
  have ny1 := World.block_lt_of_cell? w8 _ ky1
  simp only at ny1
  have nz1 := World.block_lt_of_cell? w8 _ kz1
  simp only at nz1
  have B8 := Below.trans B7 (s8.mono B7.size)
  clear B7
  go_wp2_with fail
  refine (H9.out _).mono ?_
  rintro e w9 ⟨rfl, b9⟩
  have s9 : Below w8.heap.size w8 w9 := below_step (by repeat first | exact Below.refl _ _ | refine below_drewN ?_ _ | refine Below.drew ?_ | refine Below.setCell ?_ (by simp <;> omega) _ | refine Below.alloc ?_ (by simp) _) b9 rfl
  have ka' := bx_keep s9 ⟨ka, la⟩
  clear ka la na
  obtain ⟨ka, la⟩ := ka'
  have kx1' := bx_keep s9 ⟨kx1, lx1⟩
  clear kx1 lx1 nx1
  obtain ⟨kx1, lx1⟩ := kx1'
  have ky1' := bx_keep s9 ⟨ky1, ly1⟩
  clear ky1 ly1 ny1
  obtain ⟨ky1, ly1⟩ := ky1'
  have kz1' := bx_keep s9 ⟨kz1, lz1⟩
  clear kz1 lz1 nz1
  obtain ⟨kz1, lz1⟩ := kz1'
  obtain ⟨kdn, ldn⟩ := bx_new b9 (by simp)
  have na := World.block_lt_of_cell? w9 _ ka
  simp only at na
  have nx1 := World.block_lt_of_cell? w9 _ kx1
  simp only at nx1
  have ny1 := World.block_lt_of_cell? w9 _ ky1
  simp only at ny1
  have nz1 := World.block_lt_of_cell? w9 _ kz1
  simp only at nz1
  have ndn := World.block_lt_of_cell? w9 _ kdn
  simp only at ndn
  have B9 := Below.trans B8 (s9.mono B8.size)
  clear B8
  go_wp2_with fail
  refine (H10.out _).mono ?_
  rintro e w10 ⟨rfl, b10⟩
  have s10 : Below w9.heap.size w9 w10 := below_step (by repeat first | exact Below.refl _ _ | refine below_drewN ?_ _ | refine Below.drew ?_ | refine Below.setCell ?_ (by simp <;> omega) _ | refine Below.alloc ?_ (by simp) _) b10 rfl
  have ka' := bx_keep s10 ⟨ka, la⟩
  clear ka la na
  obtain ⟨ka, la⟩ := ka'
  have kx1' := bx_keep s10 ⟨kx1, lx1⟩
  clear kx1 lx1 nx1
  obtain ⟨kx1, lx1⟩ := kx1'
  have ky1' := bx_keep s10 ⟨ky1, ly1⟩
  clear ky1 ly1 ny1
  obtain ⟨ky1, ly1⟩ := ky1'
  have kz1' := bx_keep s10 ⟨kz1, lz1⟩
  clear kz1 lz1 nz1
  obtain ⟨kz1, lz1⟩ := kz1'
  have kdn' := bx_keep s10 ⟨kdn, ldn⟩
  clear kdn ldn ndn
  obtain ⟨kdn, ldn⟩ := kdn'
  obtain ⟨kup, lup⟩ := bx_new b10 (by simp)
  have na := World.block_lt_of_cell? w10 _ ka
  simp only at na
  have nx1 := World.block_lt_of_cell? w10 _ kx1
  simp only at nx1
  have ny1 := World.block_lt_of_cell? w10 _ ky1
  simp only at ny1
  have nz1 := World.block_lt_of_cell? w10 _ kz1
  simp only at nz1
  have ndn := World.block_lt_of_cell? w10 _ kdn
  simp only at ndn
  have nup := World.block_lt_of_cell? w10 _ kup
  simp only at nup
  have B10 := Below.trans B9 (s10.mono B9.size)
  clear B9
  go_wp2_with fail
  go_ret
  exact ⟨rfl, Below.trans B10 (Below.mono (by repeat first | exact Below.refl _ _ | refine below_drewN ?_ _ | refine Below.drew ?_ | refine Below.setCell ?_ (by simp <;> omega) _ | refine Below.alloc ?_ (by simp) _) B10.size)⟩

set_option maxRecDepth 100000 in
set_option maxHeartbeats 4000000 in
theorem rounds_hieq (n d lo s t : Int) (w : World)
    (H1 : Hid (∀ w, Calls Try.prog 8 #[] w fun e w' => e = .returned (.bool true) ∧ Below w.heap.size w w'))
    (H2 : Hid (∀ w, Calls Try.prog 9 #[.agg #[.int .i64 n, .int .i64 d]] w fun e w' => e = .returned (.bool true) ∧ Below w.heap.size w w'))
    (H3 : Hid (∀ w, Calls Try.prog 13 #[.int .i64 lo, .int .i64 1] w fun e w' => e = .returned (.tuple #[.agg #[.int .i64 lo, .int .i64 1], .int .i64 0]) ∧ Below w.heap.size w w'))
    (H4 : Hid (∀ w, Calls Try.prog 13 #[.int .i64 (lo + 1), .int .i64 1] w fun e w' => e = .returned (.tuple #[.agg #[.int .i64 (lo + 1), .int .i64 1], .int .i64 0]) ∧ Below w.heap.size w w'))
    (H5 : Hid (∀ w, Calls Try.prog 13 #[.int .i64 (lo + 1), .int .i64 1] w fun e w' => e = .returned (.tuple #[.agg #[.int .i64 (lo + 1), .int .i64 1], .int .i64 0]) ∧ Below w.heap.size w w'))
    (H6 : Hid (∀ w, Calls Try.prog 24 #[.agg #[.int .i64 lo, .int .i64 1], .agg #[.int .i64 n, .int .i64 d]] w fun e w' => e = .returned (.int .i64 (-1)) ∧ Below w.heap.size w w'))
    (H7 : Hid (∀ w, Calls Try.prog 24 #[.agg #[.int .i64 n, .int .i64 d], .agg #[.int .i64 (lo + 1), .int .i64 1]] w fun e w' => e = .returned (.int .i64 (-1)) ∧ Below w.heap.size w w'))
    (H8 : Hid (∀ w, Calls Try.prog 18 #[.agg #[.int .i64 n, .int .i64 d], .agg #[.int .i64 lo, .int .i64 1]] w fun e w' => e = .returned (.tuple #[.agg #[.int .i64 s, .int .i64 d], .int .i64 0]) ∧ Below w.heap.size w w'))
    (H9 : Hid (∀ w, Calls Try.prog 18 #[.agg #[.int .i64 (lo + 1), .int .i64 1], .agg #[.int .i64 n, .int .i64 d]] w fun e w' => e = .returned (.tuple #[.agg #[.int .i64 t, .int .i64 d], .int .i64 0]) ∧ Below w.heap.size w w'))
    (H10 : Hid (∀ w, Calls Try.prog 24 #[.agg #[.int .i64 s, .int .i64 d], .agg #[.int .i64 t, .int .i64 d]] w fun e w' => e = .returned (.int .i64 0) ∧ Below w.heap.size w w'))
    (d1 : (d == 1) = false) (hw : IntKind.i64.wrap (lo + 1) = lo + 1)
    (ne : ¬ lo + 1 = lo) (ev : (lo + 1).tmod 2 = 0)
    (HF : Hid (∀ w, Calls Try.prog 26 #[.agg #[.int .i64 n, .int .i64 d]] w fun e w' => e = .returned (.int .i64 lo) ∧ Below w.heap.size w w'))
    (HC : Hid (∀ w, Calls Try.prog 28 #[.agg #[.int .i64 n, .int .i64 d]] w fun e w' => e = .returned (.int .i64 (lo + 1)) ∧ Below w.heap.size w w'))
    (HN : Hid (∀ w, Calls Try.prog 30 #[.agg #[.int .i64 n, .int .i64 d]] w fun e w' => e = .returned (.int .i64 (lo + 1)) ∧ Below w.heap.size w w'))
    : Calls Try.prog 7 #[.agg #[.int .i64 n, .int .i64 d]] w fun e w' => e = .returned (.bool true) ∧ Below w.heap.size w w' := by
  obtain ⟨W, hW⟩ : ∃ W, W = Box1 ⟨n, d⟩ w := ⟨_, rfl⟩
  have hat := box1_bx ⟨n, d⟩ w
  rw [← hW] at hat
  obtain ⟨⟨ka, la⟩, B0⟩ := hat
  unfold Box1 at hW
  simp only at hW
  have HW := Lib.hid hW
  clear hW
  have na := World.block_lt_of_cell? W _ ka
  simp only at na
  go_enter Try.func7, Try.ntmps7
  go_wp2_with fail
  rw [← HW.out]
  refine (H1.out _).mono ?_
  rintro e w1 ⟨rfl, b1⟩
  have s1 : Below W.heap.size W w1 := below_step (by repeat first | exact Below.refl _ _ | refine below_drewN ?_ _ | refine Below.drew ?_ | refine Below.setCell ?_ (by simp <;> omega) _ | refine Below.alloc ?_ (by simp) _) b1 rfl
  have ka' := bx_keep s1 ⟨ka, la⟩
  clear ka la na
  obtain ⟨ka, la⟩ := ka'
  have na := World.block_lt_of_cell? w1 _ ka
  simp only at na
  have B1 := Below.trans B0 (s1.mono B0.size)
  go_wp2_with fail
  refine (H2.out _).mono ?_
  rintro e w2 ⟨rfl, b2⟩
  have s2 : Below w1.heap.size w1 w2 := below_step (by repeat first | exact Below.refl _ _ | refine below_drewN ?_ _ | refine Below.drew ?_ | refine Below.setCell ?_ (by simp <;> omega) _ | refine Below.alloc ?_ (by simp) _) b2 rfl
  have ka' := bx_keep s2 ⟨ka, la⟩
  clear ka la na
  obtain ⟨ka, la⟩ := ka'
  have na := World.block_lt_of_cell? w2 _ ka
  simp only at na
  have B2 := Below.trans B1 (s2.mono B1.size)
  clear B1
  clear na
  go_upto_region 4 with fail
  go_cut [4, 5, 6] (fun s4 s5 s6 wx => s4 = .int .i64 lo ∧ s5 = .int .i64 (lo + 1) ∧ s6 = .int .i64 (lo + 1) ∧ wx.cell? ⟨w.heap.size, 0, none⟩ = some (.int .i64 n) ∧ wx.cell? ⟨w.heap.size, 1, none⟩ = some (.int .i64 d) ∧ Below w.heap.size w wx)
  case first =>
    go_region_held3 (fun w' => w'.cell? ⟨w.heap.size, 0, none⟩ = some (.int .i64 n) ∧ w'.cell? ⟨w.heap.size, 1, none⟩ = some (.int .i64 d) ∧ Below w.heap.size w w')
      (first
        | assumption
        | exact box_hold bt rfl (by assumption)
        | exact box_hold (Below.drew (Below.refl _ _)) rfl ⟨ka, la, B2⟩)
      (first
        | (go_at_call 26; refine (HF.out _).mono ?_; rintro e wt ⟨rfl, bt⟩)
        | (go_at_call 28; refine (HC.out _).mono ?_; rintro e wt ⟨rfl, bt⟩)
        | (go_at_call 30; refine (HN.out _).mono ?_; rintro e wt ⟨rfl, bt⟩))
    all_goals go_wp2_with fail
    all_goals go_meet
    all_goals exact ⟨rfl, rfl, rfl, by assumption⟩
  case rest =>
  clear ka la B2
  obtain ⟨rfl, rfl, rfl, ka, la, B2⟩ := hcut
  have na := World.block_lt_of_cell? wc _ ka
  simp only at na
  go_wp2_with fail
  refine (H3.out _).mono ?_
  rintro e w3 ⟨rfl, b3⟩
  have s3 : Below wc.heap.size wc w3 := below_step (by repeat first | exact Below.refl _ _ | refine below_drewN ?_ _ | refine Below.drew ?_ | refine Below.setCell ?_ (by simp <;> omega) _ | refine Below.alloc ?_ (by simp) _) b3 rfl
  have ka' := bx_keep s3 ⟨ka, la⟩
  clear ka la na
  obtain ⟨ka, la⟩ := ka'
  have na := World.block_lt_of_cell? w3 _ ka
  simp only at na
  have B3 := Below.trans B2 (s3.mono B2.size)
  clear B2
  go_wp2_with fail
  refine (H4.out _).mono ?_
  rintro e w4 ⟨rfl, b4⟩
  have s4 : Below w3.heap.size w3 w4 := below_step (by repeat first | exact Below.refl _ _ | refine below_drewN ?_ _ | refine Below.drew ?_ | refine Below.setCell ?_ (by simp <;> omega) _ | refine Below.alloc ?_ (by simp) _) b4 rfl
  have ka' := bx_keep s4 ⟨ka, la⟩
  clear ka la na
  obtain ⟨ka, la⟩ := ka'
  obtain ⟨kx1, lx1⟩ := bx_new b4 (by simp)
  have na := World.block_lt_of_cell? w4 _ ka
  simp only at na
  have nx1 := World.block_lt_of_cell? w4 _ kx1
  simp only at nx1
  have B4 := Below.trans B3 (s4.mono B3.size)
  clear B3
  go_wp2_with fail
  refine (H5.out _).mono ?_
  rintro e w5 ⟨rfl, b5⟩
  have s5 : Below w4.heap.size w4 w5 := below_step (by repeat first | exact Below.refl _ _ | refine below_drewN ?_ _ | refine Below.drew ?_ | refine Below.setCell ?_ (by simp <;> omega) _ | refine Below.alloc ?_ (by simp) _) b5 rfl
  have ka' := bx_keep s5 ⟨ka, la⟩
  clear ka la na
  obtain ⟨ka, la⟩ := ka'
  have kx1' := bx_keep s5 ⟨kx1, lx1⟩
  clear kx1 lx1 nx1
  obtain ⟨kx1, lx1⟩ := kx1'
  obtain ⟨ky1, ly1⟩ := bx_new b5 (by simp)
  have na := World.block_lt_of_cell? w5 _ ka
  simp only at na
  have nx1 := World.block_lt_of_cell? w5 _ kx1
  simp only at nx1
  have ny1 := World.block_lt_of_cell? w5 _ ky1
  simp only at ny1
  have B5 := Below.trans B4 (s5.mono B4.size)
  clear B4
  go_wp2_with fail
  refine (H6.out _).mono ?_
  rintro e w6 ⟨rfl, b6⟩
  have s6 : Below w5.heap.size w5 w6 := below_step (by repeat first | exact Below.refl _ _ | refine below_drewN ?_ _ | refine Below.drew ?_ | refine Below.setCell ?_ (by simp <;> omega) _ | refine Below.alloc ?_ (by simp) _) b6 rfl
  have ka' := bx_keep s6 ⟨ka, la⟩
  clear ka la na
  obtain ⟨ka, la⟩ := ka'
  have kx1' := bx_keep s6 ⟨kx1, lx1⟩
  clear kx1 lx1 nx1
  obtain ⟨kx1, lx1⟩ := kx1'
  have ky1' := bx_keep s6 ⟨ky1, ly1⟩
  clear ky1 ly1 ny1
  obtain ⟨ky1, ly1⟩ := ky1'
  obtain ⟨kz1, lz1⟩ := bx_new b6 (by simp)
  have na := World.block_lt_of_cell? w6 _ ka
  simp only at na
  have nx1 := World.block_lt_of_cell? w6 _ kx1
  simp only at nx1
  have ny1 := World.block_lt_of_cell? w6 _ ky1
  simp only at ny1
  have nz1 := World.block_lt_of_cell? w6 _ kz1
  simp only at nz1
  have B6 := Below.trans B5 (s6.mono B5.size)
  clear B5
  go_wp2_with fail
  refine (H7.out _).mono ?_
  rintro e w7 ⟨rfl, b7⟩
  have s7 : Below w6.heap.size w6 w7 := below_step (by repeat first | exact Below.refl _ _ | refine below_drewN ?_ _ | refine Below.drew ?_ | refine Below.setCell ?_ (by simp <;> omega) _ | refine Below.alloc ?_ (by simp) _) b7 rfl
  have ka' := bx_keep s7 ⟨ka, la⟩
  clear ka la na
  obtain ⟨ka, la⟩ := ka'
  have kx1' := bx_keep s7 ⟨kx1, lx1⟩
  clear kx1 lx1 nx1
  obtain ⟨kx1, lx1⟩ := kx1'
  have ky1' := bx_keep s7 ⟨ky1, ly1⟩
  clear ky1 ly1 ny1
  obtain ⟨ky1, ly1⟩ := ky1'
  have kz1' := bx_keep s7 ⟨kz1, lz1⟩
  clear kz1 lz1 nz1
  obtain ⟨kz1, lz1⟩ := kz1'
  have na := World.block_lt_of_cell? w7 _ ka
  simp only at na
  have nx1 := World.block_lt_of_cell? w7 _ kx1
  simp only at nx1
  have ny1 := World.block_lt_of_cell? w7 _ ky1
  simp only at ny1
  have nz1 := World.block_lt_of_cell? w7 _ kz1
  simp only at nz1
  have B7 := Below.trans B6 (s7.mono B6.size)
  clear B6
  go_wp2_with fail
  refine (H8.out _).mono ?_
  rintro e w8 ⟨rfl, b8⟩
  have s8 : Below w7.heap.size w7 w8 := below_step (by repeat first | exact Below.refl _ _ | refine below_drewN ?_ _ | refine Below.drew ?_ | refine Below.setCell ?_ (by simp <;> omega) _ | refine Below.alloc ?_ (by simp) _) b8 rfl
  have ka' := bx_keep s8 ⟨ka, la⟩
  clear ka la na
  obtain ⟨ka, la⟩ := ka'
  have kx1' := bx_keep s8 ⟨kx1, lx1⟩
  clear kx1 lx1 nx1
  obtain ⟨kx1, lx1⟩ := kx1'
  have ky1' := bx_keep s8 ⟨ky1, ly1⟩
  clear ky1 ly1 ny1
  obtain ⟨ky1, ly1⟩ := ky1'
  have kz1' := bx_keep s8 ⟨kz1, lz1⟩
  clear kz1 lz1 nz1
  obtain ⟨kz1, lz1⟩ := kz1'
  have na := World.block_lt_of_cell? w8 _ ka
  simp only at na
  have nx1 := World.block_lt_of_cell? w8 _ kx1
  simp only at nx1
  have ny1 := World.block_lt_of_cell? w8 _ ky1
  simp only at ny1
  have nz1 := World.block_lt_of_cell? w8 _ kz1
  simp only at nz1
  have B8 := Below.trans B7 (s8.mono B7.size)
  clear B7
  go_wp2_with fail
  refine (H9.out _).mono ?_
  rintro e w9 ⟨rfl, b9⟩
  have s9 : Below w8.heap.size w8 w9 := below_step (by repeat first | exact Below.refl _ _ | refine below_drewN ?_ _ | refine Below.drew ?_ | refine Below.setCell ?_ (by simp <;> omega) _ | refine Below.alloc ?_ (by simp) _) b9 rfl
  have ka' := bx_keep s9 ⟨ka, la⟩
  clear ka la na
  obtain ⟨ka, la⟩ := ka'
  have kx1' := bx_keep s9 ⟨kx1, lx1⟩
  clear kx1 lx1 nx1
  obtain ⟨kx1, lx1⟩ := kx1'
  have ky1' := bx_keep s9 ⟨ky1, ly1⟩
  clear ky1 ly1 ny1
  obtain ⟨ky1, ly1⟩ := ky1'
  have kz1' := bx_keep s9 ⟨kz1, lz1⟩
  clear kz1 lz1 nz1
  obtain ⟨kz1, lz1⟩ := kz1'
  obtain ⟨kdn, ldn⟩ := bx_new b9 (by simp)
  have na := World.block_lt_of_cell? w9 _ ka
  simp only at na
  have nx1 := World.block_lt_of_cell? w9 _ kx1
  simp only at nx1
  have ny1 := World.block_lt_of_cell? w9 _ ky1
  simp only at ny1
  have nz1 := World.block_lt_of_cell? w9 _ kz1
  simp only at nz1
  have ndn := World.block_lt_of_cell? w9 _ kdn
  simp only at ndn
  have B9 := Below.trans B8 (s9.mono B8.size)
  clear B8
  go_wp2_with fail
  refine (H10.out _).mono ?_
  rintro e w10 ⟨rfl, b10⟩
  have s10 : Below w9.heap.size w9 w10 := below_step (by repeat first | exact Below.refl _ _ | refine below_drewN ?_ _ | refine Below.drew ?_ | refine Below.setCell ?_ (by simp <;> omega) _ | refine Below.alloc ?_ (by simp) _) b10 rfl
  have ka' := bx_keep s10 ⟨ka, la⟩
  clear ka la na
  obtain ⟨ka, la⟩ := ka'
  have kx1' := bx_keep s10 ⟨kx1, lx1⟩
  clear kx1 lx1 nx1
  obtain ⟨kx1, lx1⟩ := kx1'
  have ky1' := bx_keep s10 ⟨ky1, ly1⟩
  clear ky1 ly1 ny1
  obtain ⟨ky1, ly1⟩ := ky1'
  have kz1' := bx_keep s10 ⟨kz1, lz1⟩
  clear kz1 lz1 nz1
  obtain ⟨kz1, lz1⟩ := kz1'
  have kdn' := bx_keep s10 ⟨kdn, ldn⟩
  clear kdn ldn ndn
  obtain ⟨kdn, ldn⟩ := kdn'
  obtain ⟨kup, lup⟩ := bx_new b10 (by simp)
  have na := World.block_lt_of_cell? w10 _ ka
  simp only at na
  have nx1 := World.block_lt_of_cell? w10 _ kx1
  simp only at nx1
  have ny1 := World.block_lt_of_cell? w10 _ ky1
  simp only at ny1
  have nz1 := World.block_lt_of_cell? w10 _ kz1
  simp only at nz1
  have ndn := World.block_lt_of_cell? w10 _ kdn
  simp only at ndn
  have nup := World.block_lt_of_cell? w10 _ kup
  simp only at nup
  have B10 := Below.trans B9 (s10.mono B9.size)
  clear B9
  go_wp2_with fail
  go_ret
  exact ⟨rfl, Below.trans B10 (Below.mono (by repeat first | exact Below.refl _ _ | refine below_drewN ?_ _ | refine Below.drew ?_ | refine Below.setCell ?_ (by simp <;> omega) _ | refine Below.alloc ?_ (by simp) _) B10.size)⟩

end Go.Proofs.Ytfchbkhgoebagaa
