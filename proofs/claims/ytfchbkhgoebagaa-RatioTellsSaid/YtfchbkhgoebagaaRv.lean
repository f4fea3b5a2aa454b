/- Walks of the law's own functions: sane, plus, times, and the reference's Fits. -/
import Derived.Test.YtfchbkhgoebagaaRu
namespace Go.Proofs.Ytfchbkhgoebagaa
open Go.RowKit Ra

theorem below_step {W X w' : World} {B : Nat} (h : Below W.heap.size W X) (k : Below B X w') (hB : B = X.heap.size) : Below W.heap.size W w' := by
  subst hB
  exact Below.trans h (k.mono h.size)
def Bx (w : World) (k : Nat) (n d : Int) : Prop := w.cell? ⟨k, 0, none⟩ = some (.int .i64 n) ∧ w.cell? ⟨k, 1, none⟩ = some (.int .i64 d)
theorem bx_keep {w w' : World} {k : Nat} {n d : Int} (hk : Below w.heap.size w w') (h : Bx w k n d) : Bx w' k n d := by
  have hl := World.block_lt_of_cell? w _ h.1
  simp only at hl
  exact ⟨by rw [hk.cell (by simp only; omega)]; exact h.1, by rw [hk.cell (by simp only; omega)]; exact h.2⟩
theorem bx_new {X wt : World} {B : Nat} {n d : Int} {t : TypeId} (h : Below B (X.alloc (.cells #[.int .i64 n, .int .i64 d] t)) wt) (hB : X.heap.size < B) : Bx wt X.heap.size n d := by
  refine ⟨?_, ?_⟩
  · rw [h.cell (by simp only; omega)]; simp
  · rw [h.cell (by simp only; omega)]; simp

theorem s1_lit (w : World) : Calls Try.prog 13 #[.int .i64 6, .int .i64 (-4)] w fun e w' => e = .returned (.tuple #[.agg #[.int .i64 (-3), .int .i64 2], .int .i64 0]) ∧ Below w.heap.size w w' := by
  have e0 : makeV 6 (-4) = ⟨-3, 2⟩ := by kernel_rfl
  have e1 : makeE 6 (-4) = 0 := by kernel_rfl
  have h := make_any 6 (-4) w (by decide) (by decide) (by decide) (by decide)
  rw [e0, e1] at h
  exact h
theorem s2_lit (w : World) : Calls Try.prog 13 #[.int .i64 0, .int .i64 (-7)] w fun e w' => e = .returned (.tuple #[.agg #[.int .i64 0, .int .i64 1], .int .i64 0]) ∧ Below w.heap.size w w' := by
  have e0 : makeV 0 (-7) = ⟨0, 1⟩ := by kernel_rfl
  have e1 : makeE 0 (-7) = 0 := by kernel_rfl
  have h := make_any 0 (-7) w (by decide) (by decide) (by decide) (by decide)
  rw [e0, e1] at h
  exact h
theorem s3_lit (w : World) : Calls Try.prog 13 #[.int .i64 1, .int .i64 0] w fun e w' => e = .returned (.tuple #[.agg #[.int .i64 0, .int .i64 0], .int .i64 1]) ∧ Below w.heap.size w w' := by
  have e0 : makeV 1 0 = ⟨0, 0⟩ := by kernel_rfl
  have e1 : makeE 1 0 = 1 := by kernel_rfl
  have h := make_any 1 0 w (by decide) (by decide) (by decide) (by decide)
  rw [e0, e1] at h
  exact h
theorem s4_lit (w : World) : Calls Try.prog 16 #[.agg #[.int .i64 1, .int .i64 6], .agg #[.int .i64 1, .int .i64 10]] w fun e w' => e = .returned (.tuple #[.agg #[.int .i64 4, .int .i64 15], .int .i64 0]) ∧ Below w.heap.size w w' := by
  have e0 : addV ⟨1, 6⟩ ⟨1, 10⟩ = ⟨4, 15⟩ := by kernel_rfl
  have e1 : addE ⟨1, 6⟩ ⟨1, 10⟩ = 0 := by kernel_rfl
  have h := add_any ⟨1, 6⟩ ⟨1, 10⟩ w ⟨by decide, by decide, by decide, by decide⟩ ⟨by decide, by decide, by decide, by decide⟩
  rw [e0, e1] at h
  exact h
theorem s5_lit (w : World) : Calls Try.prog 20 #[.agg #[.int .i64 1152921504606846976, .int .i64 1], .agg #[.int .i64 2, .int .i64 1]] w fun e w' => e = .returned (.tuple #[.agg #[.int .i64 0, .int .i64 0], .int .i64 3]) ∧ Below w.heap.size w w' := by
  have e0 : mulV ⟨1152921504606846976, 1⟩ ⟨2, 1⟩ = ⟨0, 0⟩ := by kernel_rfl
  have e1 : mulE ⟨1152921504606846976, 1⟩ ⟨2, 1⟩ = 3 := by kernel_rfl
  have h := mul_any ⟨1152921504606846976, 1⟩ ⟨2, 1⟩ w ⟨by decide, by decide, by decide, by decide⟩ ⟨by decide, by decide, by decide, by decide⟩
  rw [e0, e1] at h
  exact h
theorem s6_lit (w : World) : Calls Try.prog 22 #[.agg #[.int .i64 1, .int .i64 2], .agg #[.int .i64 0, .int .i64 1]] w fun e w' => e = .returned (.tuple #[.agg #[.int .i64 0, .int .i64 0], .int .i64 1]) ∧ Below w.heap.size w w' := by
  have e0 : divV ⟨1, 2⟩ ⟨0, 1⟩ = ⟨0, 0⟩ := by kernel_rfl
  have e1 : divE ⟨1, 2⟩ ⟨0, 1⟩ = 1 := by kernel_rfl
  have h := div_any ⟨1, 2⟩ ⟨0, 1⟩ w ⟨by decide, by decide, by decide, by decide⟩ ⟨by decide, by decide, by decide, by decide⟩
  rw [e0, e1] at h
  exact h
theorem s7_lit (w : World) : Calls Try.prog 26 #[.agg #[.int .i64 (-3), .int .i64 2]] w fun e w' => e = .returned (.int .i64 (-2)) ∧ Below w.heap.size w w' := by
  have e0 : floorV ⟨-3, 2⟩ = -2 := by kernel_rfl
  have h := floor_any ⟨-3, 2⟩ w ⟨by decide, by decide, by decide, by decide⟩
  rw [e0] at h
  exact h
theorem s8_lit (w : World) : Calls Try.prog 28 #[.agg #[.int .i64 (-3), .int .i64 2]] w fun e w' => e = .returned (.int .i64 (-1)) ∧ Below w.heap.size w w' := by
  have e0 : ceilV ⟨-3, 2⟩ = -1 := by kernel_rfl
  have h := ceil_any ⟨-3, 2⟩ w ⟨by decide, by decide, by decide, by decide⟩
  rw [e0] at h
  exact h
theorem s9_lit (w : World) : Calls Try.prog 30 #[.agg #[.int .i64 (-3), .int .i64 2]] w fun e w' => e = .returned (.int .i64 (-2)) ∧ Below w.heap.size w w' := by
  have e0 : nearV ⟨-3, 2⟩ = -2 := by kernel_rfl
  have h := near_any ⟨-3, 2⟩ w ⟨by decide, by decide, by decide, by decide⟩
  rw [e0] at h
  exact h
theorem s10_lit (w : World) : Calls Try.prog 30 #[.agg #[.int .i64 5, .int .i64 2]] w fun e w' => e = .returned (.int .i64 2) ∧ Below w.heap.size w w' := by
  have e0 : nearV ⟨5, 2⟩ = 2 := by kernel_rfl
  have h := near_any ⟨5, 2⟩ w ⟨by decide, by decide, by decide, by decide⟩
  rw [e0] at h
  exact h
theorem s11_lit (w : World) : Calls Try.prog 24 #[.agg #[.int .i64 (-3), .int .i64 2], .agg #[.int .i64 0, .int .i64 1]] w fun e w' => e = .returned (.int .i64 (-1)) ∧ Below w.heap.size w w' := by
  have e0 : cmpV ⟨-3, 2⟩ ⟨0, 1⟩ = -1 := by kernel_rfl
  have h := cmp_any ⟨-3, 2⟩ ⟨0, 1⟩ w ⟨by decide, by decide, by decide, by decide⟩ ⟨by decide, by decide, by decide, by decide⟩
  rw [e0] at h
  exact h
theorem s12_lit (w : World) : Calls Try.prog 9 #[.agg #[.int .i64 (-3), .int .i64 2]] w fun e w' => e = .returned (.bool true) ∧ Below w.heap.size w w' := by
  have e0 : rightB ⟨-3, 2⟩ = true := by kernel_rfl
  have h := right_any ⟨-3, 2⟩ w ⟨by decide, by decide, by decide, by decide⟩
  rw [e0] at h
  exact h

set_option maxHeartbeats 4000000 in
theorem sane_any (w : World) : Calls Try.prog 8 #[] w fun e w' => e = .returned (.bool true) ∧ Below w.heap.size w w' := by
  have H1 := Lib.hid s1_lit
  have H2 := Lib.hid s2_lit
  have H3 := Lib.hid s3_lit
  have H4 := Lib.hid s4_lit
  have H5 := Lib.hid s5_lit
  have H6 := Lib.hid s6_lit
  have H7 := Lib.hid s7_lit
  have H8 := Lib.hid s8_lit
  have H9 := Lib.hid s9_lit
  have H10 := Lib.hid s10_lit
  have H11 := Lib.hid s11_lit
  have H12 := Lib.hid s12_lit
  go_enter Try.func8, Try.ntmps8
  go_wp2_with fail
  refine (H1.out _).mono ?_
  rintro e w1 ⟨rfl, b1⟩
  have s1 : Below w.heap.size w w1 := below_step (by repeat first | exact Below.refl _ _ | refine below_drewN ?_ _ | refine Below.drew ?_ | refine Below.alloc ?_ (by simp) _) b1 rfl
  go_wp2_with fail
  refine (H2.out _).mono ?_
  rintro e w2 ⟨rfl, b2⟩
  have s2 : Below w1.heap.size w1 w2 := below_step (by repeat first | exact Below.refl _ _ | refine below_drewN ?_ _ | refine Below.drew ?_ | refine Below.alloc ?_ (by simp) _) b2 rfl
  obtain ⟨ka, la⟩ := bx_new b2 (by simp)
  have na := World.block_lt_of_cell? w2 _ ka
  simp only at na
  go_wp2_with fail
  refine (H3.out _).mono ?_
  rintro e w3 ⟨rfl, b3⟩
  have s3 : Below w2.heap.size w2 w3 := below_step (by repeat first | exact Below.refl _ _ | refine below_drewN ?_ _ | refine Below.drew ?_ | refine Below.alloc ?_ (by simp) _) b3 rfl
  have ka' := bx_keep s3 ⟨ka, la⟩
  clear ka la na
  obtain ⟨ka, la⟩ := ka'
  obtain ⟨kb, lb⟩ := bx_new b3 (by simp)
  have na := World.block_lt_of_cell? w3 _ ka
  simp only at na
  have nb := World.block_lt_of_cell? w3 _ kb
  simp only at nb
  go_wp2_with fail
  refine (H4.out _).mono ?_
  rintro e w4 ⟨rfl, b4⟩
  have s4 : Below w3.heap.size w3 w4 := below_step (by repeat first | exact Below.refl _ _ | refine below_drewN ?_ _ | refine Below.drew ?_ | refine Below.alloc ?_ (by simp) _) b4 rfl
  have ka' := bx_keep s4 ⟨ka, la⟩
  clear ka la na
  obtain ⟨ka, la⟩ := ka'
  have kb' := bx_keep s4 ⟨kb, lb⟩
  clear kb lb nb
  obtain ⟨kb, lb⟩ := kb'
  have na := World.block_lt_of_cell? w4 _ ka
  simp only at na
  have nb := World.block_lt_of_cell? w4 _ kb
  simp only at nb
  go_wp2_with fail
  refine (H5.out _).mono ?_
  rintro e w5 ⟨rfl, b5⟩
  have s5 : Below w4.heap.size w4 w5 := below_step (by repeat first | exact Below.refl _ _ | refine below_drewN ?_ _ | refine Below.drew ?_ | refine Below.alloc ?_ (by simp) _) b5 rfl
  have ka' := bx_keep s5 ⟨ka, la⟩
  clear ka la na
  obtain ⟨ka, la⟩ := ka'
  have kb' := bx_keep s5 ⟨kb, lb⟩
  clear kb lb nb
  obtain ⟨kb, lb⟩ := kb'
  obtain ⟨kc, lc⟩ := bx_new b5 (by simp)
  have na := World.block_lt_of_cell? w5 _ ka
  simp only at na
  have nb := World.block_lt_of_cell? w5 _ kb
  simp only at nb
  have nc := World.block_lt_of_cell? w5 _ kc
  simp only at nc
  go_wp2_with fail
  refine (H6.out _).mono ?_
  rintro e w6 ⟨rfl, b6⟩
  have s6 : Below w5.heap.size w5 w6 := below_step (by repeat first | exact Below.refl _ _ | refine below_drewN ?_ _ | refine Below.drew ?_ | refine Below.alloc ?_ (by simp) _) b6 rfl
  have ka' := bx_keep s6 ⟨ka, la⟩
  clear ka la na
  obtain ⟨ka, la⟩ := ka'
  have kb' := bx_keep s6 ⟨kb, lb⟩
  clear kb lb nb
  obtain ⟨kb, lb⟩ := kb'
  have kc' := bx_keep s6 ⟨kc, lc⟩
  clear kc lc nc
  obtain ⟨kc, lc⟩ := kc'
  have na := World.block_lt_of_cell? w6 _ ka
  simp only at na
  have nb := World.block_lt_of_cell? w6 _ kb
  simp only at nb
  have nc := World.block_lt_of_cell? w6 _ kc
  simp only at nc
  go_wp2_with fail
  refine (H7.out _).mono ?_
  rintro e w7 ⟨rfl, b7⟩
  have s7 : Below w6.heap.size w6 w7 := below_step (by repeat first | exact Below.refl _ _ | refine below_drewN ?_ _ | refine Below.drew ?_ | refine Below.alloc ?_ (by simp) _) b7 rfl
  have ka' := bx_keep s7 ⟨ka, la⟩
  clear ka la na
  obtain ⟨ka, la⟩ := ka'
  have kb' := bx_keep s7 ⟨kb, lb⟩
  clear kb lb nb
  obtain ⟨kb, lb⟩ := kb'
  have kc' := bx_keep s7 ⟨kc, lc⟩
  clear kc lc nc
  obtain ⟨kc, lc⟩ := kc'
  have na := World.block_lt_of_cell? w7 _ ka
  simp only at na
  have nb := World.block_lt_of_cell? w7 _ kb
  simp only at nb
  have nc := World.block_lt_of_cell? w7 _ kc
  simp only at nc
  go_wp2_with fail
  refine (H8.out _).mono ?_
  rintro e w8 ⟨rfl, b8⟩
  have s8 : Below w7.heap.size w7 w8 := below_step (by repeat first | exact Below.refl _ _ | refine below_drewN ?_ _ | refine Below.drew ?_ | refine Below.alloc ?_ (by simp) _) b8 rfl
  have ka' := bx_keep s8 ⟨ka, la⟩
  clear ka la na
  obtain ⟨ka, la⟩ := ka'
  have kb' := bx_keep s8 ⟨kb, lb⟩
  clear kb lb nb
  obtain ⟨kb, lb⟩ := kb'
  have kc' := bx_keep s8 ⟨kc, lc⟩
  clear kc lc nc
  obtain ⟨kc, lc⟩ := kc'
  have na := World.block_lt_of_cell? w8 _ ka
  simp only at na
  have nb := World.block_lt_of_cell? w8 _ kb
  simp only at nb
  have nc := World.block_lt_of_cell? w8 _ kc
  simp only at nc
  go_wp2_with fail
  refine (H9.out _).mono ?_
  rintro e w9 ⟨rfl, b9⟩
  have s9 : Below w8.heap.size w8 w9 := below_step (by repeat first | exact Below.refl _ _ | refine below_drewN ?_ _ | refine Below.drew ?_ | refine Below.alloc ?_ (by simp) _) b9 rfl
  have ka' := bx_keep s9 ⟨ka, la⟩
  clear ka la na
  obtain ⟨ka, la⟩ := ka'
  have kb' := bx_keep s9 ⟨kb, lb⟩
  clear kb lb nb
  obtain ⟨kb, lb⟩ := kb'
  have kc' := bx_keep s9 ⟨kc, lc⟩
  clear kc lc nc
  obtain ⟨kc, lc⟩ := kc'
  have na := World.block_lt_of_cell? w9 _ ka
  simp only at na
  have nb := World.block_lt_of_cell? w9 _ kb
  simp only at nb
  have nc := World.block_lt_of_cell? w9 _ kc
  simp only at nc
  go_wp2_with fail
  refine (H10.out _).mono ?_
  rintro e w10 ⟨rfl, b10⟩
  have s10 : Below w9.heap.size w9 w10 := below_step (by repeat first | exact Below.refl _ _ | refine below_drewN ?_ _ | refine Below.drew ?_ | refine Below.alloc ?_ (by simp) _) b10 rfl
  have ka' := bx_keep s10 ⟨ka, la⟩
  clear ka la na
  obtain ⟨ka, la⟩ := ka'
  have kb' := bx_keep s10 ⟨kb, lb⟩
  clear kb lb nb
  obtain ⟨kb, lb⟩ := kb'
  have kc' := bx_keep s10 ⟨kc, lc⟩
  clear kc lc nc
  obtain ⟨kc, lc⟩ := kc'
  have na := World.block_lt_of_cell? w10 _ ka
  simp only at na
  have nb := World.block_lt_of_cell? w10 _ kb
  simp only at nb
  have nc := World.block_lt_of_cell? w10 _ kc
  simp only at nc
  go_wp2_with fail
  refine (H11.out _).mono ?_
  rintro e w11 ⟨rfl, b11⟩
  have s11 : Below w10.heap.size w10 w11 := below_step (by repeat first | exact Below.refl _ _ | refine below_drewN ?_ _ | refine Below.drew ?_ | refine Below.alloc ?_ (by simp) _) b11 rfl
  have ka' := bx_keep s11 ⟨ka, la⟩
  clear ka la na
  obtain ⟨ka, la⟩ := ka'
  have kb' := bx_keep s11 ⟨kb, lb⟩
  clear kb lb nb
  obtain ⟨kb, lb⟩ := kb'
  have kc' := bx_keep s11 ⟨kc, lc⟩
  clear kc lc nc
  obtain ⟨kc, lc⟩ := kc'
  have na := World.block_lt_of_cell? w11 _ ka
  simp only at na
  have nb := World.block_lt_of_cell? w11 _ kb
  simp only at nb
  have nc := World.block_lt_of_cell? w11 _ kc
  simp only at nc
  go_wp2_with fail
  refine (H12.out _).mono ?_
  rintro e w12 ⟨rfl, b12⟩
  have s12 : Below w11.heap.size w11 w12 := below_step (by repeat first | exact Below.refl _ _ | refine below_drewN ?_ _ | refine Below.drew ?_ | refine Below.alloc ?_ (by simp) _) b12 rfl
  have ka' := bx_keep s12 ⟨ka, la⟩
  clear ka la na
  obtain ⟨ka, la⟩ := ka'
  have kb' := bx_keep s12 ⟨kb, lb⟩
  clear kb lb nb
  obtain ⟨kb, lb⟩ := kb'
  have kc' := bx_keep s12 ⟨kc, lc⟩
  clear kc lc nc
  obtain ⟨kc, lc⟩ := kc'
  have na := World.block_lt_of_cell? w12 _ ka
  simp only at na
  have nb := World.block_lt_of_cell? w12 _ kb
  simp only at nb
  have nc := World.block_lt_of_cell? w12 _ kc
  simp only at nc
  go_wp2_with fail
  go_ret
  refine ⟨rfl, ?_⟩
  have r1 := s1
  have r2 := Below.trans r1 (s2.mono r1.size)
  have r3 := Below.trans r2 (s3.mono r2.size)
  have r4 := Below.trans r3 (s4.mono r3.size)
  have r5 := Below.trans r4 (s5.mono r4.size)
  have r6 := Below.trans r5 (s6.mono r5.size)
  have r7 := Below.trans r6 (s7.mono r6.size)
  have r8 := Below.trans r7 (s8.mono r7.size)
  have r9 := Below.trans r8 (s9.mono r8.size)
  have r10 := Below.trans r9 (s10.mono r9.size)
  have r11 := Below.trans r10 (s11.mono r10.size)
  have r12 := Below.trans r11 (s12.mono r11.size)
  exact r12

set_option maxHeartbeats 2000000 in
theorem lplus_core (a b : Q) (v u er : Int) (ok : Bool) (w : World)
    (HV : Hid (∀ w, Calls Try.prog 16 #[.agg #[.int .i64 a.n, .int .i64 a.d], .agg #[.int .i64 b.n, .int .i64 b.d]] w fun e w' => e = .returned (.tuple #[.agg #[.int .i64 v, .int .i64 u], .int .i64 er]) ∧ Below w.heap.size w w')) (eo : (er == 0) = ok) :
    Calls Try.prog 11 #[.agg #[.int .i64 a.n, .int .i64 a.d], .agg #[.int .i64 b.n, .int .i64 b.d]] w fun e w' => e = .returned (.tuple #[.agg #[.int .i64 v, .int .i64 u], .bool ok]) ∧ Below w.heap.size w w' := by
  obtain ⟨W, hW⟩ : ∃ W, W = Two a b w := ⟨_, rfl⟩
  have T0 : TwoAt a b w.heap.size W := by rw [hW]; exact two_at a b w
  have B0 : Below w.heap.size w W := by rw [hW]; exact two_below a b w
  unfold Two at hW
  have HW := Lib.hid hW
  clear hW
  go_enter Try.func11, Try.ntmps11
  obtain ⟨c1, c2, c3, c4, c5, c6, c7, c8, c9⟩ := T0
  go_wp2_with fail
  rw [← HW.out]
  refine (HV.out _).mono ?_
  rintro e w1 ⟨rfl, b1⟩
  have T1 := TwoAt.below ⟨c1, c2, c3, c4, c5, c6, c7, c8, c9⟩ b1
  have B1 := Below.trans B0 (b1.mono B0.size)
  clear c1 c2 c3 c4 c5 c6 c7 c8 c9
  obtain ⟨c1, c2, c3, c4, c5, c6, c7, c8, c9⟩ := T1
  have n1 : w.heap.size + 1 + 1 < w1.heap.size := by omega
  go_wp2_with fail
  refine bodyPost_ret (v := .tuple #[.agg #[.int .i64 v, .int .i64 u], .bool ok]) (by simp [results, Try.results11, go_sem, *]) rfl ⟨rfl, ?_⟩
  repeat first | exact B1 | refine Below.setCell ?_ (by simp <;> omega) _ | refine Below.alloc ?_ (by simp only [World.size_setCell]; exact B1.size) _
theorem lplus_any (a b : Q) (w : World) (ha : Q64 a) (hb : Q64 b) :
    Calls Try.prog 11 #[Qv a, Qv b] w fun e w' => e = .returned (.tuple #[Qv (addV a b), .bool (addE a b == 0)]) ∧ Below w.heap.size w w' :=
  lplus_core a b _ _ _ _ w (Lib.hid fun w => add_any a b w ha hb) rfl

set_option maxHeartbeats 2000000 in
theorem ltimes_core (a b : Q) (v u er : Int) (ok : Bool) (w : World)
    (HV : Hid (∀ w, Calls Try.prog 20 #[.agg #[.int .i64 a.n, .int .i64 a.d], .agg #[.int .i64 b.n, .int .i64 b.d]] w fun e w' => e = .returned (.tuple #[.agg #[.int .i64 v, .int .i64 u], .int .i64 er]) ∧ Below w.heap.size w w')) (eo : (er == 0) = ok) :
    Calls Try.prog 12 #[.agg #[.int .i64 a.n, .int .i64 a.d], .agg #[.int .i64 b.n, .int .i64 b.d]] w fun e w' => e = .returned (.tuple #[.agg #[.int .i64 v, .int .i64 u], .bool ok]) ∧ Below w.heap.size w w' := by
  obtain ⟨W, hW⟩ : ∃ W, W = Two a b w := ⟨_, rfl⟩
  have T0 : TwoAt a b w.heap.size W := by rw [hW]; exact two_at a b w
  have B0 : Below w.heap.size w W := by rw [hW]; exact two_below a b w
  unfold Two at hW
  have HW := Lib.hid hW
  clear hW
  go_enter Try.func12, Try.ntmps12
  obtain ⟨c1, c2, c3, c4, c5, c6, c7, c8, c9⟩ := T0
  go_wp2_with fail
  rw [← HW.out]
  refine (HV.out _).mono ?_
  rintro e w1 ⟨rfl, b1⟩
  have T1 := TwoAt.below ⟨c1, c2, c3, c4, c5, c6, c7, c8, c9⟩ b1
  have B1 := Below.trans B0 (b1.mono B0.size)
  clear c1 c2 c3 c4 c5 c6 c7 c8 c9
  obtain ⟨c1, c2, c3, c4, c5, c6, c7, c8, c9⟩ := T1
  have n1 : w.heap.size + 1 + 1 < w1.heap.size := by omega
  go_wp2_with fail
  refine bodyPost_ret (v := .tuple #[.agg #[.int .i64 v, .int .i64 u], .bool ok]) (by simp [results, Try.results12, go_sem, *]) rfl ⟨rfl, ?_⟩
  repeat first | exact B1 | refine Below.setCell ?_ (by simp <;> omega) _ | refine Below.alloc ?_ (by simp only [World.size_setCell]; exact B1.size) _
theorem ltimes_any (a b : Q) (w : World) (ha : Q64 a) (hb : Q64 b) :
    Calls Try.prog 12 #[Qv a, Qv b] w fun e w' => e = .returned (.tuple #[Qv (mulV a b), .bool (mulE a b == 0)]) ∧ Below w.heap.size w w' :=
  ltimes_core a b _ _ _ _ w (Lib.hid fun w => mul_any a b w ha hb) rfl

theorem fits_any (a : Q) (m : Int) (w : World) (h0 : 0 ≤ m) (m1 : IntKind.i64.wrap (-m) = -m) :
    Calls Try.prog 10 #[.agg #[.int .i64 a.n, .int .i64 a.d], .int .i64 m] w fun e w' => e = .returned (.bool (decide (-m ≤ a.n) && decide (a.n ≤ m) && decide (-m ≤ a.d) && decide (a.d ≤ m))) ∧ Below w.heap.size w w' := by
  obtain ⟨W, hW⟩ : ∃ W, W = Box1 a w := ⟨_, rfl⟩
  have B1 : Below w.heap.size w W := by rw [hW]; exact (box_at a w).2.2.2
  unfold Box1 at hW
  have HW := Lib.hid hW
  clear hW
  by_cases h1 : -m ≤ a.n <;> by_cases h2 : a.n ≤ m <;> by_cases h3 : -m ≤ a.d <;> by_cases h4 : a.d ≤ m <;> simp only [h1, h2, h3, h4, decide_true, decide_false, Bool.and_true, Bool.and_false]
  all_goals first
    | (exfalso; omega)
    | (go_enter Try.func10, Try.ntmps10
       go_wp2_with fail
       rw [← HW.out]
       go_ret
       exact ⟨rfl, B1⟩)

end Go.Proofs.Ytfchbkhgoebagaa
