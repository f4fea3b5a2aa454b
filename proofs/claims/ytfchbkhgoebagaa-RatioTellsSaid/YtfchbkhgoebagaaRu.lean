/- Walks of ratio's functions: Floor, Ceil, Nearest. -/
import Derived.Test.YtfchbkhgoebagaaRt
namespace Go.Proofs.Ytfchbkhgoebagaa
open Go.RowKit Ra

/-- the box of a function's ratio -/
def Box1 (a : Q) (w : World) : World := w.alloc (.cells #[.int .i64 a.n, .int .i64 a.d] 23)
def HoldB (a : Q) (k : Nat) (w0 wx : World) : Prop := wx.cell? ⟨k, 0, none⟩ = some (.int .i64 a.n) ∧ wx.cell? ⟨k, 1, none⟩ = some (.int .i64 a.d) ∧ k + 1 ≤ wx.heap.size ∧ Below k w0 wx
theorem box_at (a : Q) (w : World) : HoldB a w.heap.size w (Box1 a w) := by
  refine ⟨?_, ?_, ?_, Below.alloc (Below.refl _ _) (Nat.le_refl _) _⟩ <;> simp [Box1, go_sem]
theorem box_keep {a : Q} {k B : Nat} {w0 wx w' : World} (hk : Below B wx w') (hB : B = wx.heap.size) (h : HoldB a k w0 wx) : HoldB a k w0 w' := by
  subst hB
  obtain ⟨h1, h2, h9, hb⟩ := h
  refine ⟨?_, ?_, ?_, Below.trans hb (hk.mono (by omega))⟩
  · rw [hk.cell (by simp only; omega)]; exact h1
  · rw [hk.cell (by simp only; omega)]; exact h2
  · exact Nat.le_trans h9 hk.size

theorem floor_not (a : Q) (w : World) (HA : Hid (∀ w, Calls Try.prog 9 #[.agg #[.int .i64 a.n, .int .i64 a.d]] w fun e w' => e = .returned (.bool false) ∧ Below w.heap.size w w')) :
    Calls Try.prog 26 #[.agg #[.int .i64 a.n, .int .i64 a.d]] w fun e w' => e = .returned (.int .i64 0) ∧ Below w.heap.size w w' := by
  obtain ⟨W, hW⟩ : ∃ W, W = Box1 a w := ⟨_, rfl⟩
  have P0 : HoldB a w.heap.size w W := by rw [hW]; exact box_at a w
  unfold Box1 at hW
  have HW := Lib.hid hW
  clear hW
  go_enter Try.func26, Try.ntmps26
  go_wp2_with fail
  rw [← HW.out]
  refine (HA.out _).mono ?_
  rintro e w1 ⟨rfl, b1⟩
  obtain ⟨c1, c2, c9, B1⟩ := box_keep b1 rfl P0
  go_wp2_with fail
  go_ret
  exact ⟨rfl, B1⟩
theorem floor_yes (a : Q) (q r : Int) (w : World) (HA : Hid (∀ w, Calls Try.prog 9 #[.agg #[.int .i64 a.n, .int .i64 a.d]] w fun e w' => e = .returned (.bool true) ∧ Below w.heap.size w w'))
    (d0 : ¬ a.d = 0) (eq : a.n.tdiv a.d = q) (er : a.n.tmod a.d = r) (wq : IntKind.i64.wrap q = q) (wr : IntKind.i64.wrap r = r) (wq1 : IntKind.i64.wrap (q - 1) = q - 1) :
    Calls Try.prog 26 #[.agg #[.int .i64 a.n, .int .i64 a.d]] w fun e w' => e = .returned (.int .i64 (if r < 0 then q - 1 else q)) ∧ Below w.heap.size w w' := by
  obtain ⟨W, hW⟩ : ∃ W, W = Box1 a w := ⟨_, rfl⟩
  have P0 : HoldB a w.heap.size w W := by rw [hW]; exact box_at a w
  unfold Box1 at hW
  have HW := Lib.hid hW
  clear hW
  by_cases hr : r < 0
  · rw [if_pos hr]
    go_enter Try.func26, Try.ntmps26
    go_wp2_with fail
    rw [← HW.out]
    refine (HA.out _).mono ?_
    rintro e w1 ⟨rfl, b1⟩
    obtain ⟨c1, c2, c9, B1⟩ := box_keep b1 rfl P0
    go_wp2_with fail
    go_ret
    exact ⟨rfl, B1⟩
  · rw [if_neg hr]
    go_enter Try.func26, Try.ntmps26
    go_wp2_with fail
    rw [← HW.out]
    refine (HA.out _).mono ?_
    rintro e w1 ⟨rfl, b1⟩
    obtain ⟨c1, c2, c9, B1⟩ := box_keep b1 rfl P0
    go_wp2_with fail
    go_ret
    exact ⟨rfl, B1⟩

theorem tdiv_floor {n d : Int} (h : 0 < d) : (if n.tmod d < 0 then n.tdiv d - 1 else n.tdiv d) = n / d := by
  have h1 := Int.mul_tdiv_add_tmod n d
  have h0 := Int.mul_comm d (n.tdiv d)
  have h2 := Int.tmod_lt_of_pos n h
  have h3 := Int.lt_tmod_of_pos n h
  by_cases hr : n.tmod d < 0
  · rw [if_pos hr]
    symm
    refine (Int.ediv_eq_iff_of_pos h).2 ?_
    rw [Int.sub_mul]
    constructor <;> omega
  · rw [if_neg hr]
    symm
    refine (Int.ediv_eq_iff_of_pos h).2 ?_
    constructor <;> omega

theorem floor_any (a : Q) (w : World) (ha : Q64 a) : Calls Try.prog 26 #[Qv a] w fun e w' => e = .returned (.int .i64 (floorV a)) ∧ Below w.heap.size w w' := by
  unfold floorV
  by_cases ra : rightB a = true
  rotate_left
  · rw [if_neg ra]
    rw [Bool.not_eq_true] at ra
    exact floor_not a w (Lib.hid (right_end ha false ra))
  rw [if_pos ra]
  have hA := (right_iff a).1 ra
  have l1 := hA.lo; have l2 := hA.hi; have l3 := hA.den; have pA := hA.pos
  rw [← tdiv_floor (by omega)]
  have q1 : (a.n.tdiv a.d).natAbs ≤ a.n.natAbs := by
    rw [Int.natAbs_tdiv]
    exact Nat.div_le_self _ _
  have r1 : (a.n.tmod a.d).natAbs ≤ a.n.natAbs := by
    rw [Int.natAbs_tmod]
    exact Nat.mod_le _ _
  exact floor_yes a _ _ w (Lib.hid (right_end ha true ra)) (by omega) rfl rfl (IntWalk.i64_in _ (by omega)) (IntWalk.i64_in _ (by omega)) (IntWalk.i64_in _ (by omega))

theorem floor_bound {a : Q} (h : Right a) : -1152921504606846976 ≤ floorV a ∧ floorV a ≤ 1152921504606846976 := by
  have l1 := h.lo; have l2 := h.hi; have pA := h.pos
  unfold floorV
  rw [(right_iff a).2 h, if_pos rfl]
  constructor
  · rw [Int.le_ediv_iff_mul_le (by omega)]
    have : -1152921504606846976 * a.d ≤ -1152921504606846976 * 1 := Int.mul_le_mul_of_nonpos_left (by omega) (by omega)
    omega
  · have : a.n / a.d ≤ 1152921504606846976 := by
      apply Int.ediv_le_of_le_mul (by omega)
      have : 1152921504606846976 * 1 ≤ 1152921504606846976 * a.d := Int.mul_le_mul_of_nonneg_left (by omega) (by omega)
      omega
    exact this

theorem ceil_not (a : Q) (w : World) (HA : Hid (∀ w, Calls Try.prog 9 #[.agg #[.int .i64 a.n, .int .i64 a.d]] w fun e w' => e = .returned (.bool false) ∧ Below w.heap.size w w')) :
    Calls Try.prog 28 #[.agg #[.int .i64 a.n, .int .i64 a.d]] w fun e w' => e = .returned (.int .i64 0) ∧ Below w.heap.size w w' := by
  obtain ⟨W, hW⟩ : ∃ W, W = Box1 a w := ⟨_, rfl⟩
  have P0 : HoldB a w.heap.size w W := by rw [hW]; exact box_at a w
  unfold Box1 at hW
  have HW := Lib.hid hW
  clear hW
  go_enter Try.func28, Try.ntmps28
  go_wp2_with fail
  rw [← HW.out]
  refine (HA.out _).mono ?_
  rintro e w1 ⟨rfl, b1⟩
  obtain ⟨c1, c2, c9, B1⟩ := box_keep b1 rfl P0
  go_wp2_with fail
  go_ret
  exact ⟨rfl, B1⟩
theorem ceil_yes (a : Q) (m f : Int) (w : World) (HA : Hid (∀ w, Calls Try.prog 9 #[.agg #[.int .i64 a.n, .int .i64 a.d]] w fun e w' => e = .returned (.bool true) ∧ Below w.heap.size w w'))
    (em : IntKind.i64.wrap (-a.n) = m) (wf : IntKind.i64.wrap (-f) = -f)
    (HF : Hid (∀ w, Calls Try.prog 26 #[.agg #[.int .i64 m, .int .i64 a.d]] w fun e w' => e = .returned (.int .i64 f) ∧ Below w.heap.size w w')) :
    Calls Try.prog 28 #[.agg #[.int .i64 a.n, .int .i64 a.d]] w fun e w' => e = .returned (.int .i64 (-f)) ∧ Below w.heap.size w w' := by
  obtain ⟨W, hW⟩ : ∃ W, W = Box1 a w := ⟨_, rfl⟩
  have P0 : HoldB a w.heap.size w W := by rw [hW]; exact box_at a w
  unfold Box1 at hW
  have HW := Lib.hid hW
  clear hW
  go_enter Try.func28, Try.ntmps28
  go_wp2_with fail
  rw [← HW.out]
  refine (HA.out _).mono ?_
  rintro e w1 ⟨rfl, b1⟩
  obtain ⟨c1, c2, c9, B1⟩ := box_keep b1 rfl P0
  go_wp2_with fail
  refine (HF.out _).mono ?_
  rintro e w2 ⟨rfl, b2⟩
  have B2 := Below.trans B1 (b2.mono B1.size)
  go_wp2_with fail
  go_ret
  exact ⟨rfl, B2⟩
theorem ceil_any (a : Q) (w : World) (ha : Q64 a) : Calls Try.prog 28 #[Qv a] w fun e w' => e = .returned (.int .i64 (ceilV a)) ∧ Below w.heap.size w w' := by
  unfold ceilV
  by_cases ra : rightB a = true
  rotate_left
  · rw [if_neg ra]
    rw [Bool.not_eq_true] at ra
    exact ceil_not a w (Lib.hid (right_end ha false ra))
  rw [if_pos ra]
  have hA := (right_iff a).1 ra
  have l1 := hA.lo; have l2 := hA.hi
  have hn := right_neg hA
  have hf := floor_bound hn
  have HF := fun w => floor_any (neg a) w (right_q64 hn)
  have e : floorV (neg a) = (-a.n) / a.d := by
    unfold floorV
    rw [(right_iff (neg a)).2 hn, if_pos rfl]
    rfl
  rw [e] at HF hf
  exact ceil_yes a _ _ w (Lib.hid (right_end ha true ra)) (IntWalk.i64_in _ (by omega)) (IntWalk.i64_in _ (by omega)) (Lib.hid HF)

theorem near_not (a : Q) (f : Int) (w : World) (HA : Hid (∀ w, Calls Try.prog 9 #[.agg #[.int .i64 a.n, .int .i64 a.d]] w fun e w' => e = .returned (.bool false) ∧ Below w.heap.size w w'))
    (HF : Hid (∀ w, Calls Try.prog 26 #[.agg #[.int .i64 a.n, .int .i64 a.d]] w fun e w' => e = .returned (.int .i64 f) ∧ Below w.heap.size w w')) :
    Calls Try.prog 30 #[.agg #[.int .i64 a.n, .int .i64 a.d]] w fun e w' => e = .returned (.int .i64 0) ∧ Below w.heap.size w w' := by
  obtain ⟨W, hW⟩ : ∃ W, W = Box1 a w := ⟨_, rfl⟩
  have P0 : HoldB a w.heap.size w W := by rw [hW]; exact box_at a w
  unfold Box1 at hW
  have HW := Lib.hid hW
  clear hW
  go_enter Try.func30, Try.ntmps30
  go_wp2_with fail
  rw [← HW.out]
  refine (HF.out _).mono ?_
  rintro e w1 ⟨rfl, b1⟩
  have P1 := box_keep b1 rfl P0
  obtain ⟨c1, c2, c9, B1⟩ := P1
  go_wp2_with fail
  refine (HA.out _).mono ?_
  rintro e w2 ⟨rfl, b2⟩
  have B2 := Below.trans B1 (b2.mono B1.size)
  go_wp2_with fail
  go_ret
  exact ⟨rfl, B2⟩
def nearR (f r d : Int) : Int := if d < 2 * r ∨ 2 * r = d ∧ f.tmod 2 ≠ 0 then f + 1 else f
theorem near_yes (a : Q) (f x r : Int) (w : World) (HA : Hid (∀ w, Calls Try.prog 9 #[.agg #[.int .i64 a.n, .int .i64 a.d]] w fun e w' => e = .returned (.bool true) ∧ Below w.heap.size w w'))
    (HF : Hid (∀ w, Calls Try.prog 26 #[.agg #[.int .i64 a.n, .int .i64 a.d]] w fun e w' => e = .returned (.int .i64 f) ∧ Below w.heap.size w w'))
    (ex : IntKind.i64.wrap (f * a.d) = x) (er : IntKind.i64.wrap (a.n - x) = r) (e2 : IntKind.i64.wrap (2 * r) = 2 * r) (e1 : IntKind.i64.wrap (f + 1) = f + 1) :
    Calls Try.prog 30 #[.agg #[.int .i64 a.n, .int .i64 a.d]] w fun e w' => e = .returned (.int .i64 (nearR f r a.d)) ∧ Below w.heap.size w w' := by
  obtain ⟨W, hW⟩ : ∃ W, W = Box1 a w := ⟨_, rfl⟩
  have P0 : HoldB a w.heap.size w W := by rw [hW]; exact box_at a w
  unfold Box1 at hW
  have HW := Lib.hid hW
  clear hW
  go_enter Try.func30, Try.ntmps30
  go_wp2_with fail
  rw [← HW.out]
  refine (HF.out _).mono ?_
  rintro e w1 ⟨rfl, b1⟩
  have P1 := box_keep b1 rfl P0
  obtain ⟨c1, c2, c9, B1⟩ := P1
  go_wp2_with fail
  refine (HA.out _).mono ?_
  rintro e w2 ⟨rfl, b2⟩
  have P2 := box_keep b2 rfl ⟨c1, c2, c9, B1⟩
  clear c1 c2 c9 B1
  obtain ⟨c1, c2, c9, B2⟩ := P2
  go_wp2_with fail
  all_goals go_ret
  all_goals first
    | (have hv : nearR f r a.d = f + 1 := by
         unfold nearR
         rw [if_pos]
         try simp only [bne_iff_ne, ne_eq] at *
         omega
       rw [hv]
       exact ⟨rfl, B2⟩)
    | (have hv : nearR f r a.d = f := by
         unfold nearR
         rw [if_neg]
         try simp only [ne_eq, bne_eq_false_iff_eq] at *
         omega
       rw [hv]
       exact ⟨rfl, B2⟩)

theorem near_any (a : Q) (w : World) (ha : Q64 a) : Calls Try.prog 30 #[Qv a] w fun e w' => e = .returned (.int .i64 (nearV a)) ∧ Below w.heap.size w w' := by
  unfold nearV
  by_cases ra : rightB a = true
  rotate_left
  · rw [if_neg ra]
    rw [Bool.not_eq_true] at ra
    exact near_not a _ w (Lib.hid (right_end ha false ra)) (Lib.hid fun w => floor_any a w ha)
  rw [if_pos ra]
  have hA := (right_iff a).1 ra
  have l1 := hA.lo; have l2 := hA.hi; have l3 := hA.den; have pA := hA.pos
  have hf := floor_bound hA
  have HF := fun w => floor_any a w ha
  have e : floorV a = a.n / a.d := by unfold floorV; rw [ra, if_pos rfl]
  rw [e] at HF hf
  have m0 := Int.emod_nonneg a.n (show a.d ≠ 0 by omega)
  have m1 := Int.emod_lt_of_pos a.n (show 0 < a.d by omega)
  have m2 := Int.mul_ediv_add_emod a.n a.d
  have m3 := Int.mul_comm a.d (a.n / a.d)
  have en : nearN a = nearR (a.n / a.d) (a.n % a.d) a.d := by
    unfold nearN nearR
    have : (a.n / a.d).tmod 2 ≠ 0 ↔ (a.n / a.d) % 2 ≠ 0 := by
      rw [ne_eq, ne_eq, ← Int.dvd_iff_emod_eq_zero, ← Int.dvd_iff_tmod_eq_zero]
    simp only [this]
  rw [en]
  exact near_yes a _ _ _ w (Lib.hid (right_end ha true ra)) (Lib.hid HF) rfl (by
    have : IntKind.i64.wrap (a.n / a.d * a.d) = a.n / a.d * a.d := IntWalk.i64_in _ (by omega)
    rw [this, show a.n - a.n / a.d * a.d = a.n % a.d by omega]
    exact IntWalk.i64_in _ (by omega)) (IntWalk.i64_in _ (by omega)) (IntWalk.i64_in _ (by omega))

end Go.Proofs.Ytfchbkhgoebagaa
