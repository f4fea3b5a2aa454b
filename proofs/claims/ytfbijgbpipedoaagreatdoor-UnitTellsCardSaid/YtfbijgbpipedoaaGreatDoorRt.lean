/- Walks of ratio's functions: Compare. -/
import Derived.Test.YtfbijgbpipedoaaGreatDoorRs
namespace Go.Proofs.YtfbijgbpipedoaaGreatDoor
open Go.RowKit Ra
attribute [local go_sem ↓] Go.wp_at_zero Go.wp_at_succ

/-- the boxes of a function's two ratios -/
def Par (a b : Q) (w : World) : World := (w.alloc (.cells #[.int .i64 a.n, .int .i64 a.d] 33)).alloc (.cells #[.int .i64 b.n, .int .i64 b.d] 33)
def HoldP (a b : Q) (k : Nat) (w0 wx : World) : Prop := wx.cell? ⟨k, 0, none⟩ = some (.int .i64 a.n) ∧ wx.cell? ⟨k, 1, none⟩ = some (.int .i64 a.d) ∧ wx.cell? ⟨k + 1, 0, none⟩ = some (.int .i64 b.n) ∧ wx.cell? ⟨k + 1, 1, none⟩ = some (.int .i64 b.d) ∧ k + 2 ≤ wx.heap.size ∧ Below k w0 wx
theorem par_at (a b : Q) (w : World) : HoldP a b w.heap.size w (Par a b w) := by
  refine ⟨?_, ?_, ?_, ?_, ?_, Below.alloc (Below.alloc (Below.refl _ _) (Nat.le_refl _) _) (by simp) _⟩ <;> simp [Par, go_sem]
theorem HoldP.size {a b : Q} {k : Nat} {w0 wx : World} (h : HoldP a b k w0 wx) : k + 2 ≤ wx.heap.size := h.2.2.2.2.1
theorem par_keep {a b : Q} {k B : Nat} {w0 wx w' : World} (hk : Below B wx w') (hB : B = wx.heap.size) (h : wx.cell? ⟨k, 0, none⟩ = some (.int .i64 a.n) ∧ wx.cell? ⟨k, 1, none⟩ = some (.int .i64 a.d) ∧ wx.cell? ⟨k + 1, 0, none⟩ = some (.int .i64 b.n) ∧ wx.cell? ⟨k + 1, 1, none⟩ = some (.int .i64 b.d) ∧ k + 2 ≤ wx.heap.size ∧ Below k w0 wx) : w'.cell? ⟨k, 0, none⟩ = some (.int .i64 a.n) ∧ w'.cell? ⟨k, 1, none⟩ = some (.int .i64 a.d) ∧ w'.cell? ⟨k + 1, 0, none⟩ = some (.int .i64 b.n) ∧ w'.cell? ⟨k + 1, 1, none⟩ = some (.int .i64 b.d) ∧ k + 2 ≤ w'.heap.size ∧ Below k w0 w' := by
  subst hB
  obtain ⟨h1, h2, h3, h4, h9, hb⟩ := h
  refine ⟨?_, ?_, ?_, ?_, ?_, Below.trans hb (hk.mono (by omega))⟩
  · rw [hk.cell (by simp only; omega)]; exact h1
  · rw [hk.cell (by simp only; omega)]; exact h2
  · rw [hk.cell (by simp only; omega)]; exact h3
  · rw [hk.cell (by simp only; omega)]; exact h4
  · exact Nat.le_trans h9 hk.size
theorem par_keep' {a b : Q} {k : Nat} {w0 wx w' : World} (h : wx.cell? ⟨k, 0, none⟩ = some (.int .i64 a.n) ∧ wx.cell? ⟨k, 1, none⟩ = some (.int .i64 a.d) ∧ wx.cell? ⟨k + 1, 0, none⟩ = some (.int .i64 b.n) ∧ wx.cell? ⟨k + 1, 1, none⟩ = some (.int .i64 b.d) ∧ k + 2 ≤ wx.heap.size ∧ Below k w0 wx) (hk : Below wx.heap.size wx w') : w'.cell? ⟨k, 0, none⟩ = some (.int .i64 a.n) ∧ w'.cell? ⟨k, 1, none⟩ = some (.int .i64 a.d) ∧ w'.cell? ⟨k + 1, 0, none⟩ = some (.int .i64 b.n) ∧ w'.cell? ⟨k + 1, 1, none⟩ = some (.int .i64 b.d) ∧ k + 2 ≤ w'.heap.size ∧ Below k w0 w' := par_keep hk rfl h
theorem par_far {a b : Q} {k G : Nat} {w0 wx : World} (x y : Value) (h : wx.cell? ⟨k, 0, none⟩ = some (.int .i64 a.n) ∧ wx.cell? ⟨k, 1, none⟩ = some (.int .i64 a.d) ∧ wx.cell? ⟨k + 1, 0, none⟩ = some (.int .i64 b.n) ∧ wx.cell? ⟨k + 1, 1, none⟩ = some (.int .i64 b.d) ∧ k + 2 ≤ wx.heap.size ∧ Below k w0 wx) (hG : k + 2 ≤ G) : ((wx.setCell ⟨G, 0, none⟩ x).setCell ⟨G, 1, none⟩ y).cell? ⟨k, 0, none⟩ = some (.int .i64 a.n) ∧ ((wx.setCell ⟨G, 0, none⟩ x).setCell ⟨G, 1, none⟩ y).cell? ⟨k, 1, none⟩ = some (.int .i64 a.d) ∧ ((wx.setCell ⟨G, 0, none⟩ x).setCell ⟨G, 1, none⟩ y).cell? ⟨k + 1, 0, none⟩ = some (.int .i64 b.n) ∧ ((wx.setCell ⟨G, 0, none⟩ x).setCell ⟨G, 1, none⟩ y).cell? ⟨k + 1, 1, none⟩ = some (.int .i64 b.d) ∧ k + 2 ≤ ((wx.setCell ⟨G, 0, none⟩ x).setCell ⟨G, 1, none⟩ y).heap.size ∧ Below k w0 ((wx.setCell ⟨G, 0, none⟩ x).setCell ⟨G, 1, none⟩ y) := by
  obtain ⟨h1, h2, h3, h4, h9, hb⟩ := h
  have n0 : ¬ G = k := by omega
  have n1 : ¬ G = k + 1 := by omega
  have m0 : ¬ k = G := by omega
  have m1 : ¬ k + 1 = G := by omega
  refine ⟨?_, ?_, ?_, ?_, ?_, Below.setCell (Below.setCell hb (by simp only; omega) _) (by simp only; omega) _⟩ <;> first | (simp [go_sem, *]; done) | (simp only [World.size_setCell]; omega)

theorem cmp_not1 (a b : Q) (w : World) (HA : Hid (∀ w, Calls Tryz.prog 61 #[.agg #[.int .i64 a.n, .int .i64 a.d]] w fun e w' => e = .returned (.bool false) ∧ Below w.heap.size w w')) :
    Calls Tryz.prog 43 #[.agg #[.int .i64 a.n, .int .i64 a.d], .agg #[.int .i64 b.n, .int .i64 b.d]] w fun e w' => e = .returned (.int .i64 0) ∧ Below w.heap.size w w' := by
  obtain ⟨W, hW⟩ : ∃ W, W = Par a b w := ⟨_, rfl⟩
  have P0 : HoldP a b w.heap.size w W := by rw [hW]; exact par_at a b w
  unfold Par at hW
  have HW := Lib.hid hW
  clear hW
  go_enter Tryz.func43, Tryz.ntmps43
  go_wp2_with fail
  rw [← HW.out]
  refine (HA.out _).mono ?_
  rintro e w1 ⟨rfl, b1⟩
  obtain ⟨c1, c2, c3, c4, c9, B1⟩ := par_keep b1 rfl P0
  go_wp2_with fail
  go_ret
  exact ⟨rfl, B1⟩
theorem cmp_not2 (a b : Q) (w : World) (HA : Hid (∀ w, Calls Tryz.prog 61 #[.agg #[.int .i64 a.n, .int .i64 a.d]] w fun e w' => e = .returned (.bool true) ∧ Below w.heap.size w w'))
    (HB : Hid (∀ w, Calls Tryz.prog 61 #[.agg #[.int .i64 b.n, .int .i64 b.d]] w fun e w' => e = .returned (.bool false) ∧ Below w.heap.size w w')) :
    Calls Tryz.prog 43 #[.agg #[.int .i64 a.n, .int .i64 a.d], .agg #[.int .i64 b.n, .int .i64 b.d]] w fun e w' => e = .returned (.int .i64 0) ∧ Below w.heap.size w w' := by
  obtain ⟨W, hW⟩ : ∃ W, W = Par a b w := ⟨_, rfl⟩
  have P0 : HoldP a b w.heap.size w W := by rw [hW]; exact par_at a b w
  unfold Par at hW
  have HW := Lib.hid hW
  clear hW
  go_enter Tryz.func43, Tryz.ntmps43
  go_wp2_with fail
  rw [← HW.out]
  refine (HA.out _).mono ?_
  rintro e w1 ⟨rfl, b1⟩
  obtain ⟨c1, c2, c3, c4, c9, B1⟩ := par_keep b1 rfl P0
  go_wp2_with fail
  refine (HB.out _).mono ?_
  rintro e w2 ⟨rfl, b2⟩
  have P2 := par_keep b2 rfl ⟨c1, c2, c3, c4, c9, B1⟩
  clear c1 c2 c3 c4 c9 B1
  obtain ⟨c1, c2, c3, c4, c9, B2⟩ := P2
  go_wp2_with fail
  go_ret
  exact ⟨rfl, B2⟩

set_option maxHeartbeats 4000000 in
theorem cmp_core (a b : Q) (ma mb minus : Bool) (p q D E t1 t0 s1 s0 u1 u0 : Nat) (c : Int) (w : World)
    (HA : Hid (∀ w, Calls Tryz.prog 61 #[.agg #[.int .i64 a.n, .int .i64 a.d]] w fun e w' => e = .returned (.bool true) ∧ Below w.heap.size w w'))
    (HB : Hid (∀ w, Calls Tryz.prog 61 #[.agg #[.int .i64 b.n, .int .i64 b.d]] w fun e w' => e = .returned (.bool true) ∧ Below w.heap.size w w'))
    (Hp : Hid (p = a.n.natAbs ∧ -9223372036854775808 ≤ a.n ∧ a.n ≤ 9223372036854775807)) (Hq : Hid (q = b.n.natAbs ∧ -9223372036854775808 ≤ b.n ∧ b.n ≤ 9223372036854775807))
    (Ht : Hid (Wv (p * E) = .agg #[.int .u64 (t1 : Int), .int .u64 (t0 : Int)] ∧ p < 18446744073709551616 ∧ E < 18446744073709551616))
    (Hs : Hid (Wv (q * D) = .agg #[.int .u64 (s1 : Int), .int .u64 (s0 : Int)] ∧ q < 18446744073709551616 ∧ D < 18446744073709551616))
    (HS : Hid (∀ w, Calls Tryz.prog 66 #[.agg #[.int .u64 (t1 : Int), .int .u64 (t0 : Int)], .bool ma, .agg #[.int .u64 (s1 : Int), .int .u64 (s0 : Int)], .bool mb] w fun e w' => e = .returned (.tuple #[.agg #[.int .u64 (u1 : Int), .int .u64 (u0 : Int)], .bool minus]) ∧ Below w.heap.size w w'))
    (HZ : Hid ((u1 = 0 ∧ u0 = 0 → c = 0) ∧ (¬ (u1 = 0 ∧ u0 = 0) → c = if minus then -1 else 1)))
    (ea : decide (a.n < 0) = ma) (eb : decide (0 ≤ b.n) = mb)
    (eD : IntKind.u64.wrap a.d = (D : Int)) (eE : IntKind.u64.wrap b.d = (E : Int)) :
    Calls Tryz.prog 43 #[.agg #[.int .i64 a.n, .int .i64 a.d], .agg #[.int .i64 b.n, .int .i64 b.d]] w fun e w' => e = .returned (.int .i64 c) ∧ Below w.heap.size w w' := by
  obtain ⟨W, hW⟩ : ∃ W, W = Par a b w := ⟨_, rfl⟩
  have P0 : HoldP a b w.heap.size w W := by rw [hW]; exact par_at a b w
  unfold Par at hW
  have HW := Lib.hid hW
  clear hW
  go_enter Tryz.func43, Tryz.ntmps43
  go_wp2_with fail
  rw [← HW.out]
  refine (HA.out _).mono ?_
  rintro e w1 ⟨rfl, b1⟩
  obtain ⟨c1, c2, c3, c4, c9, B1⟩ := par_keep b1 rfl P0
  go_wp2_with fail
  refine (HB.out _).mono ?_
  rintro e w2 ⟨rfl, b2⟩
  have P2 := par_keep b2 rfl ⟨c1, c2, c3, c4, c9, B1⟩
  clear c1 c2 c3 c4 c9 B1
  obtain ⟨c1, c2, c3, c4, c9, B2⟩ := P2
  go_upto_region 3 with fail
  go_cut [5, 6] (fun s9 s10 wx => ∃ G : Nat, s9 = .pointer (some ⟨G, 0, none⟩) ∧ s10 = .bool minus ∧ wx.cell? ⟨G, 0, none⟩ = some (.int .u64 (u1 : Int)) ∧ wx.cell? ⟨G, 1, none⟩ = some (.int .u64 (u0 : Int)) ∧ HoldP a b w.heap.size w wx)
  case first =>
    go_region_held3 (fun w' => w'.cell? ⟨w.heap.size, 0, none⟩ = some (.int .i64 a.n) ∧ w'.cell? ⟨w.heap.size, 1, none⟩ = some (.int .i64 a.d) ∧ w'.cell? ⟨w.heap.size + 1, 0, none⟩ = some (.int .i64 b.n) ∧ w'.cell? ⟨w.heap.size + 1, 1, none⟩ = some (.int .i64 b.d) ∧ w.heap.size + 2 ≤ w'.heap.size ∧ Below w.heap.size w w')
      (first
        | assumption
        | exact HH
        | exact par_keep' (by assumption) (Below.alloc (Below.refl _ _) (Nat.le_refl _) _)
        | exact par_far _ _ (by assumption) (by first | exact c9 | omega)
        | exact par_keep' HH (Below.alloc (Below.refl _ _) (Nat.le_refl _) _)
        | exact par_keep (Below.drew (Below.refl _ _)) rfl ⟨c1, c2, c3, c4, c9, B2⟩)
      (first
        | (go_at_call 68; refine (abs_of (by assumption) _).mono ?_; rintro e wt ⟨rfl, rfl⟩)
        | (go_at_call 67; refine (times_of (by assumption) _).mono ?_; rintro e wt ⟨rfl, bt⟩; have HH : HoldP a b w.heap.size w wt := par_keep bt rfl (by assumption); have sz := HH.size; (first | (have yy := pair_old bt rfl y0 y1 y2 y3; obtain ⟨y0, y1, y2, y3⟩ := yy) | (have yy := pair_new bt (by simp); obtain ⟨y0, y1, y2, y3⟩ := yy) | (have yy := pair_newd bt (by simp); obtain ⟨y0, y1, y2, y3⟩ := yy) | skip))
        | (go_at_call 66; refine (HS.out _).mono ?_; rintro e wt ⟨rfl, bt⟩; have HH : HoldP a b w.heap.size w wt := par_keep bt rfl (by assumption); have sz := HH.size; (first | (have yy := pair_old bt rfl y0 y1 y2 y3; obtain ⟨y0, y1, y2, y3⟩ := yy) | (have yy := pair_new bt (by simp); obtain ⟨y0, y1, y2, y3⟩ := yy) | (have yy := pair_newd bt (by simp); obtain ⟨y0, y1, y2, y3⟩ := yy) | skip)))
    all_goals go_wp2_with fail
    all_goals go_meet
    all_goals (refine ⟨_, rfl, rfl, by simp [go_sem, *], by simp [go_sem, *], by assumption⟩)
  case rest =>
    clear c1 c2 c3 c4 c9 B2
    obtain ⟨G, rfl, rfl, y0, y1, HH⟩ := hcut
    obtain ⟨c1, c2, c3, c4, c9, B5⟩ := HH
    go_upto_region 4 with (fail)
    go_cut [39] (fun s60 wx => s60 = .bool (decide (u1 = 0 ∧ u0 = 0)) ∧ wx = wc)
    case first =>
      go_wp2_with fail
      all_goals go_meet
      all_goals exact ⟨by simp [*], rfl⟩
    case rest =>
      obtain ⟨rfl, rfl⟩ := hcut
      by_cases hz : u1 = 0 ∧ u0 = 0
      · obtain rfl := HZ.out.1 hz
        have hd : decide (u1 = 0 ∧ u0 = 0) = true := decide_eq_true hz
        rw [hd]
        clear hd hz
        go_wp2_with fail
        go_ret
        exact ⟨rfl, B5⟩
      · obtain rfl := HZ.out.2 hz
        have hd : decide (u1 = 0 ∧ u0 = 0) = false := decide_eq_false hz
        rw [hd]
        clear hd hz
        cases minus
        · go_wp2_with fail
          go_ret
          exact ⟨rfl, B5⟩
        · go_wp2_with fail
          go_ret
          exact ⟨rfl, B5⟩

theorem cmp_any (a b : Q) (w : World) (ha : Q64 a) (hb : Q64 b) :
    Calls Tryz.prog 43 #[Qv a, Qv b] w fun e w' => e = .returned (.int .i64 (cmpV a b)) ∧ Below w.heap.size w w' := by
  unfold cmpV
  by_cases ra : rightB a = true
  rotate_left
  · rw [Bool.not_eq_true] at ra
    rw [ra]
    exact cmp_not1 a b w (Lib.hid (right_end ha false ra))
  by_cases rb : rightB b = true
  rotate_left
  · rw [Bool.not_eq_true] at rb
    rw [ra, rb]
    exact cmp_not2 a b w (Lib.hid (right_end ha true ra)) (Lib.hid (right_end hb false rb))
  rw [ra, rb]
  have hA := (right_iff a).1 ra
  have hB := (right_iff b).1 rb
  have pA := hA.pos
  have pB := hB.pos
  have l1 := hA.lo; have l2 := hA.hi; have l3 := hA.den
  have l4 := hB.lo; have l5 := hB.hi; have l6 := hB.den
  have wx : ∀ x : Nat, x < 18446744073709551616 → IntKind.u64.wrap (x : Int) = x := fun x h => IntWalk.u64_in _ (by omega)
  have hD : a.d = (a.d.natAbs : Int) := by omega
  have hE : b.d = (b.d.natAbs : Int) := by omega
  have sA : a.n.natAbs * b.d.natAbs < 170141183460469231731687303715884105728 := prod_small (by omega) (by omega)
  have sB : b.n.natAbs * a.d.natAbs < 170141183460469231731687303715884105728 := prod_small (by omega) (by omega)
  have HS := fun w => sum_any (decide (a.n < 0)) (decide (0 ≤ b.n)) _ _ w sA sB
  have hTl := sum_lt (decide (a.n < 0)) (decide (0 ≤ b.n)) _ _ sA sB
  have hsum := sum_signed (decide (a.n < 0)) (decide (0 ≤ b.n)) (a.n.natAbs * b.d.natAbs) (b.n.natAbs * a.d.natAbs)
  have e1 : signed (decide (a.n < 0)) (a.n.natAbs * b.d.natAbs) = a.n * b.d := by
    rw [← signed_mul, ← signed_natAbs]; congr 1; omega
  have e2 : signed (decide (0 ≤ b.n)) (b.n.natAbs * a.d.natAbs) = -(b.n * a.d) := by
    rw [← signed_mul, ← Int.neg_mul]
    congr 1
    · unfold signed
      by_cases h : 0 ≤ b.n <;> simp [h] <;> omega
    · omega
  rw [e1, e2, ← Int.sub_eq_add_neg] at hsum
  generalize sumT (decide (a.n < 0)) (decide (0 ≤ b.n)) (a.n.natAbs * b.d.natAbs) (b.n.natAbs * a.d.natAbs) = T at *
  generalize sumM (decide (a.n < 0)) (decide (0 ≤ b.n)) (a.n.natAbs * b.d.natAbs) (b.n.natAbs * a.d.natAbs) = minus at *
  refine cmp_core a b (decide (a.n < 0)) (decide (0 ≤ b.n)) minus a.n.natAbs b.n.natAbs a.d.natAbs b.d.natAbs _ _ _ _ (T / 18446744073709551616) (T % 18446744073709551616) _ w
    (Lib.hid (right_end ha true ra)) (Lib.hid (right_end hb true rb)) (Lib.hid ⟨rfl, by omega, by omega⟩) (Lib.hid ⟨rfl, by omega, by omega⟩) (Lib.hid ⟨rfl, by omega, by omega⟩) (Lib.hid ⟨rfl, by omega, by omega⟩)
    (Lib.hid HS) (Lib.hid ⟨fun h => ?_, fun h => ?_⟩) rfl rfl ?_ ?_
  · have h0 : T = 0 := wv_zero h
    simp only [Bool.and_self, if_true]
    unfold cmpN
    rw [← hsum, h0]
    cases minus <;> rfl
  · have h0 : T ≠ 0 := by intro h1; subst h1; exact h ⟨rfl, rfl⟩
    simp only [Bool.and_self, if_true]
    unfold cmpN
    rw [← hsum]
    unfold signed
    cases minus
    · simp only [Bool.false_eq_true, if_false]
      rw [if_neg (by omega), if_neg (by omega)]
    · simp only [if_true]
      rw [if_neg (by omega), if_pos (by omega)]
  · rw [hD]; simpa using wx a.d.natAbs (by omega)
  · rw [hE]; simpa using wx b.d.natAbs (by omega)

end Go.Proofs.YtfbijgbpipedoaaGreatDoor
