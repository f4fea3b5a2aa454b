/- Walks of ratio's functions: Mul, of right ratios that are not zero. -/
import Derived.Test.YtfbijgbpipedoaaGreatDoorRm
import Derived.Deep.RegionHeld3
import Derived.Deep.DrawnRows
namespace Go.Proofs.YtfbijgbpipedoaaGreatDoor
open Go.RowKit Ra
attribute [local go_sem ↓] Go.wp_at_zero Go.wp_at_succ

theorem two_keep {a b : Q} {k B : Nat} {w wx w' : World} (hk : Below B wx w') (hB : B = wx.heap.size) (h : wx.cell? ⟨k, 0, none⟩ = some (.int .i64 a.n) ∧ wx.cell? ⟨k, 1, none⟩ = some (.int .i64 a.d) ∧ wx.cell? ⟨k + 1, 0, none⟩ = some (.int .i64 b.n) ∧ wx.cell? ⟨k + 1, 1, none⟩ = some (.int .i64 b.d) ∧ (∃ v, wx.cell? ⟨k + 1 + 1, 0, none⟩ = some v) ∧ (∃ v, wx.cell? ⟨k + 1 + 1, 1, none⟩ = some v) ∧ wx.frozen? ⟨k + 1 + 1, 0, none⟩ = false ∧ wx.frozen? ⟨k + 1 + 1, 1, none⟩ = false ∧ k + 3 ≤ wx.heap.size ∧ Below k w wx) : w'.cell? ⟨k, 0, none⟩ = some (.int .i64 a.n) ∧ w'.cell? ⟨k, 1, none⟩ = some (.int .i64 a.d) ∧ w'.cell? ⟨k + 1, 0, none⟩ = some (.int .i64 b.n) ∧ w'.cell? ⟨k + 1, 1, none⟩ = some (.int .i64 b.d) ∧ (∃ v, w'.cell? ⟨k + 1 + 1, 0, none⟩ = some v) ∧ (∃ v, w'.cell? ⟨k + 1 + 1, 1, none⟩ = some v) ∧ w'.frozen? ⟨k + 1 + 1, 0, none⟩ = false ∧ w'.frozen? ⟨k + 1 + 1, 1, none⟩ = false ∧ k + 3 ≤ w'.heap.size ∧ Below k w w' := by
  subst hB
  obtain ⟨h1, h2, h3, h4, ⟨v1, h5⟩, ⟨v2, h6⟩, h7, h8, h9, hb⟩ := h
  refine ⟨?_, ?_, ?_, ?_, ⟨v1, ?_⟩, ⟨v2, ?_⟩, ?_, ?_, ?_, Below.trans hb (hk.mono (by omega))⟩
  · rw [hk.cell (by simp only; omega)]; exact h1
  · rw [hk.cell (by simp only; omega)]; exact h2
  · rw [hk.cell (by simp only; omega)]; exact h3
  · rw [hk.cell (by simp only; omega)]; exact h4
  · rw [hk.cell (by simp only; omega)]; exact h5
  · rw [hk.cell (by simp only; omega)]; exact h6
  · rw [hk.frozen (by simp only; omega)]; exact h7
  · rw [hk.frozen (by simp only; omega)]; exact h8
  · exact Nat.le_trans h9 hk.size
theorem two_set {a b : Q} {k : Nat} {w wx : World} (x y : Value) (h : wx.cell? ⟨k, 0, none⟩ = some (.int .i64 a.n) ∧ wx.cell? ⟨k, 1, none⟩ = some (.int .i64 a.d) ∧ wx.cell? ⟨k + 1, 0, none⟩ = some (.int .i64 b.n) ∧ wx.cell? ⟨k + 1, 1, none⟩ = some (.int .i64 b.d) ∧ (∃ v, wx.cell? ⟨k + 1 + 1, 0, none⟩ = some v) ∧ (∃ v, wx.cell? ⟨k + 1 + 1, 1, none⟩ = some v) ∧ wx.frozen? ⟨k + 1 + 1, 0, none⟩ = false ∧ wx.frozen? ⟨k + 1 + 1, 1, none⟩ = false ∧ k + 3 ≤ wx.heap.size ∧ Below k w wx) : (((wx.setCell ⟨k + 1 + 1, 0, none⟩ x).setCell ⟨k + 1 + 1, 1, none⟩ y)).cell? ⟨k, 0, none⟩ = some (.int .i64 a.n) ∧ (((wx.setCell ⟨k + 1 + 1, 0, none⟩ x).setCell ⟨k + 1 + 1, 1, none⟩ y)).cell? ⟨k, 1, none⟩ = some (.int .i64 a.d) ∧ (((wx.setCell ⟨k + 1 + 1, 0, none⟩ x).setCell ⟨k + 1 + 1, 1, none⟩ y)).cell? ⟨k + 1, 0, none⟩ = some (.int .i64 b.n) ∧ (((wx.setCell ⟨k + 1 + 1, 0, none⟩ x).setCell ⟨k + 1 + 1, 1, none⟩ y)).cell? ⟨k + 1, 1, none⟩ = some (.int .i64 b.d) ∧ (∃ v, (((wx.setCell ⟨k + 1 + 1, 0, none⟩ x).setCell ⟨k + 1 + 1, 1, none⟩ y)).cell? ⟨k + 1 + 1, 0, none⟩ = some v) ∧ (∃ v, (((wx.setCell ⟨k + 1 + 1, 0, none⟩ x).setCell ⟨k + 1 + 1, 1, none⟩ y)).cell? ⟨k + 1 + 1, 1, none⟩ = some v) ∧ (((wx.setCell ⟨k + 1 + 1, 0, none⟩ x).setCell ⟨k + 1 + 1, 1, none⟩ y)).frozen? ⟨k + 1 + 1, 0, none⟩ = false ∧ (((wx.setCell ⟨k + 1 + 1, 0, none⟩ x).setCell ⟨k + 1 + 1, 1, none⟩ y)).frozen? ⟨k + 1 + 1, 1, none⟩ = false ∧ k + 3 ≤ (((wx.setCell ⟨k + 1 + 1, 0, none⟩ x).setCell ⟨k + 1 + 1, 1, none⟩ y)).heap.size ∧ Below k w (((wx.setCell ⟨k + 1 + 1, 0, none⟩ x).setCell ⟨k + 1 + 1, 1, none⟩ y)) := by
  obtain ⟨h1, h2, h3, h4, ⟨v1, h5⟩, ⟨v2, h6⟩, h7, h8, h9, hb⟩ := h
  refine ⟨?_, ?_, ?_, ?_, ⟨x, ?_⟩, ⟨y, ?_⟩, ?_, ?_, ?_, Below.setCell (Below.setCell hb (by simp only; omega) _) (by simp only; omega) _⟩ <;> first | (simp [go_sem, *]; done) | (simp only [World.size_setCell]; omega)

set_option maxHeartbeats 4000000 in
theorem mul_core (a b : Q) (neg : Bool) (p q g h D E x1 x2 y1 y2 t1 t0 s1 s0 : Nat) (v u er : Int) (w : World)
    (HA : Hid (∀ w, Calls Tryz.prog 61 #[.agg #[.int .i64 a.n, .int .i64 a.d]] w fun e w' => e = .returned (.bool true) ∧ Below w.heap.size w w'))
    (HB : Hid (∀ w, Calls Tryz.prog 61 #[.agg #[.int .i64 b.n, .int .i64 b.d]] w fun e w' => e = .returned (.bool true) ∧ Below w.heap.size w w'))
    (Hp : Hid (p = a.n.natAbs ∧ -9223372036854775808 ≤ a.n ∧ a.n ≤ 9223372036854775807)) (Hq : Hid (q = b.n.natAbs ∧ -9223372036854775808 ≤ b.n ∧ b.n ≤ 9223372036854775807))
    (Hg : Hid (g = Nat.gcd p E ∧ p < 18446744073709551616 ∧ E < 18446744073709551616)) (Hh : Hid (h = Nat.gcd q D ∧ q < 18446744073709551616 ∧ D < 18446744073709551616))
    (Ht : Hid (Wv (x1 * x2) = .agg #[.int .u64 (t1 : Int), .int .u64 (t0 : Int)] ∧ x1 < 18446744073709551616 ∧ x2 < 18446744073709551616))
    (Hs : Hid (Wv (y1 * y2) = .agg #[.int .u64 (s1 : Int), .int .u64 (s0 : Int)] ∧ y1 < 18446744073709551616 ∧ y2 < 18446744073709551616))
    (HV : Hid (∀ w, Calls Tryz.prog 70 #[.bool neg, .agg #[.int .u64 (t1 : Int), .int .u64 (t0 : Int)], .agg #[.int .u64 (s1 : Int), .int .u64 (s0 : Int)]] w fun e w' => e = .returned (.tuple #[.agg #[.int .i64 v, .int .i64 u], .int .i64 er]) ∧ Below w.heap.size w w'))
    (g0 : ¬ g = 0) (h0 : ¬ h = 0) (q1 : (p : Int) / (g : Int) = (x1 : Int)) (q2 : (q : Int) / (h : Int) = (x2 : Int)) (q3 : (D : Int) / (h : Int) = (y1 : Int)) (q4 : (E : Int) / (g : Int) = (y2 : Int))
    (k1 : IntKind.u64.wrap (x1 : Int) = x1) (k2 : IntKind.u64.wrap (x2 : Int) = x2) (k3 : IntKind.u64.wrap (y1 : Int) = y1) (k4 : IntKind.u64.wrap (y2 : Int) = y2)
    (en : (decide (a.n < 0) == decide (b.n < 0)) = !neg)
    (eD : IntKind.u64.wrap a.d = (D : Int)) (eE : IntKind.u64.wrap b.d = (E : Int)) (na : (a.n == 0) = false) (nb : (b.n == 0) = false) :
    Calls Tryz.prog 62 #[.agg #[.int .i64 a.n, .int .i64 a.d], .agg #[.int .i64 b.n, .int .i64 b.d]] w fun e w' => e = .returned (.tuple #[.agg #[.int .i64 v, .int .i64 u], .int .i64 er]) ∧ Below w.heap.size w w' := by
  obtain ⟨W, hW⟩ : ∃ W, W = Two a b w := ⟨_, rfl⟩
  have T0 : TwoAt a b w.heap.size W := by rw [hW]; exact two_at a b w
  have B0 : Below w.heap.size w W := by rw [hW]; exact two_below a b w
  unfold Two at hW
  have HW := Lib.hid hW
  clear hW
  go_enter Tryz.func62, Tryz.ntmps62
  go_wp2_with fail
  rw [← HW.out]
  refine (HA.out _).mono ?_
  rintro e w1 ⟨rfl, b1⟩
  have T1 := T0.below b1
  have B1 := Below.trans B0 (b1.mono B0.size)
  obtain ⟨c1, c2, c3, c4, c5, c6, c7, c8, c9⟩ := T1
  go_wp2_with fail
  refine (HB.out _).mono ?_
  rintro e w2 ⟨rfl, b2⟩
  have T2 := TwoAt.below ⟨c1, c2, c3, c4, c5, c6, c7, c8, c9⟩ b2
  have B2 := Below.trans B1 (b2.mono B1.size)
  clear c1 c2 c3 c4 c5 c6 c7 c8 c9
  obtain ⟨c1, c2, c3, c4, c5, c6, c7, c8, c9⟩ := T2
  go_wp2_with fail
  go_quiet ((go_at_call 68; exact Calls.quiet_of_same (abs_of (by assumption) _)))
  go_wp2_with fail
  go_quiet ((go_at_call 65; exact gcd_quiet (by assumption) _ _ _))
  go_wp2_with fail
  go_region_held3 (fun w' => w'.cell? ⟨w.heap.size, 0, none⟩ = some (.int .i64 a.n) ∧ w'.cell? ⟨w.heap.size, 1, none⟩ = some (.int .i64 a.d) ∧ w'.cell? ⟨w.heap.size + 1, 0, none⟩ = some (.int .i64 b.n) ∧ w'.cell? ⟨w.heap.size + 1, 1, none⟩ = some (.int .i64 b.d) ∧ (∃ v, w'.cell? ⟨w.heap.size + 1 + 1, 0, none⟩ = some v) ∧ (∃ v, w'.cell? ⟨w.heap.size + 1 + 1, 1, none⟩ = some v) ∧ w'.frozen? ⟨w.heap.size + 1 + 1, 0, none⟩ = false ∧ w'.frozen? ⟨w.heap.size + 1 + 1, 1, none⟩ = false ∧ w.heap.size + 3 ≤ w'.heap.size ∧ Below w.heap.size w w')
    (first
      | exact two_keep bt rfl (two_keep (below_drewN (Below.refl _ _) _) rfl ⟨c1, c2, c3, c4, ⟨_, c5⟩, ⟨_, c6⟩, c7, c8, c9, B2⟩)
      | exact two_keep bt rfl (by assumption)
      | exact two_set _ _ (by assumption)
      | exact two_keep (Below.drew (below_drewN (below_drewN (Below.refl _ _) _) _)) rfl ⟨c1, c2, c3, c4, ⟨_, c5⟩, ⟨_, c6⟩, c7, c8, c9, B2⟩)
    (first
      | (go_at_call 67; refine (times_of (by assumption) _).mono ?_; rintro e wt ⟨rfl, bt⟩)
      | (go_at_call 70; refine (HV.out _).mono ?_; rintro e wt ⟨rfl, bt⟩; obtain ⟨k1, k2, k3, k4, ⟨z0, k5⟩, ⟨z1, k6⟩, k7, k8, k9, k10⟩ := two_keep bt rfl (by assumption)))
  all_goals go_wp2_with fail
  all_goals
    refine bodyPost_ret (v := .tuple #[.agg #[.int .i64 v, .int .i64 u], .int .i64 er]) (by simp [results, Tryz.results62, go_sem, *]) rfl ⟨rfl, ?_⟩
    exact Below.setCell (Below.setCell k10 (by simp only; omega) _) (by simp only; omega) _

end Go.Proofs.YtfbijgbpipedoaaGreatDoor
