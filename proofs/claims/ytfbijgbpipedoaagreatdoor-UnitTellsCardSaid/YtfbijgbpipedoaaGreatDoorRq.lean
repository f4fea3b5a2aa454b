/- Walks of ratio's functions: Add, of right ratios. -/
import Derived.Test.YtfbijgbpipedoaaGreatDoorRp
import Derived.Deep.RegionHeld3
import Derived.Deep.DrawnRows
import Derived.Deep.DeepCutAuto
namespace Go.Proofs.YtfbijgbpipedoaaGreatDoor
open Go.RowKit Ra
attribute [local go_sem ↓] Go.wp_at_zero Go.wp_at_succ

def Hold2 (a b : Q) (k : Nat) (w0 wx : World) : Prop := wx.cell? ⟨k, 0, none⟩ = some (.int .i64 a.n) ∧ wx.cell? ⟨k, 1, none⟩ = some (.int .i64 a.d) ∧ wx.cell? ⟨k + 1, 0, none⟩ = some (.int .i64 b.n) ∧ wx.cell? ⟨k + 1, 1, none⟩ = some (.int .i64 b.d) ∧ (∃ v, wx.cell? ⟨k + 1 + 1, 0, none⟩ = some v) ∧ (∃ v, wx.cell? ⟨k + 1 + 1, 1, none⟩ = some v) ∧ wx.frozen? ⟨k + 1 + 1, 0, none⟩ = false ∧ wx.frozen? ⟨k + 1 + 1, 1, none⟩ = false ∧ k + 3 ≤ wx.heap.size ∧ Below k w0 wx
theorem two_keep' {a b : Q} {k : Nat} {w0 wx w' : World} (h : wx.cell? ⟨k, 0, none⟩ = some (.int .i64 a.n) ∧ wx.cell? ⟨k, 1, none⟩ = some (.int .i64 a.d) ∧ wx.cell? ⟨k + 1, 0, none⟩ = some (.int .i64 b.n) ∧ wx.cell? ⟨k + 1, 1, none⟩ = some (.int .i64 b.d) ∧ (∃ v, wx.cell? ⟨k + 1 + 1, 0, none⟩ = some v) ∧ (∃ v, wx.cell? ⟨k + 1 + 1, 1, none⟩ = some v) ∧ wx.frozen? ⟨k + 1 + 1, 0, none⟩ = false ∧ wx.frozen? ⟨k + 1 + 1, 1, none⟩ = false ∧ k + 3 ≤ wx.heap.size ∧ Below k w0 wx) (hk : Below wx.heap.size wx w') : w'.cell? ⟨k, 0, none⟩ = some (.int .i64 a.n) ∧ w'.cell? ⟨k, 1, none⟩ = some (.int .i64 a.d) ∧ w'.cell? ⟨k + 1, 0, none⟩ = some (.int .i64 b.n) ∧ w'.cell? ⟨k + 1, 1, none⟩ = some (.int .i64 b.d) ∧ (∃ v, w'.cell? ⟨k + 1 + 1, 0, none⟩ = some v) ∧ (∃ v, w'.cell? ⟨k + 1 + 1, 1, none⟩ = some v) ∧ w'.frozen? ⟨k + 1 + 1, 0, none⟩ = false ∧ w'.frozen? ⟨k + 1 + 1, 1, none⟩ = false ∧ k + 3 ≤ w'.heap.size ∧ Below k w0 w' := two_keep hk rfl h

theorem Hold2.size {a b : Q} {k : Nat} {w0 wx : World} (h : Hold2 a b k w0 wx) : k + 3 ≤ wx.heap.size := h.2.2.2.2.2.2.2.2.1
theorem two_far {a b : Q} {k G : Nat} {w0 wx : World} (x y : Value) (h : wx.cell? ⟨k, 0, none⟩ = some (.int .i64 a.n) ∧ wx.cell? ⟨k, 1, none⟩ = some (.int .i64 a.d) ∧ wx.cell? ⟨k + 1, 0, none⟩ = some (.int .i64 b.n) ∧ wx.cell? ⟨k + 1, 1, none⟩ = some (.int .i64 b.d) ∧ (∃ v, wx.cell? ⟨k + 1 + 1, 0, none⟩ = some v) ∧ (∃ v, wx.cell? ⟨k + 1 + 1, 1, none⟩ = some v) ∧ wx.frozen? ⟨k + 1 + 1, 0, none⟩ = false ∧ wx.frozen? ⟨k + 1 + 1, 1, none⟩ = false ∧ k + 3 ≤ wx.heap.size ∧ Below k w0 wx) (hG : k + 3 ≤ G) : ((wx.setCell ⟨G, 0, none⟩ x).setCell ⟨G, 1, none⟩ y).cell? ⟨k, 0, none⟩ = some (.int .i64 a.n) ∧ ((wx.setCell ⟨G, 0, none⟩ x).setCell ⟨G, 1, none⟩ y).cell? ⟨k, 1, none⟩ = some (.int .i64 a.d) ∧ ((wx.setCell ⟨G, 0, none⟩ x).setCell ⟨G, 1, none⟩ y).cell? ⟨k + 1, 0, none⟩ = some (.int .i64 b.n) ∧ ((wx.setCell ⟨G, 0, none⟩ x).setCell ⟨G, 1, none⟩ y).cell? ⟨k + 1, 1, none⟩ = some (.int .i64 b.d) ∧ (∃ v, ((wx.setCell ⟨G, 0, none⟩ x).setCell ⟨G, 1, none⟩ y).cell? ⟨k + 1 + 1, 0, none⟩ = some v) ∧ (∃ v, ((wx.setCell ⟨G, 0, none⟩ x).setCell ⟨G, 1, none⟩ y).cell? ⟨k + 1 + 1, 1, none⟩ = some v) ∧ ((wx.setCell ⟨G, 0, none⟩ x).setCell ⟨G, 1, none⟩ y).frozen? ⟨k + 1 + 1, 0, none⟩ = false ∧ ((wx.setCell ⟨G, 0, none⟩ x).setCell ⟨G, 1, none⟩ y).frozen? ⟨k + 1 + 1, 1, none⟩ = false ∧ k + 3 ≤ ((wx.setCell ⟨G, 0, none⟩ x).setCell ⟨G, 1, none⟩ y).heap.size ∧ Below k w0 ((wx.setCell ⟨G, 0, none⟩ x).setCell ⟨G, 1, none⟩ y) := by
  obtain ⟨h1, h2, h3, h4, ⟨v1, h5⟩, ⟨v2, h6⟩, h7, h8, h9, hb⟩ := h
  have n0 : ¬ G = k := by omega
  have n1 : ¬ G = k + 1 := by omega
  have n2 : ¬ G = k + 1 + 1 := by omega
  have m0 : ¬ k = G := by omega
  have m1 : ¬ k + 1 = G := by omega
  have m2 : ¬ k + 1 + 1 = G := by omega
  refine ⟨?_, ?_, ?_, ?_, ⟨v1, ?_⟩, ⟨v2, ?_⟩, ?_, ?_, ?_, Below.setCell (Below.setCell hb (by simp only; omega) _) (by simp only; omega) _⟩ <;> first | (simp [go_sem, *]; done) | (simp only [World.size_setCell]; omega)
theorem pair_new {X wt : World} {B : Nat} {x y : Value} {t : TypeId} (h : Below B (X.alloc (.cells #[x, y] t)) wt) (hB : X.heap.size < B) : wt.cell? ⟨X.heap.size, 0, none⟩ = some x ∧ wt.cell? ⟨X.heap.size, 1, none⟩ = some y ∧ wt.frozen? ⟨X.heap.size, 0, none⟩ = false ∧ wt.frozen? ⟨X.heap.size, 1, none⟩ = false := by
  refine ⟨?_, ?_, ?_, ?_⟩
  · rw [h.cell (by simp only; omega)]; simp
  · rw [h.cell (by simp only; omega)]; simp
  · rw [h.frozen (by simp only; omega)]; simp
  · rw [h.frozen (by simp only; omega)]; simp
theorem pair_newd {X wt : World} {B : Nat} {x y : Value} {t : TypeId} (h : Below B (X.alloc (.cells #[x, y] t)).drew wt) (hB : X.heap.size < B) : wt.cell? ⟨X.heap.size, 0, none⟩ = some x ∧ wt.cell? ⟨X.heap.size, 1, none⟩ = some y ∧ wt.frozen? ⟨X.heap.size, 0, none⟩ = false ∧ wt.frozen? ⟨X.heap.size, 1, none⟩ = false := by
  refine ⟨?_, ?_, ?_, ?_⟩
  · rw [h.cell (by simp only; omega)]; simp
  · rw [h.cell (by simp only; omega)]; simp
  · rw [h.frozen (by simp only; omega)]; simp
  · rw [h.frozen (by simp only; omega)]; simp
theorem pair_old {X wt : World} {B G : Nat} {x y : Value} (h : Below B X wt) (hB : X.heap.size = B) (h0 : X.cell? ⟨G, 0, none⟩ = some x) (h1 : X.cell? ⟨G, 1, none⟩ = some y) (h2 : X.frozen? ⟨G, 0, none⟩ = false) (h3 : X.frozen? ⟨G, 1, none⟩ = false) :
    wt.cell? ⟨G, 0, none⟩ = some x ∧ wt.cell? ⟨G, 1, none⟩ = some y ∧ wt.frozen? ⟨G, 0, none⟩ = false ∧ wt.frozen? ⟨G, 1, none⟩ = false := by
  have hl := World.block_lt_of_cell? X _ h0
  simp only at hl
  refine ⟨?_, ?_, ?_, ?_⟩
  · rw [h.cell (by simp only; omega)]; exact h0
  · rw [h.cell (by simp only; omega)]; exact h1
  · rw [h.frozen (by simp only; omega)]; exact h2
  · rw [h.frozen (by simp only; omega)]; exact h3

theorem three_keep {a b : Q} {k B G : Nat} {x y : Value} {w0 wx w' : World} (hk : Below B wx w') (hB : B = wx.heap.size) (h : (wx.cell? ⟨G, 0, none⟩ = some x ∧ wx.cell? ⟨G, 1, none⟩ = some y) ∧ wx.cell? ⟨k, 0, none⟩ = some (.int .i64 a.n) ∧ wx.cell? ⟨k, 1, none⟩ = some (.int .i64 a.d) ∧ wx.cell? ⟨k + 1, 0, none⟩ = some (.int .i64 b.n) ∧ wx.cell? ⟨k + 1, 1, none⟩ = some (.int .i64 b.d) ∧ (∃ v, wx.cell? ⟨k + 1 + 1, 0, none⟩ = some v) ∧ (∃ v, wx.cell? ⟨k + 1 + 1, 1, none⟩ = some v) ∧ wx.frozen? ⟨k + 1 + 1, 0, none⟩ = false ∧ wx.frozen? ⟨k + 1 + 1, 1, none⟩ = false ∧ k + 3 ≤ wx.heap.size ∧ Below k w0 wx) : (w'.cell? ⟨G, 0, none⟩ = some x ∧ w'.cell? ⟨G, 1, none⟩ = some y) ∧ w'.cell? ⟨k, 0, none⟩ = some (.int .i64 a.n) ∧ w'.cell? ⟨k, 1, none⟩ = some (.int .i64 a.d) ∧ w'.cell? ⟨k + 1, 0, none⟩ = some (.int .i64 b.n) ∧ w'.cell? ⟨k + 1, 1, none⟩ = some (.int .i64 b.d) ∧ (∃ v, w'.cell? ⟨k + 1 + 1, 0, none⟩ = some v) ∧ (∃ v, w'.cell? ⟨k + 1 + 1, 1, none⟩ = some v) ∧ w'.frozen? ⟨k + 1 + 1, 0, none⟩ = false ∧ w'.frozen? ⟨k + 1 + 1, 1, none⟩ = false ∧ k + 3 ≤ w'.heap.size ∧ Below k w0 w' := by
  obtain ⟨⟨g0, g1⟩, h⟩ := h
  have hl := World.block_lt_of_cell? wx _ g0
  simp only at hl
  refine ⟨⟨?_, ?_⟩, two_keep hk hB h⟩
  · rw [hk.cell (by simp only; omega)]; exact g0
  · rw [hk.cell (by simp only; omega)]; exact g1
theorem three_set {a b : Q} {k G : Nat} {x y : Value} {w0 wx : World} (n1 n2 : Value) (h : (wx.cell? ⟨G, 0, none⟩ = some x ∧ wx.cell? ⟨G, 1, none⟩ = some y) ∧ wx.cell? ⟨k, 0, none⟩ = some (.int .i64 a.n) ∧ wx.cell? ⟨k, 1, none⟩ = some (.int .i64 a.d) ∧ wx.cell? ⟨k + 1, 0, none⟩ = some (.int .i64 b.n) ∧ wx.cell? ⟨k + 1, 1, none⟩ = some (.int .i64 b.d) ∧ (∃ v, wx.cell? ⟨k + 1 + 1, 0, none⟩ = some v) ∧ (∃ v, wx.cell? ⟨k + 1 + 1, 1, none⟩ = some v) ∧ wx.frozen? ⟨k + 1 + 1, 0, none⟩ = false ∧ wx.frozen? ⟨k + 1 + 1, 1, none⟩ = false ∧ k + 3 ≤ wx.heap.size ∧ Below k w0 wx) (hG : k + 3 ≤ G) : (((wx.setCell ⟨k + 1 + 1, 0, none⟩ n1).setCell ⟨k + 1 + 1, 1, none⟩ n2).cell? ⟨G, 0, none⟩ = some x ∧ ((wx.setCell ⟨k + 1 + 1, 0, none⟩ n1).setCell ⟨k + 1 + 1, 1, none⟩ n2).cell? ⟨G, 1, none⟩ = some y) ∧ ((wx.setCell ⟨k + 1 + 1, 0, none⟩ n1).setCell ⟨k + 1 + 1, 1, none⟩ n2).cell? ⟨k, 0, none⟩ = some (.int .i64 a.n) ∧ ((wx.setCell ⟨k + 1 + 1, 0, none⟩ n1).setCell ⟨k + 1 + 1, 1, none⟩ n2).cell? ⟨k, 1, none⟩ = some (.int .i64 a.d) ∧ ((wx.setCell ⟨k + 1 + 1, 0, none⟩ n1).setCell ⟨k + 1 + 1, 1, none⟩ n2).cell? ⟨k + 1, 0, none⟩ = some (.int .i64 b.n) ∧ ((wx.setCell ⟨k + 1 + 1, 0, none⟩ n1).setCell ⟨k + 1 + 1, 1, none⟩ n2).cell? ⟨k + 1, 1, none⟩ = some (.int .i64 b.d) ∧ (∃ v, ((wx.setCell ⟨k + 1 + 1, 0, none⟩ n1).setCell ⟨k + 1 + 1, 1, none⟩ n2).cell? ⟨k + 1 + 1, 0, none⟩ = some v) ∧ (∃ v, ((wx.setCell ⟨k + 1 + 1, 0, none⟩ n1).setCell ⟨k + 1 + 1, 1, none⟩ n2).cell? ⟨k + 1 + 1, 1, none⟩ = some v) ∧ ((wx.setCell ⟨k + 1 + 1, 0, none⟩ n1).setCell ⟨k + 1 + 1, 1, none⟩ n2).frozen? ⟨k + 1 + 1, 0, none⟩ = false ∧ ((wx.setCell ⟨k + 1 + 1, 0, none⟩ n1).setCell ⟨k + 1 + 1, 1, none⟩ n2).frozen? ⟨k + 1 + 1, 1, none⟩ = false ∧ k + 3 ≤ ((wx.setCell ⟨k + 1 + 1, 0, none⟩ n1).setCell ⟨k + 1 + 1, 1, none⟩ n2).heap.size ∧ Below k w0 ((wx.setCell ⟨k + 1 + 1, 0, none⟩ n1).setCell ⟨k + 1 + 1, 1, none⟩ n2) := by
  obtain ⟨⟨g0, g1⟩, h⟩ := h
  have n2 : ¬ G = k + 1 + 1 := by omega
  have m2 : ¬ k + 1 + 1 = G := by omega
  refine ⟨⟨?_, ?_⟩, two_set _ _ h⟩ <;> simp [go_sem, *]

set_option maxHeartbeats 4000000 in
theorem add_core (a b : Q) (ma mb minus : Bool) (p q g l r D E t1 t0 s1 s0 u1 u0 rm k y o1 o0 v1 v0 : Nat) (v u er : Int) (w : World)
    (HA : Hid (∀ w, Calls Tryz.prog 61 #[.agg #[.int .i64 a.n, .int .i64 a.d]] w fun e w' => e = .returned (.bool true) ∧ Below w.heap.size w w'))
    (HB : Hid (∀ w, Calls Tryz.prog 61 #[.agg #[.int .i64 b.n, .int .i64 b.d]] w fun e w' => e = .returned (.bool true) ∧ Below w.heap.size w w'))
    (HG : Hid (∀ w, Calls Tryz.prog 65 #[.int .u64 (D : Int), .int .u64 (E : Int)] w fun e w' => e = .returned (.int .u64 (g : Int)) ∧ Below w.heap.size w w'))
    (Hp : Hid (p = a.n.natAbs ∧ -9223372036854775808 ≤ a.n ∧ a.n ≤ 9223372036854775807)) (Hq : Hid (q = b.n.natAbs ∧ -9223372036854775808 ≤ b.n ∧ b.n ≤ 9223372036854775807))
    (Ht : Hid (Wv (p * r) = .agg #[.int .u64 (t1 : Int), .int .u64 (t0 : Int)] ∧ p < 18446744073709551616 ∧ r < 18446744073709551616))
    (Hs : Hid (Wv (q * l) = .agg #[.int .u64 (s1 : Int), .int .u64 (s0 : Int)] ∧ q < 18446744073709551616 ∧ l < 18446744073709551616))
    (HS : Hid (∀ w, Calls Tryz.prog 66 #[.agg #[.int .u64 (t1 : Int), .int .u64 (t0 : Int)], .bool ma, .agg #[.int .u64 (s1 : Int), .int .u64 (s0 : Int)], .bool mb] w fun e w' => e = .returned (.tuple #[.agg #[.int .u64 (u1 : Int), .int .u64 (u0 : Int)], .bool minus]) ∧ Below w.heap.size w w'))
    (HR : Hid (∀ w, Calls Tryz.prog 69 #[.int .u64 (u1 : Int), .int .u64 (u0 : Int), .int .u64 (g : Int)] w fun e w' => e = .returned (.int .u64 (rm : Int)) ∧ Below w.heap.size w w'))
    (HK : Hid (∀ w, Calls Tryz.prog 65 #[.int .u64 (g : Int), .int .u64 (rm : Int)] w fun e w' => e = .returned (.int .u64 (k : Int)) ∧ Below w.heap.size w w'))
    (HO : Hid (∀ w, Calls Tryz.prog 71 #[.agg #[.int .u64 (u1 : Int), .int .u64 (u0 : Int)], .int .u64 (k : Int)] w fun e w' => e = .returned (.agg #[.int .u64 (o1 : Int), .int .u64 (o0 : Int)]) ∧ Below w.heap.size w w'))
    (HY : Hid (∀ w, Calls Tryz.prog 67 #[.int .u64 (l : Int), .int .u64 (y : Int)] w fun e w' => e = .returned (.agg #[.int .u64 (v1 : Int), .int .u64 (v0 : Int)]) ∧ Below w.heap.size w w'))
    (HV : Hid (¬ (u1 = 0 ∧ u0 = 0) → ∀ w, Calls Tryz.prog 70 #[.bool minus, .agg #[.int .u64 (o1 : Int), .int .u64 (o0 : Int)], .agg #[.int .u64 (v1 : Int), .int .u64 (v0 : Int)]] w fun e w' => e = .returned (.tuple #[.agg #[.int .i64 v, .int .i64 u], .int .i64 er]) ∧ Below w.heap.size w w'))
    (HZ : Hid (u1 = 0 ∧ u0 = 0 → v = 0 ∧ u = 1 ∧ er = 0))
    (k0 : ¬ k = 0) (q3 : (E : Int) / (k : Int) = (y : Int)) (k3 : IntKind.u64.wrap (y : Int) = y)
    (g0 : ¬ g = 0) (q1 : (D : Int) / (g : Int) = (l : Int)) (q2 : (E : Int) / (g : Int) = (r : Int))
    (k1 : IntKind.u64.wrap (l : Int) = l) (k2 : IntKind.u64.wrap (r : Int) = r)
    (ea : decide (a.n < 0) = ma) (eb : decide (b.n < 0) = mb)
    (eD : IntKind.u64.wrap a.d = (D : Int)) (eE : IntKind.u64.wrap b.d = (E : Int)) :
    Calls Tryz.prog 41 #[.agg #[.int .i64 a.n, .int .i64 a.d], .agg #[.int .i64 b.n, .int .i64 b.d]] w fun e w' => e = .returned (.tuple #[.agg #[.int .i64 v, .int .i64 u], .int .i64 er]) ∧ Below w.heap.size w w' := by
  obtain ⟨W, hW⟩ : ∃ W, W = Two a b w := ⟨_, rfl⟩
  have T0 : TwoAt a b w.heap.size W := by rw [hW]; exact two_at a b w
  have B0 : Below w.heap.size w W := by rw [hW]; exact two_below a b w
  unfold Two at hW
  have HW := Lib.hid hW
  clear hW
  go_enter Tryz.func41, Tryz.ntmps41
  go_wp2_with fail
  rw [← HW.out]
  refine (HA.out _).mono ?_
  rintro e w1 ⟨rfl, b1⟩
  have T1 := T0.below b1
  have B1 := Below.trans B0 (b1.mono B0.size)
  obtain ⟨c1, c2, c3, c4, c5, c6, c7, c8, c9⟩ := T1
  go_wp2_with fail
  refine (HB.out _).mono ?_
  rintro e w2 ⟨rfl, b2⟩
  have T2 := TwoAt.below ⟨c1, c2, c3, c4, c5, c6, c7, c8, c9⟩ b2
  have B2 := Below.trans B1 (b2.mono B1.size)
  clear c1 c2 c3 c4 c5 c6 c7 c8 c9
  obtain ⟨c1, c2, c3, c4, c5, c6, c7, c8, c9⟩ := T2
  go_wp2_with fail
  refine (HG.out _).mono ?_
  rintro e w3 ⟨rfl, b3⟩
  have T3 := TwoAt.below ⟨c1, c2, c3, c4, c5, c6, c7, c8, c9⟩ b3
  have B3 := Below.trans B2 (b3.mono B2.size)
  clear c1 c2 c3 c4 c5 c6 c7 c8 c9
  obtain ⟨c1, c2, c3, c4, c5, c6, c7, c8, c9⟩ := T3
  go_wp2_with fail
  go_quiet (fail)
  go_upto_region 5 with fail
  have KK := two_keep (below_drewN (Below.refl _ _) nq) rfl ⟨c1, c2, c3, c4, ⟨_, c5⟩, ⟨_, c6⟩, c7, c8, c9, B3⟩
  generalize w3.drewN nq = w4 at *
  clear c1 c2 c3 c4 c5 c6 c7 c8 c9
  obtain ⟨c1, c2, c3, c4, ⟨z5, c5⟩, ⟨z6, c6⟩, c7, c8, c9, B4⟩ := KK
  go_cut [9, 10] (fun s9 s10 wx => ∃ G : Nat, s9 = .pointer (some ⟨G, 0, none⟩) ∧ s10 = .bool minus ∧ wx.cell? ⟨G, 0, none⟩ = some (.int .u64 (u1 : Int)) ∧ wx.cell? ⟨G, 1, none⟩ = some (.int .u64 (u0 : Int)) ∧ w.heap.size + 3 ≤ G ∧ Hold2 a b w.heap.size w wx)
  case first =>
    go_region_held3 (fun w' => w'.cell? ⟨w.heap.size, 0, none⟩ = some (.int .i64 a.n) ∧ w'.cell? ⟨w.heap.size, 1, none⟩ = some (.int .i64 a.d) ∧ w'.cell? ⟨w.heap.size + 1, 0, none⟩ = some (.int .i64 b.n) ∧ w'.cell? ⟨w.heap.size + 1, 1, none⟩ = some (.int .i64 b.d) ∧ (∃ v, w'.cell? ⟨w.heap.size + 1 + 1, 0, none⟩ = some v) ∧ (∃ v, w'.cell? ⟨w.heap.size + 1 + 1, 1, none⟩ = some v) ∧ w'.frozen? ⟨w.heap.size + 1 + 1, 0, none⟩ = false ∧ w'.frozen? ⟨w.heap.size + 1 + 1, 1, none⟩ = false ∧ w.heap.size + 3 ≤ w'.heap.size ∧ Below w.heap.size w w')
      (first
        | assumption
        | exact HH
        | exact two_keep' (by assumption) (Below.alloc (Below.refl _ _) (Nat.le_refl _) _)
        | exact two_far _ _ (by assumption) (by first | exact c9 | omega)
        | exact two_keep' HH (Below.alloc (Below.refl _ _) (Nat.le_refl _) _)
        | exact two_keep (Below.drew (Below.refl _ _)) rfl ⟨c1, c2, c3, c4, ⟨_, c5⟩, ⟨_, c6⟩, c7, c8, c9, B4⟩)
      (first
        | (go_at_call 68; refine (abs_of (by assumption) _).mono ?_; rintro e wt ⟨rfl, rfl⟩)
        | (go_at_call 67; refine (times_of (by assumption) _).mono ?_; rintro e wt ⟨rfl, bt⟩; have HH : Hold2 a b w.heap.size w wt := two_keep bt rfl (by assumption); have sz := HH.size; (first | (have yy := pair_old bt rfl y0 y1 y2 y3; obtain ⟨y0, y1, y2, y3⟩ := yy) | (have yy := pair_new bt (by simp); obtain ⟨y0, y1, y2, y3⟩ := yy) | (have yy := pair_newd bt (by simp); obtain ⟨y0, y1, y2, y3⟩ := yy) | skip))
        | (go_at_call 66; refine (HS.out _).mono ?_; rintro e wt ⟨rfl, bt⟩; have HH : Hold2 a b w.heap.size w wt := two_keep bt rfl (by assumption); have sz := HH.size; (first | (have yy := pair_old bt rfl y0 y1 y2 y3; obtain ⟨y0, y1, y2, y3⟩ := yy) | (have yy := pair_new bt (by simp); obtain ⟨y0, y1, y2, y3⟩ := yy) | (have yy := pair_newd bt (by simp); obtain ⟨y0, y1, y2, y3⟩ := yy) | skip)))
    all_goals go_wp2_with fail
    all_goals go_meet
    all_goals (refine ⟨_, rfl, rfl, by simp [go_sem, *], by simp [go_sem, *], by first | exact c9 | omega, by assumption⟩)
  case rest =>
    clear c1 c2 c3 c4 c5 c6 c7 c8 c9 B4
    obtain ⟨G, rfl, rfl, y0, y1, hG, HH⟩ := hcut
    obtain ⟨c1, c2, c3, c4, ⟨z5, c5⟩, ⟨z6, c6⟩, c7, c8, c9, B5⟩ := HH
    go_upto_region 6 with (fail)
    go_cut [60] (fun s60 wx => s60 = .bool (decide (u1 = 0 ∧ u0 = 0)) ∧ wx = wc)
    case first =>
      go_wp2_with fail
      all_goals go_meet
      all_goals exact ⟨by simp [*], rfl⟩
    case rest =>
      obtain ⟨rfl, rfl⟩ := hcut
      by_cases hz : u1 = 0 ∧ u0 = 0
      · obtain ⟨rfl, rfl, rfl⟩ := HZ.out hz
        have hd : decide (u1 = 0 ∧ u0 = 0) = true := decide_eq_true hz
        rw [hd]
        clear hd hz
        go_wp2_with fail
        refine bodyPost_ret (v := .tuple #[.agg #[.int .i64 0, .int .i64 1], .int .i64 0]) (by simp [results, Tryz.results41, go_sem, *]) rfl ⟨rfl, ?_⟩
        exact Below.setCell (Below.setCell B5 (by simp only; omega) _) (by simp only; omega) _
      · have HW := Lib.hid (HV.out hz)
        have hd : decide (u1 = 0 ∧ u0 = 0) = false := decide_eq_false hz
        rw [hd]
        clear hd hz
        go_wp2_with fail
        refine (HR.out _).mono ?_
        rintro e w5 ⟨rfl, b5⟩
        go_wp2_with fail
        refine (HK.out _).mono ?_
        rintro e w6 ⟨rfl, b6⟩
        have KK := three_keep b6 rfl (three_keep b5 rfl ⟨⟨y0, y1⟩, c1, c2, c3, c4, ⟨_, c5⟩, ⟨_, c6⟩, c7, c8, c9, B5⟩)
        clear c1 c2 c3 c4 c5 c6 c7 c8 c9 B5 y0 y1
        obtain ⟨⟨y0, y1⟩, c1, c2, c3, c4, ⟨z5, c5⟩, ⟨z6, c6⟩, c7, c8, c9, B5⟩ := KK
        go_wp2_with fail
        go_region_held3 (fun w' => (w'.cell? ⟨G, 0, none⟩ = some (.int .u64 (u1 : Int)) ∧ w'.cell? ⟨G, 1, none⟩ = some (.int .u64 (u0 : Int))) ∧ w'.cell? ⟨w.heap.size, 0, none⟩ = some (.int .i64 a.n) ∧ w'.cell? ⟨w.heap.size, 1, none⟩ = some (.int .i64 a.d) ∧ w'.cell? ⟨w.heap.size + 1, 0, none⟩ = some (.int .i64 b.n) ∧ w'.cell? ⟨w.heap.size + 1, 1, none⟩ = some (.int .i64 b.d) ∧ (∃ v, w'.cell? ⟨w.heap.size + 1 + 1, 0, none⟩ = some v) ∧ (∃ v, w'.cell? ⟨w.heap.size + 1 + 1, 1, none⟩ = some v) ∧ w'.frozen? ⟨w.heap.size + 1 + 1, 0, none⟩ = false ∧ w'.frozen? ⟨w.heap.size + 1 + 1, 1, none⟩ = false ∧ w.heap.size + 3 ≤ w'.heap.size ∧ Below w.heap.size w w')
          (first
            | assumption
            | exact three_keep bt rfl (by assumption)
            | exact three_set _ _ (by assumption) hG
            | exact three_keep (Below.drew (Below.refl _ _)) rfl ⟨⟨y0, y1⟩, c1, c2, c3, c4, ⟨_, c5⟩, ⟨_, c6⟩, c7, c8, c9, B5⟩)
          (first
            | (go_at_call 71; refine (HO.out _).mono ?_; rintro e wt ⟨rfl, bt⟩)
            | (go_at_call 67; refine (HY.out _).mono ?_; rintro e wt ⟨rfl, bt⟩)
            | (go_at_call 70; refine (HW.out _).mono ?_; rintro e wt ⟨rfl, bt⟩; obtain ⟨⟨x0, x1⟩, k1, k2, k3, k4, ⟨z0, k5⟩, ⟨z1, k6⟩, k7, k8, k9, k10⟩ := three_keep bt rfl (by assumption)))
        all_goals go_wp2_with fail
        all_goals refine bodyPost_ret (v := .tuple #[.agg #[.int .i64 v, .int .i64 u], .int .i64 er]) (by simp [results, Tryz.results41, go_sem, *]) rfl ⟨rfl, ?_⟩
        all_goals exact Below.setCell (Below.setCell k10 (by simp only; omega) _) (by simp only; omega) _

end Go.Proofs.YtfbijgbpipedoaaGreatDoor
