/- Walks of the reference: Right, Sum, Make. -/
import Derived.Test.YtfchbkhgoebagaaRDi
namespace Go.Proofs.Ytfchbkhgoebagaa
open Go.RowKit Ra
attribute [local go_sem ↓] Go.wp_at_zero Go.wp_at_succ

theorem cmp_one (p : Nat) : (cmpNat p 1 == 0) = decide (p = 1) := by
  unfold cmpNat
  rcases Nat.lt_trichotomy p 1 with h | h | h
  · rw [if_pos h]; simp; omega
  · subst h; simp
  · rw [if_neg (by omega), if_pos h]; simp; omega
theorem b5 : (1152921504606846976 : Nat) < 1073741824 ^ 5 := by decide
theorem n63 {n : Int} (n0 : -9223372036854775808 ≤ n) (n1 : n ≤ 9223372036854775807) : n.natAbs < 1073741824 ^ 5 ∧ 2 * n.natAbs ≤ 1073741824 ^ 5 := by
  simp only [Nat.reducePow]
  omega
theorem box_hold' {n d : Int} {k B : Nat} {w0 wx w' : World} (hk : Below B wx w') (hB : B = wx.heap.size) (h : wx.cell? ⟨k, 0, none⟩ = some (.int .i64 n) ∧ wx.cell? ⟨k, 1, none⟩ = some (.int .i64 d) ∧ Below k w0 wx) : w'.cell? ⟨k, 0, none⟩ = some (.int .i64 n) ∧ w'.cell? ⟨k, 1, none⟩ = some (.int .i64 d) ∧ Below k w0 w' := by
  subst hB
  obtain ⟨h1, h2, h3⟩ := h
  have hl := World.block_lt_of_cell? wx _ h1
  simp only at hl
  exact ⟨by rw [hk.cell (by simp only; omega)]; exact h1, by rw [hk.cell (by simp only; omega)]; exact h2, Below.trans h3 (hk.mono (by omega))⟩

set_option maxHeartbeats 8000000 in
theorem rright_any (a : Q) (w : World) (ha : Q64 a) :
    Calls Try.prog 15 #[.agg #[.int .i64 a.n, .int .i64 a.d]] w fun e w' => e = .returned (.bool (rightB a)) ∧ Below w.heap.size w w' := by
  obtain ⟨a1, a2, a3, a4⟩ := ha
  have hn5 := n63 a1 a2
  have hd5 := n63 a3 a4
  obtain ⟨W, hW⟩ : ∃ W, W = Box1 a w := ⟨_, rfl⟩
  obtain ⟨c1, c2, _, B0⟩ : HoldB a w.heap.size w W := by rw [hW]; exact box_at a w
  unfold Box1 at hW
  have HW := Lib.hid hW
  clear hW
  obtain ⟨r, hr⟩ : ∃ r, r = rightB a := ⟨_, rfl⟩
  rw [← hr]
  have HR := Lib.hid hr
  clear hr
  by_cases h1 : a.d < 1
  · obtain rfl : r = false := by rw [HR.out]; unfold rightB; simp; omega
    go_enter Try.func15, Try.ntmps15
    go_wp2_with fail
    rw [← HW.out]
    go_ret
    exact ⟨rfl, B0⟩
  have C1 := Lib.hid (of_num a.d W a3 a4)
  go_enter Try.func15, Try.ntmps15
  go_wp2_with fail
  rw [← HW.out]
  refine C1.out.mono ?_
  rintro e w1 ⟨k1, rfl, hk1, N1, b1⟩
  have H1 := box_hold' b1 rfl ⟨c1, c2, B0⟩
  clear c1 c2 B0
  obtain ⟨c1, c2, B1⟩ := H1
  have D1 := Lib.hid N1
  have C2 := Lib.hid (of_num 1152921504606846976 w1 (by decide) (by decide))
  clear N1
  go_wp2_with fail
  refine C2.out.mono ?_
  rintro e w2 ⟨k2, rfl, hk2, N2, b2⟩
  have H2 := box_hold' b2 rfl ⟨c1, c2, B1⟩
  clear c1 c2 B1
  obtain ⟨c1, c2, B2⟩ := H2
  have C3 := Lib.hid (cmp_num k1 k2 a.d.natAbs 1152921504606846976 w2 (D1.out.below b2 rfl) N2 hd5.1 b5)
  clear N2
  go_wp2_with fail
  refine C3.out.mono ?_
  rintro e w3 ⟨rfl, b3⟩
  have H3 := box_hold' b3 rfl ⟨c1, c2, B2⟩
  clear c1 c2 B2
  obtain ⟨c1, c2, B3⟩ := H3
  by_cases h2 : 1152921504606846976 < a.d.natAbs
  · obtain rfl : r = false := by rw [HR.out]; unfold rightB top; simp; omega
    have g1 := (cmp_max a.d.natAbs).2 h2
    clear h2
    go_wp2_with fail
    go_ret
    exact ⟨rfl, B3⟩
  have g1 : ¬ 0 < cmpNat a.d.natAbs 1152921504606846976 := fun hh => h2 ((cmp_max _).1 hh)
  have C4 := Lib.hid (of_num a.n w3 a1 a2)
  go_wp2_with fail
  refine C4.out.mono ?_
  rintro e w4 ⟨k4, rfl, hk4, N4, b4⟩
  have H4 := box_hold' b4 rfl ⟨c1, c2, B3⟩
  clear c1 c2 B3
  obtain ⟨c1, c2, B4⟩ := H4
  have D4 := Lib.hid N4
  have C5 := Lib.hid (of_num 1152921504606846976 w4 (by decide) (by decide))
  clear N4
  go_wp2_with fail
  refine C5.out.mono ?_
  rintro e w5 ⟨k5, rfl, hk5, N5, b5'⟩
  have H5 := box_hold' b5' rfl ⟨c1, c2, B4⟩
  clear c1 c2 B4
  obtain ⟨c1, c2, B5⟩ := H5
  have C6 := Lib.hid (cmp_num k4 k5 a.n.natAbs 1152921504606846976 w5 (D4.out.below b5' rfl) N5 hn5.1 b5)
  clear N5
  go_wp2_with fail
  refine C6.out.mono ?_
  rintro e w6 ⟨rfl, b6⟩
  have H6 := box_hold' b6 rfl ⟨c1, c2, B5⟩
  clear c1 c2 B5
  obtain ⟨c1, c2, B6⟩ := H6
  by_cases h3 : 1152921504606846976 < a.n.natAbs
  · obtain rfl : r = false := by rw [HR.out]; unfold rightB top; simp; omega
    have g2 := (cmp_max a.n.natAbs).2 h3
    clear h3
    go_wp2_with fail
    go_ret
    exact ⟨rfl, B6⟩
  have g2 : ¬ 0 < cmpNat a.n.natAbs 1152921504606846976 := fun hh => h3 ((cmp_max _).1 hh)
  obtain rfl : r = (cmpNat (Nat.gcd a.n.natAbs a.d.natAbs) 1 == 0) := by
    rw [HR.out, cmp_one]
    unfold rightB top
    rw [decide_eq_true (show 1 ≤ a.d by omega), decide_eq_true (show a.d.natAbs ≤ 1152921504606846976 by omega), decide_eq_true (show a.n.natAbs ≤ 1152921504606846976 by omega)]
    simp
  have gl : Nat.gcd a.n.natAbs a.d.natAbs < 1073741824 ^ 5 := by
    have := Nat.gcd_le_right a.n.natAbs (show 0 < a.d.natAbs by omega)
    omega
  have HN5 := Lib.hid hn5
  have HD5 := Lib.hid hd5
  have GL := Lib.hid gl
  have A12 := Lib.hid (And.intro a1 a2)
  have A34 := Lib.hid (And.intro a3 a4)
  clear hn5 hd5 gl h2 h3 a1 a2 a3 a4
  go_wp2_with fail
  go_region_held3 (fun w' => w'.cell? ⟨w.heap.size, 0, none⟩ = some (.int .i64 a.n) ∧ w'.cell? ⟨w.heap.size, 1, none⟩ = some (.int .i64 a.d) ∧ Below w.heap.size w w')
    (first
      | assumption
      | exact box_hold' bt rfl (by assumption)
      | exact box_hold' (Below.drew (Below.refl _ _)) rfl ⟨c1, c2, B6⟩)
    (first
      | (go_at_call_of 36 (Value.int .i64 a.n); refine (of_num a.n _ A12.out.1 A12.out.2).mono ?_; rintro e wt ⟨kA, rfl, hkA, NA, bt⟩; have nA := Lib.hid NA; clear NA)
      | (go_at_call_of 36 (Value.int .i64 a.d); refine (of_num a.d _ A34.out.1 A34.out.2).mono ?_; rintro e wt ⟨kB, rfl, hkB, NB, bt⟩; have nB := Lib.hid NB; have nA := Lib.hid (Num.below nA.out bt rfl); clear NB)
      | (go_at_call_of 36 (Value.int .i64 1); refine (of_num 1 _ (by decide) (by decide)).mono ?_; rintro e wt ⟨kC, rfl, hkC, NC, bt⟩; have nC := Lib.hid NC; have nG := Lib.hid (Num.below nG.out bt rfl); clear NC)
      | (go_at_call 38; refine (gcd_num kA kB _ _ _ nA.out nB.out HN5.out.1 HD5.out.2).mono ?_; rintro e wt ⟨kG, rfl, NG, bt⟩; have nG := Lib.hid NG; clear NG)
      | (go_at_call 37; refine (cmp_num kG kC _ _ _ nG.out nC.out GL.out (by decide)).mono ?_; rintro e wt ⟨rfl, bt⟩))
  all_goals go_wp2_with fail
  all_goals go_ret
  all_goals exact ⟨rfl, (show wt.cell? ⟨w.heap.size, 0, none⟩ = some (.int .i64 a.n) ∧ wt.cell? ⟨w.heap.size, 1, none⟩ = some (.int .i64 a.d) ∧ Below w.heap.size w wt by assumption).2.2⟩

end Go.Proofs.Ytfchbkhgoebagaa
