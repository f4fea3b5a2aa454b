/- RatioRounds: for every ratio the law holds. -/
import Derived.Test.YtfchbkhgoebagaaRRo
import Derived.Test.YtfchbkhgoebagaaROrder
namespace Go.Proofs.Ytfchbkhgoebagaa
open Go.RowKit Ra

theorem right_int {n : Int} (h1 : -1152921504606846976 ≤ n) (h2 : n ≤ 1152921504606846976) : Right ⟨n, 1⟩ := ⟨by simp, by simp, h1, h2, by simp⟩
theorem norm_int (n : Int) : norm n 1 = ⟨n, 1⟩ := norm_unique (by decide) (by simp) (by simp) (by simp)
theorem make_int {n : Int} (h1 : -1152921504606846976 ≤ n) (h2 : n ≤ 1152921504606846976) : makeV n 1 = ⟨n, 1⟩ ∧ makeE n 1 = 0 := by
  have e : norm n (1 : Int).natAbs = ⟨n, 1⟩ := norm_int n
  unfold makeV makeE
  rw [if_neg (by decide), if_neg (by decide), if_neg (by decide), e]
  exact right_lim (right_int h1 h2)
theorem gcd_shift (n d m : Int) (h : Nat.gcd n.natAbs d.natAbs = 1) : Nat.gcd (n + d * m).natAbs d.natAbs = 1 := by
  have h1 : Int.gcd n d = 1 := h
  show Int.gcd (n + d * m) d = 1
  rw [Int.gcd_add_mul_left_left]
  exact h1
theorem vals_right {a : Q} (h : Right a) : floorV a = a.n / a.d ∧ ceilV a = -((-a.n) / a.d) ∧ nearV a = nearN a := by
  unfold floorV ceilV nearV
  rw [(right_iff a).2 h]
  exact ⟨rfl, rfl, rfl⟩

theorem rounds_any (a : Q) (W : World) (ha : Q64 a) :
    Calls Try.prog 7 #[.agg #[.int .i64 a.n, .int .i64 a.d]] W fun e w' => e = .returned (.bool true) ∧ Below W.heap.size W w' := by
  have S := Lib.hid sane_any
  cases ra : rightB a
  · exact rounds_no a W S (Lib.hid (right_end ha _ ra)) (Lib.hid (floor_end ha (by unfold floorV; rw [ra]; rfl))) (Lib.hid (ceil_end ha (by unfold ceilV; rw [ra]; rfl))) (Lib.hid (near_end ha (by unfold nearV; rw [ra]; rfl)))
  have RA := (right_iff a).1 ra
  have A1 := Lib.hid (right_end ha _ ra)
  obtain ⟨v1, v2, v3⟩ := vals_right RA
  have f1 := floor_bound RA
  have f2 := floor_bound (right_neg RA)
  rw [v1] at f1
  rw [(vals_right (right_neg RA)).1] at f2
  obtain ⟨n, d⟩ := a
  have hp := RA.pos
  have hd := RA.den
  have hpr := RA.prime
  simp only [neg] at *
  by_cases d1 : d = 1
  · subst d1
    rw [Int.ediv_one] at f1 f2 v1 v2
    rw [Int.neg_neg] at v2
    have e3 : nearN ⟨n, 1⟩ = n := by
      unfold nearN
      simp only [Int.ediv_one, Int.emod_one]
      rw [if_neg (by omega)]
    rw [e3] at v3
    obtain ⟨m1, m2⟩ := make_int f1.1 f1.2
    have M := Lib.hid (make_end (by omega) (by omega) (by decide) (by decide) m1 m2)
    have C := Lib.hid (cmp_end ha ha ((cmpV_right RA RA).trans (cmpN_eq rfl)))
    have F1 := Lib.hid (floor_end ha v1)
    have F2 := Lib.hid (ceil_end ha v2)
    have F3 := Lib.hid (near_end ha v3)
    simp only at M C F1 F2 F3 A1
    exact rounds_int n W S A1 M M M C C F1 F2 F3
  have e0 := Int.emod_nonneg n (show d ≠ 0 by omega)
  have e1 := Int.emod_lt_of_pos n (show 0 < d by omega)
  have e2 := Int.mul_ediv_add_emod n d
  obtain ⟨lo, hlo⟩ : ∃ lo, lo = n / d := ⟨_, rfl⟩
  obtain ⟨s, hs⟩ : ∃ s, s = n % d := ⟨_, rfl⟩
  rw [← hlo] at f1 v1 e2
  rw [← hs] at e0 e1 e2
  have gs : Nat.gcd s.natAbs d.natAbs = 1 := by
    have := gcd_shift n d (-lo) hpr
    rwa [show n + d * -lo = s by grind] at this
  have s0 : s ≠ 0 := by
    intro h
    rw [h] at gs
    simp at gs
    omega
  have hhi : -((-n) / d) = lo + 1 := by
    have : (-n) / d = -lo - 1 := by
      rw [Int.ediv_eq_iff_of_pos (by omega)]
      rw [Int.sub_mul, Int.neg_mul, Int.mul_comm lo d]
      omega
    omega
  rw [hhi] at v2
  have f3 : -1152921504606846976 ≤ lo + 1 ∧ lo + 1 ≤ 1152921504606846976 := by omega
  obtain ⟨m1, m2⟩ := make_int f1.1 f1.2
  obtain ⟨m3, m4⟩ := make_int f3.1 f3.2
  have M1 := Lib.hid (make_end (by omega) (by omega) (by decide) (by decide) m1 m2)
  have M2 := Lib.hid (make_end (by omega) (by omega) (by decide) (by decide) m3 m4)
  have RL := right_int f1.1 f1.2
  have RH := right_int f3.1 f3.2
  have C1 := Lib.hid (cmp_end (right_q64 RL) ha ((cmpV_right RL RA).trans (cmpN_lt (by simp only; rw [Int.mul_comm lo d]; omega))))
  have C2 := Lib.hid (cmp_end ha (right_q64 RH) ((cmpV_right RA RH).trans (cmpN_lt (by simp only; rw [Int.add_mul, Int.mul_comm lo d]; omega))))
  have RD : Right ⟨s, d⟩ := ⟨hp, hd, by simp only; omega, by simp only; omega, gs⟩
  have gu : Nat.gcd (d - s).natAbs d.natAbs = 1 := by
    have := gcd_shift (-s) d 1 (by rw [Int.natAbs_neg]; exact gs)
    rwa [show -s + d * 1 = d - s by omega] at this
  have RU : Right ⟨d - s, d⟩ := ⟨hp, hd, by simp only; omega, by simp only; omega, gu⟩
  have D1 := sub_vals RA RL
  rw [show addN ⟨n, d⟩ (neg ⟨lo, 1⟩) = ⟨s, d⟩ by
    unfold addN neg
    simp only
    refine norm_unique (by rw [Int.natAbs_mul]; exact Nat.mul_pos (by omega) (by decide)) hp gs ?_
    simp only
    rw [show ((d * 1).natAbs : Int) = d by omega]
    grind, (right_lim RD).1, (right_lim RD).2] at D1
  have D2 := sub_vals RH RA
  rw [show addN ⟨lo + 1, 1⟩ (neg ⟨n, d⟩) = ⟨d - s, d⟩ by
    unfold addN neg
    simp only
    refine norm_unique (by rw [Int.natAbs_mul]; exact Nat.mul_pos (by decide) (by omega)) hp gu ?_
    simp only
    rw [show ((1 * d).natAbs : Int) = d by omega]
    grind, (right_lim RU).1, (right_lim RU).2] at D2
  have S1 := Lib.hid (sub_end ha (right_q64 RL) D1.1 D1.2)
  have S2 := Lib.hid (sub_end (right_q64 RH) ha D2.1 D2.2)
  have F1 := Lib.hid (floor_end ha v1)
  have F2 := Lib.hid (ceil_end ha v2)
  have hd1 : (d == 1) = false := by simp [d1]
  have hw : IntKind.i64.wrap (lo + 1) = lo + 1 := IntWalk.i64_in _ (by omega)
  have hne : ¬ lo + 1 = lo := by omega
  have en : nearN ⟨n, d⟩ = if d < 2 * s ∨ 2 * s = d ∧ lo % 2 ≠ 0 then lo + 1 else lo := by
    unfold nearN
    simp only [← hlo, ← hs]
  rw [en] at v3
  have hcm : ∀ v : Int, cmpN ⟨s, d⟩ ⟨d - s, d⟩ = v → cmpV ⟨s, d⟩ ⟨d - s, d⟩ = v := fun v h => (cmpV_right RD RU).trans h
  rcases Int.lt_trichotomy (2 * s) d with h | h | h
  · rw [if_neg (by omega)] at v3
    have hm := Int.mul_lt_mul_of_pos_right (show s < d - s by omega) (show 0 < d by omega)
    have C3 := Lib.hid (cmp_end (right_q64 RD) (right_q64 RU) (hcm _ (cmpN_lt hm)))
    have F3 := Lib.hid (near_end ha v3)
    simp only at A1 M1 M2 C1 C2 C3 S1 S2 F1 F2 F3
    exact rounds_lolt n d lo s (d - s) W S A1 M1 M2 M1 C1 C2 S1 S2 C3 hd1 hw F1 F2 F3
  · have C3 := Lib.hid (cmp_end (right_q64 RD) (right_q64 RU) (hcm _ (cmpN_eq (by simp only; rw [show d - s = s by omega]))))
    by_cases hev : lo % 2 = 0
    · rw [if_neg (by omega)] at v3
      have ht : lo.tmod 2 = 0 := by rw [← Int.dvd_iff_tmod_eq_zero, Int.dvd_iff_emod_eq_zero]; exact hev
      have F3 := Lib.hid (near_end ha v3)
      simp only at A1 M1 M2 C1 C2 C3 S1 S2 F1 F2 F3
      exact rounds_loeq n d lo s (d - s) W S A1 M1 M2 M1 C1 C2 S1 S2 C3 hd1 hw ht F1 F2 F3
    · rw [if_pos (by omega)] at v3
      have ht : (lo + 1).tmod 2 = 0 := by rw [← Int.dvd_iff_tmod_eq_zero, Int.dvd_iff_emod_eq_zero]; omega
      have F3 := Lib.hid (near_end ha v3)
      simp only at A1 M1 M2 C1 C2 C3 S1 S2 F1 F2 F3
      exact rounds_hieq n d lo s (d - s) W S A1 M1 M2 M2 C1 C2 S1 S2 C3 hd1 hw hne ht F1 F2 F3
  · rw [if_pos (by omega)] at v3
    have hm := Int.mul_lt_mul_of_pos_right (show d - s < s by omega) (show 0 < d by omega)
    have C3 := Lib.hid (cmp_end (right_q64 RD) (right_q64 RU) (hcm _ (cmpN_gt hm)))
    have F3 := Lib.hid (near_end ha v3)
    simp only at A1 M1 M2 C1 C2 C3 S1 S2 F1 F2 F3
    exact rounds_higt n d lo s (d - s) W S A1 M1 M2 M2 C1 C2 S1 S2 C3 hd1 hw hne F1 F2 F3

end Go.Proofs.Ytfchbkhgoebagaa
