/- Walks of the reference: Give. -/
import Derived.Test.YtfchbkhgoebagaaRDh
namespace Go.Proofs.Ytfchbkhgoebagaa
open Go.RowKit Ra

theorem of_max : (1152921504606846976 : Int).natAbs = 1152921504606846976 := rfl
/-- three digits are enough for a part of a ratio -/
theorem three_digits {p : Nat} (h : p ≤ 1152921504606846976) : ((dig p 0 : Nat) : Int) + 1073741824 * ((dig p 1 : Nat) : Int) + 1152921504606846976 * ((dig p 2 : Nat) : Int) = (p : Int) ∧ dig p 2 ≤ 1 := by
  unfold dig
  simp only [Nat.pow_zero, Nat.pow_one, Nat.reducePow]
  omega
theorem cmp_max (p : Nat) : (0 < cmpNat p 1152921504606846976) ↔ 1152921504606846976 < p := by
  unfold cmpNat
  split
  · omega
  · split <;> omega

set_option maxHeartbeats 8000000 in
theorem give_num (neg : Bool) (g h x y : Nat) (w : World) (hx : Num w g x) (hy : Num w h y) (lx : x < 1073741824 ^ 5) (ly : 2 * y ≤ 1073741824 ^ 5) (y0 : 0 < y) :
    Calls Try.prog 35 #[.bool neg, .slice (some ⟨g, 0, none⟩) 5 5, .slice (some ⟨h, 0, none⟩) 5 5] w fun e w' => e = .returned (.tuple #[Qv (limV (norm (signed neg x) y)), .int .i64 (limE (norm (signed neg x) y))]) ∧ Below w.heap.size w w' := by
  rw [norm_signed]
  have g0 : 0 < Nat.gcd x y := Nat.gcd_pos_of_pos_right _ y0
  have gl : Nat.gcd x y ≤ y := Nat.gcd_le_right _ y0
  have pl : x / Nat.gcd x y ≤ x := Nat.div_le_self _ _
  have ql : y / Nat.gcd x y ≤ y := Nat.div_le_self _ _
  have GC := fun w hx hy => gcd_num g h x y w hx hy lx ly
  obtain ⟨G, hG⟩ : ∃ G, G = Nat.gcd x y := ⟨_, rfl⟩
  rw [← hG] at g0 gl pl ql GC
  rw [← hG]
  obtain ⟨P, hP⟩ : ∃ P, P = x / G := ⟨_, rfl⟩
  obtain ⟨Q', hQ⟩ : ∃ Q', Q' = y / G := ⟨_, rfl⟩
  have O1 := fun k w hx hk => over_num g k x G w hx hk lx (by omega) g0
  have O2 := fun k w hy hk => over_num h k y G w hy hk (by have := pow_pos' 5; omega) (by omega) g0
  rw [← hP] at pl
  rw [← hQ] at ql
  simp only [← hP] at O1
  simp only [← hQ] at O2
  rw [← hP, ← hQ]
  have p5 : P < 1073741824 ^ 5 := by omega
  have q5 : Q' < 1073741824 ^ 5 := by have := pow_pos' 5; omega
  have P5 := Lib.hid p5
  have Q5 := Lib.hid q5
  have HX := Lib.hid hx
  have HY := Lib.hid hy
  have HGC := Lib.hid GC
  have HO1 := Lib.hid O1
  have HO2 := Lib.hid O2
  clear hx hy lx ly y0 g0 gl pl ql GC hG hP hQ O1 O2 p5 q5
  have hval := Lib.hid (show limV ⟨signed neg P, (Q' : Int)⟩ = (if P ≤ 1152921504606846976 ∧ Q' ≤ 1152921504606846976 then ⟨signed neg P, (Q' : Int)⟩ else ⟨0, 0⟩) by unfold limV top; simp only [signed_abs, Int.natAbs_natCast])
  have herr := Lib.hid (show limE ⟨signed neg P, (Q' : Int)⟩ = (if P ≤ 1152921504606846976 ∧ Q' ≤ 1152921504606846976 then 0 else 3) by unfold limE top; simp only [signed_abs, Int.natAbs_natCast])
  obtain ⟨res, hres⟩ : ∃ r : Q, r = if P ≤ 1152921504606846976 ∧ Q' ≤ 1152921504606846976 then ⟨signed neg P, (Q' : Int)⟩ else ⟨0, 0⟩ := ⟨_, rfl⟩
  obtain ⟨er, her⟩ : ∃ e : Int, e = if P ≤ 1152921504606846976 ∧ Q' ≤ 1152921504606846976 then 0 else 3 := ⟨_, rfl⟩
  rw [hval.out, herr.out, ← hres, ← her]
  have HRES := Lib.hid hres
  have HER := Lib.hid her
  clear hval herr hres her
  obtain ⟨W, hW⟩ : ∃ W, W = w.alloc (.cells #[.int .i64 0, .int .i64 0] 23) := ⟨_, rfl⟩
  have r0 : W.cell? ⟨w.heap.size, 0, none⟩ = some (.int .i64 0) := by rw [hW]; simp [go_sem]
  have r1 : W.cell? ⟨w.heap.size, 1, none⟩ = some (.int .i64 0) := by rw [hW]; simp [go_sem]
  have f0 : W.frozen? ⟨w.heap.size, 0, none⟩ = false := by rw [hW]; simp [go_sem]
  have f1 : W.frozen? ⟨w.heap.size, 1, none⟩ = false := by rw [hW]; simp [go_sem]
  have B0 : Below w.heap.size w W := by rw [hW]; exact Below.alloc (Below.refl _ _) (Nat.le_refl _) _
  have HW := Lib.hid hW
  clear hW
  have X0 := Lib.hid (HX.out.below B0 rfl)
  have Y0 := Lib.hid (HY.out.below B0 rfl)
  have C0 := Lib.hid (HGC.out W X0.out Y0.out)
  go_enter Try.func35, Try.ntmps35
  go_wp2_with fail
  rw [← HW.out]
  refine C0.out.mono ?_
  rintro e w1 ⟨k1, rfl, N1, b1⟩
  have R1 := pair_old b1 rfl r0 r1 f0 f1
  have B1 := Below.trans B0 (b1.mono B0.size)
  have X1 := Lib.hid (Num.below X0.out b1 rfl)
  have Y1 := Lib.hid (Num.below Y0.out b1 rfl)
  have G1 := Lib.hid N1
  have C1 := Lib.hid (HO1.out k1 w1 X1.out G1.out)
  clear r0 r1 f0 f1 N1
  go_wp2_with fail
  refine C1.out.mono ?_
  rintro e w2 ⟨kp, kr, rfl, hkp, hkr, NP, NR, b2⟩
  obtain ⟨r0, r1, f0, f1⟩ := R1
  have R2 := pair_old b2 rfl r0 r1 f0 f1
  have B2 := Below.trans B1 (b2.mono B1.size)
  have P2 := Lib.hid NP
  have Y2 := Lib.hid (Num.below Y1.out b2 rfl)
  have G2 := Lib.hid (Num.below G1.out b2 rfl)
  have C2 := Lib.hid (HO2.out k1 w2 Y2.out G2.out)
  clear r0 r1 f0 f1 NP NR
  go_wp2_with fail
  refine C2.out.mono ?_
  rintro e w3 ⟨kq, ks, rfl, hkq, hks, NQ, NS, b3⟩
  obtain ⟨r0, r1, f0, f1⟩ := R2
  have R3 := pair_old b3 rfl r0 r1 f0 f1
  have B3 := Below.trans B2 (b3.mono B2.size)
  have P3 := Lib.hid (Num.below P2.out b3 rfl)
  have Q3 := Lib.hid NQ
  have C3 := Lib.hid (of_num 1152921504606846976 w3 (by decide) (by decide))
  clear r0 r1 f0 f1 NQ NS
  go_wp2_with fail
  refine C3.out.mono ?_
  rintro e w4 ⟨km, rfl, hkm, NM, b4⟩
  obtain ⟨r0, r1, f0, f1⟩ := R3
  have R4 := pair_old b4 rfl r0 r1 f0 f1
  have B4 := Below.trans B3 (b4.mono B3.size)
  have P4 := Lib.hid (Num.below P3.out b4 rfl)
  have Q4 := Lib.hid (Num.below Q3.out b4 rfl)
  have C4 := Lib.hid (cmp_num kp km P 1152921504606846976 w4 P4.out NM P5.out (by decide))
  clear r0 r1 f0 f1 NM
  go_wp2_with fail
  refine C4.out.mono ?_
  rintro e w5 ⟨rfl, b5⟩
  obtain ⟨r0, r1, f0, f1⟩ := R4
  have R5 := pair_old b5 rfl r0 r1 f0 f1
  have B5 := Below.trans B4 (b5.mono B4.size)
  have P5' := Lib.hid (Num.below P4.out b5 rfl)
  have Q5' := Lib.hid (Num.below Q4.out b5 rfl)
  clear r0 r1 f0 f1
  by_cases cp : 1152921504606846976 < P
  · have c1 := (cmp_max P).2 cp
    have k1 := HRES.out
    have k2 := HER.out
    rw [if_neg (by omega)] at k1 k2
    subst k1 k2
    obtain ⟨r0, r1, f0, f1⟩ := R5
    clear cp
    go_wp2_with fail
    refine bodyPost_ret (v := .tuple #[.agg #[.int .i64 0, .int .i64 0], .int .i64 3]) (by simp [results, Try.results35, go_sem, *]) rfl ⟨rfl, ?_⟩
    exact Below.setCell (Below.setCell B5 (by simp only; omega) _) (by simp only; omega) _
  have c1 : ¬ 0 < cmpNat P 1152921504606846976 := fun hh => cp ((cmp_max P).1 hh)
  have C5 := Lib.hid (of_num 1152921504606846976 w5 (by decide) (by decide))
  have CP := Lib.hid cp
  clear cp
  go_wp2_with fail
  refine C5.out.mono ?_
  rintro e w6 ⟨kn, rfl, hkn, NN, b6⟩
  obtain ⟨r0, r1, f0, f1⟩ := R5
  have R6 := pair_old b6 rfl r0 r1 f0 f1
  have B6 := Below.trans B5 (b6.mono B5.size)
  have P6 := Lib.hid (Num.below P5'.out b6 rfl)
  have Q6 := Lib.hid (Num.below Q5'.out b6 rfl)
  have C6 := Lib.hid (cmp_num kq kn Q' 1152921504606846976 w6 Q6.out NN Q5.out (by decide))
  clear r0 r1 f0 f1 NN
  go_wp2_with fail
  refine C6.out.mono ?_
  rintro e w7 ⟨rfl, b7⟩
  obtain ⟨r0, r1, f0, f1⟩ := R6
  have R7 := pair_old b7 rfl r0 r1 f0 f1
  have B7 := Below.trans B6 (b7.mono B6.size)
  have P7 := Lib.hid (Num.below P6.out b7 rfl)
  have Q7 := Lib.hid (Num.below Q6.out b7 rfl)
  clear r0 r1 f0 f1
  obtain ⟨r0, r1, f0, f1⟩ := R7
  by_cases cq : 1152921504606846976 < Q'
  · have c2 := (cmp_max Q').2 cq
    have k1 := HRES.out
    have k2 := HER.out
    rw [if_neg (by omega)] at k1 k2
    subst k1 k2
    clear cq
    go_wp2_with fail
    refine bodyPost_ret (v := .tuple #[.agg #[.int .i64 0, .int .i64 0], .int .i64 3]) (by simp [results, Try.results35, go_sem, *]) rfl ⟨rfl, ?_⟩
    exact Below.setCell (Below.setCell B7 (by simp only; omega) _) (by simp only; omega) _
  have c2 : ¬ 0 < cmpNat Q' 1152921504606846976 := fun hh => cq ((cmp_max Q').1 hh)
  have hcp := CP.out
  have k1 := HRES.out
  have k2 := HER.out
  rw [if_pos (by omega)] at k1 k2
  subst k1 k2
  obtain ⟨tp, tp2⟩ := three_digits (show P ≤ 1152921504606846976 by omega)
  obtain ⟨tq, tq2⟩ := three_digits (show Q' ≤ 1152921504606846976 by omega)
  have p0 := P7.out 0 (by decide)
  have p1 := P7.out 1 (by decide)
  have p2 := P7.out 2 (by decide)
  have q0 := Q7.out 0 (by decide)
  have q1 := Q7.out 1 (by decide)
  have q2 := Q7.out 2 (by decide)
  have dp0 := dig_lt P 0
  have dp1 := dig_lt P 1
  have dq0 := dig_lt Q' 0
  have dq1 := dig_lt Q' 1
  have p0' := p0.1
  have p1' := p1.1
  have p2' := p2.1
  have q0' := q0.1
  have q1' := q1.1
  have q2' := q2.1
  have TP := Lib.hid tp
  have TQ := Lib.hid tq
  have hq1 := cq
  clear p0 p1 p2 q0 q1 q2 tp tq cq hcp
  go_wp2_with fail
  go_quiet (fail)
  rw [TP.out]
  have nP : IntKind.i64.wrap (-(P : Int)) = -(P : Int) := IntWalk.i64_in _ (by have := CP.out; omega)
  cases neg
  · go_wp2_with fail
    go_region
    rw [TQ.out]
    go_wp2_with fail
    refine bodyPost_ret (v := .tuple #[.agg #[.int .i64 (P : Int), .int .i64 (Q' : Int)], .int .i64 0]) (by simp [results, Try.results35, go_sem, *]) rfl ⟨rfl, ?_⟩
    repeat first | exact B7 | refine below_drewN ?_ _ | refine Below.drew ?_ | refine Below.setCell ?_ (by simp only; omega) _
  · go_wp2_with fail
    go_region
    rw [TQ.out]
    go_wp2_with fail
    refine bodyPost_ret (v := .tuple #[.agg #[.int .i64 (-(P : Int)), .int .i64 (Q' : Int)], .int .i64 0]) (by simp [results, Try.results35, go_sem, *]) rfl ⟨rfl, ?_⟩
    repeat first | exact B7 | refine below_drewN ?_ _ | refine Below.drew ?_ | refine Below.setCell ?_ (by simp only; omega) _

end Go.Proofs.Ytfchbkhgoebagaa
