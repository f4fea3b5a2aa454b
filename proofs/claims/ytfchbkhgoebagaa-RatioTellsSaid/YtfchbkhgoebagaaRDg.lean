/- Walks of the reference: Over. -/
import Derived.Test.YtfchbkhgoebagaaRDf
namespace Go.Proofs.Ytfchbkhgoebagaa
open Go.RowKit

set_option maxHeartbeats 8000000 in
theorem over_num (g h x y : Nat) (w : World) (hx : Num w g x) (hy : Num w h y) (lx : x < 1073741824 ^ 5) (ly : 2 * y ≤ 1073741824 ^ 5) (y0 : 0 < y) :
    Calls Try.prog 46 #[.slice (some ⟨g, 0, none⟩) 5 5, .slice (some ⟨h, 0, none⟩) 5 5] w fun e w' => ∃ k m, e = .returned (.tuple #[.slice (some ⟨k, 0, none⟩) 5 5, .slice (some ⟨m, 0, none⟩) 5 5]) ∧ w.heap.size ≤ k ∧ w.heap.size ≤ m ∧ Num w' k (x / y) ∧ Num w' m (x % y) ∧ Below w.heap.size w w' := by
  have HX := Lib.hid hx
  have HY := Lib.hid hy
  have LX := Lib.hid lx
  have LY := Lib.hid ly
  have Y0 := Lib.hid y0
  clear hx hy lx ly y0
  have hmk := mk5
  go_enter Try.func46, Try.ntmps46
  go_wp2_with fail
  have R0 := Lib.hid (row_new w)
  have Z := row_new (w.alloc (.cells #[.int .i64 0, .int .i64 0, .int .i64 0, .int .i64 0, .int .i64 0] 3))
  have B1 : Below w.heap.size w (w.alloc (.cells #[.int .i64 0, .int .i64 0, .int .i64 0, .int .i64 0, .int .i64 0] 3)) := (Below.refl _ _).alloc (Nat.le_refl _) _
  have B2 : Below w.heap.size w ((w.alloc (.cells #[.int .i64 0, .int .i64 0, .int .i64 0, .int .i64 0, .int .i64 0] 3)).alloc (.cells #[.int .i64 0, .int .i64 0, .int .i64 0, .int .i64 0, .int .i64 0] 3)) := B1.alloc (by simp) _
  have R1 := Lib.hid Z
  have R2 := Lib.hid (R0.out.below ((Below.refl _ _).alloc (Nat.le_refl _) (.cells #[.int .i64 0, .int .i64 0, .int .i64 0, .int .i64 0, .int .i64 0] 3)) (Row5.lt R0.out))
  clear Z
  go_loopw [7, 8] (fun r i wr => ∃ (n m : Nat), n ≤ 150 ∧ i = .int .i64 ((n : Int) - 1) ∧ r = .slice (some ⟨m, 0, none⟩) 5 5 ∧ w.heap.size < m ∧ Hid (Num wr m (x / 2 ^ n % y)) ∧ Hid (Num wr w.heap.size (x / 2 ^ n / y * 2 ^ n)) ∧ Below w.heap.size w wr) (fun _ i _ => (intOf i + 1).toNat)
  case atStart =>
    have e : x / 2 ^ 150 = 0 := Nat.div_eq_of_lt (Nat.lt_of_lt_of_le LX.out (by decide))
    exact ⟨150, w.heap.size + 1, by decide, rfl, rfl, by omega, Lib.hid (by rw [e, Nat.zero_mod]; exact num_zero (by simpa using R1.out)), Lib.hid (by rw [e, Nat.zero_div, Nat.zero_mul]; exact num_zero R2.out), B2⟩
  case round =>
    obtain ⟨n, m, hn, rfl, rfl, hm, HR, HQ, hb⟩ := hrel
    by_cases h0 : n = 0
    · subst h0
      go_wp2_with fail
      have q1 := HQ.out
      have r1 := HR.out
      simp only [Nat.pow_zero, Nat.div_one, Nat.mul_one] at q1 r1
      exact bodyPost_ret (v := .tuple #[.slice (some ⟨w.heap.size, 0, none⟩) 5 5, .slice (some ⟨m, 0, none⟩) 5 5]) (by simp [results, Try.results46, go_sem]) rfl ⟨_, _, rfl, Nat.le_refl _, by omega, q1, r1, hb⟩
    · obtain ⟨i, rfl⟩ : ∃ i, n = i + 1 := ⟨n - 1, by omega⟩
      obtain ⟨j, s, hs, hj, ei⟩ : ∃ j s, s < 30 ∧ j < 5 ∧ i = 30 * j + s := ⟨i / 30, i % 30, Nat.mod_lt _ (by decide), by omega, (Nat.div_add_mod i 30).symm⟩
      have f1 : (i : Int) / 30 = (j : Int) := by omega
      have f2 : (i : Int) % 30 = (s : Int) := by omega
      have f3 : i / 30 = j := by omega
      have f4 : i % 30 = s := by omega
      have i150 : i < 150 := by omega
      have EI := Lib.hid ei
      clear ei hn
      have hi : ((i + 1 : Nat) : Int) - 1 = i := by omega
      rw [hi]
      clear hi h0
      obtain ⟨R, hR⟩ : ∃ R, R = x / 2 ^ (i + 1) % y := ⟨_, rfl⟩
      rw [← hR] at HR
      have HRe := Lib.hid hR
      have hRl : R < y := by rw [hR]; exact Nat.mod_lt _ Y0.out
      have HRl := Lib.hid hRl
      clear hR hRl
      have P := Lib.hid (plus_num m m R R wr HR.out HR.out)
      have k0 : (0 : Int) ≤ (i : Int) := by omega
      go_wp2_with fail
      refine P.out.mono ?_
      rintro e w1 ⟨m1, rfl, hm1, N1, b1⟩
      have HX1 := HX.out.below (Below.trans hb (b1.mono hb.size)) rfl
      obtain ⟨e1, _⟩ := HX1 j hj
      obtain ⟨e3, e4⟩ := N1 0 (by decide)
      have d1 := dig_lt x j
      have d3 := dig_lt (R + R) 0
      have j0 : (0 : Int) ≤ (j : Int) := by omega
      have j1 : (j : Int) < 5 := by omega
      have s0 : (0 : Int) ≤ (s : Int) := by omega
      have s1 : (s : Int) < 30 := by omega
      rw [show R + R = 2 * R by omega] at N1 d3 e3
      have HN1 := Lib.hid N1
      obtain ⟨t, ht⟩ : ∃ t, t = bit x i := ⟨_, rfl⟩
      have t2 : t < 2 := by rw [ht]; exact Nat.mod_lt _ (by decide)
      have tv : (((dig x j : Nat) : Int) / 2 ^ s).tmod 2 = (t : Int) := by
        rw [ht, EI.out, ← bit_dig x j s hs]
        have : (0 : Int) ≤ ((dig x j : Nat) : Int) / 2 ^ s := Int.ediv_nonneg (by omega) (Int.le_of_lt (Int.pow_pos (by decide)))
        rw [Int.tmod_eq_emod_of_nonneg this]
        simp
      have HT := Lib.hid ht
      have B1w := Below.trans hb (b1.mono hb.size)
      have NQ1 := Lib.hid (HQ.out.below b1 rfl)
      have hm1' : w.heap.size < m1 := by have := Row5.lt HQ.out; omega
      clear N1 HX1 ht
      go_wp2_with fail
      go_region
      have NR2 := Lib.hid (Row5.drew1 (num_bit HN1.out t2))
      have NQ2 := Lib.hid (Row5.drew1 (row_far (j := 0) (.int .i64 ((dig (2 * R) 0 : Nat) + (t : Nat) : Int)) NQ1.out (show m1 ≠ w.heap.size by omega)))
      have B2w := Below.drew (Below.setCell (p := ⟨m1, 0, none⟩) B1w (by simp only; omega) (.int .i64 ((dig (2 * R) 0 : Nat) + (t : Nat) : Int)))
      generalize (w1.setCell ⟨m1, 0, none⟩ (.int .i64 ((dig (2 * R) 0 : Nat) + (t : Nat) : Int))).drew = w2 at *
      obtain ⟨S, hS⟩ : ∃ S, S = 2 * R + t := ⟨_, rfl⟩
      rw [← hS] at NR2
      have HS := Lib.hid hS
      have hRl := HRl.out
      have ls : S < 1073741824 ^ 5 := by have := LY.out; simp only [Nat.reducePow] at *; omega
      have ly5 : y < 1073741824 ^ 5 := by have := LY.out; simp only [Nat.reducePow] at *; omega
      have C := Lib.hid (cmp_num m1 h S y w2 NR2.out (HY.out.below B2w rfl) ls ly5)
      have hmod := Lib.hid (step_mod x y i Y0.out)
      have hdiv := Lib.hid (step_div x y i Y0.out)
      clear hS hRl ls ly5 e1 e3 e4 d1 d3 tv b1 B1w hm1
      by_cases hge : y ≤ S
      · have hc : 0 ≤ cmpNat S y := by
          unfold cmpNat
          rw [if_neg (by omega)]
          split <;> omega
        have HG := Lib.hid hge
        clear hge
        go_wp2_with fail
        refine C.out.mono ?_
        rintro e w3 ⟨rfl, b3⟩
        have B3w := Below.trans B2w (b3.mono B2w.size)
        have M := Lib.hid (minus_num m1 h S y w3 (Row5.below NR2.out b3 (Row5.lt NR2.out)) (HY.out.below B3w rfl) HG.out)
        go_wp2_with fail
        refine M.out.mono ?_
        rintro e w4 ⟨m2, rfl, hm2, N4, b4⟩
        have B4w := Below.trans B3w (b4.mono B3w.size)
        have NQ4 : Num w4 w.heap.size (x / 2 ^ (i + 1) / y * 2 ^ (i + 1)) := (NQ2.out.below b3 (Row5.lt NQ2.out)).below b4 (Row5.lt (NQ2.out.below b3 (Row5.lt NQ2.out)))
        obtain ⟨e1, e2⟩ := NQ4 j hj
        have dq := dig_lt (x / 2 ^ (i + 1) / y * 2 ^ (i + 1)) j
        have hm2' : w.heap.size < m2 := by have := Row5.lt (NQ2.out.below b3 (Row5.lt NQ2.out)); omega
        have NP := Lib.hid (Row5.drew1 (num_put NQ4 i150 f3 f4))
        have N5 := Lib.hid (Row5.drew1 (row_far (j := j) (.int .i64 ((dig (x / 2 ^ (i + 1) / y * 2 ^ (i + 1)) j : Nat) + (2 ^ s : Nat) : Int)) N4 (show w.heap.size ≠ m2 by omega)))
        have B5w := Below.drew (Below.setCell (p := ⟨w.heap.size, j, none⟩) B4w (Nat.le_refl _) (.int .i64 ((dig (x / 2 ^ (i + 1) / y * 2 ^ (i + 1)) j : Nat) + (2 ^ s : Nat) : Int)))
        have s29 : (2 : Nat) ^ s ≤ 536870912 := by
          have := Nat.pow_le_pow_right (show 0 < 2 by decide) (show s ≤ 29 by omega)
          simpa using this
        clear N4 NQ4
        go_wp2_with fail
        go_region
        have wv : wrap64 (((dig (x / 2 ^ (i + 1) / y * 2 ^ (i + 1)) j : Nat) : Int) + wrap64 ((2 : Int) ^ s)) = ((dig (x / 2 ^ (i + 1) / y * 2 ^ (i + 1)) j : Nat) : Int) + ((2 ^ s : Nat) : Int) := by
          have e0 : ((2 : Int) ^ s) = ((2 ^ s : Nat) : Int) := by simp
          rw [e0]
          exact wrap_put _ _ dq s29
        rw [wv]
        go_wp2_with fail
        have hm' := hmod.out
        have hd' := hdiv.out
        rw [← HRe.out, ← HT.out, ← HS.out, if_pos HG.out] at hm'
        rw [← HRe.out, ← HT.out, ← HS.out, if_pos HG.out] at hd'
        refine ⟨⟨i, m2, by omega, ?_, rfl, hm2', Lib.hid (by rw [hm']; exact N5.out), Lib.hid ?_, B5w⟩, by simp [intOf]⟩
        · rfl
        · rw [hd', show (2 * (x / 2 ^ (i + 1) / y) + 1) * 2 ^ i = x / 2 ^ (i + 1) / y * 2 ^ (i + 1) + 2 ^ i by rw [Nat.pow_succ]; grind]
          exact NP.out
      · have hc : ¬ 0 ≤ cmpNat S y := by
          unfold cmpNat
          rw [if_pos (by omega)]
          decide
        have HG := Lib.hid hge
        clear hge
        go_wp2_with fail
        refine C.out.mono ?_
        rintro e w3 ⟨rfl, b3⟩
        have B3w := Below.trans B2w (b3.mono B2w.size)
        go_wp2_with fail
        have hm' := hmod.out
        have hd' := hdiv.out
        rw [← HRe.out, ← HT.out, ← HS.out, if_neg HG.out] at hm'
        rw [← HRe.out, ← HT.out, ← HS.out, if_neg HG.out] at hd'
        refine ⟨⟨i, m1, by omega, ?_, rfl, hm1', Lib.hid (by rw [hm']; exact Row5.below NR2.out b3 (Row5.lt NR2.out)), Lib.hid ?_, B3w⟩, by simp [intOf]⟩
        · rfl
        · rw [hd', show (2 * (x / 2 ^ (i + 1) / y)) * 2 ^ i = x / 2 ^ (i + 1) / y * 2 ^ (i + 1) by rw [Nat.pow_succ]; grind]
          exact Row5.below NQ2.out b3 (Row5.lt NQ2.out)

end Go.Proofs.Ytfchbkhgoebagaa
