/- The statement MoneyReturns, walked. -/
import Derived.Test.YtphbgobdkmjijaaMFrom
namespace Go.Proofs.Ytphbgobdkmjijaa
open Go.RowKit Mo

theorem refFind_from (A : Option Addr) (n c : Nat) (rs : List Rate) (f t day : Int) (W w : World) (hr : Hid (RR W W.heap.size A rs)) (hn : Hid (rs.length = n)) (h : Lat W w) :
    Calls Try.prog 16 #[.slice A n c, .int .i64 f, .int .i64 t, .int .i64 day] w fun e w' => (∃ v, e = .returned v ∧ IsBest rs rs.length (find rs f t day) v) ∧ Lat W w' := by
  have hn' := hn.out
  subst hn'
  refine (refFind_any A _ c rs f t day w (h.rates hr)).mono ?_
  rintro e w' ⟨hx, n, rfl⟩
  exact ⟨hx, h.step (below_drewN (Below.refl _ _) _)⟩

/-- there and back -/
theorem back_plain {s n d : Int} (s0 : 0 ≤ s) (n0 : 1 ≤ n) (d0 : 1 ≤ d) : 0 ≤ s * n / d ∧ 0 ≤ s * n / d * d / n ∧ s * n / d * d / n ≤ s ∧ s - s * n / d * d / n ≤ d / n + 1 := by
  have h1 := Int.mul_ediv_add_emod (s * n) d
  have r1 := Int.emod_nonneg (s * n) (show d ≠ 0 by omega)
  have t1 := Int.emod_lt_of_pos (s * n) (show 0 < d by omega)
  have hx : 0 ≤ s * n / d := Int.ediv_nonneg (Int.mul_nonneg s0 (by omega)) (by omega)
  generalize s * n / d = x at *
  rw [Int.mul_comm d x] at h1
  have hxd : 0 ≤ x * d := Int.mul_nonneg hx (by omega)
  have h2 := Int.mul_ediv_add_emod (x * d) n
  have r2 := Int.emod_nonneg (x * d) (show n ≠ 0 by omega)
  have t2 := Int.emod_lt_of_pos (x * d) (show 0 < n by omega)
  have hy : 0 ≤ x * d / n := Int.ediv_nonneg hxd (by omega)
  generalize x * d / n = y at *
  rw [Int.mul_comm n y] at h2
  have hle : y ≤ s := by
    by_cases h : y ≤ s
    · exact h
    · have : (s + 1) * n ≤ y * n := Int.mul_le_mul_of_nonneg_right (by omega) (by omega)
      rw [Int.add_mul] at this; omega
  refine ⟨hx, hy, hle, ?_⟩
  have h3 : (s - y) * n ≤ d + n - 2 := by rw [Int.sub_mul]; omega
  have h4 : s - y ≤ (d + n - 2) / n := (Int.le_ediv_iff_mul_le (by omega)).2 h3
  have h5 : (d + n - 2) / n ≤ (d + n * 1) / n := Int.ediv_le_ediv (by omega) (by omega)
  rw [Int.add_mul_ediv_left _ _ (by omega)] at h5
  omega

theorem cVal_err {rs : List Rate} {s f t day : Int} (h : cErr rs s f t day ≠ 0) : cVal rs s f t day = 0 := by
  unfold cVal cErr at *
  split
  · rename_i hc
    rw [if_pos hc] at h
    split
    · rename_i he; rw [if_pos he] at h; exact absurd rfl h
    · rename_i he
      rw [if_neg he] at h
      cases hw : which rs f t day with
      | none => rfl
      | some p =>
        rw [hw] at h
        simp only [capE, capV] at h ⊢
        split
        · rfl
        · rename_i hg; rw [if_neg hg] at h; exact absurd rfl h
  · rfl

theorem back_law {rs : List Rate} {s f t day : Int} {r : Rate} (he : cErr rs s f t day = 0) (hne : f ≠ t) (h1 : find rs f t day = some r) (h2 : find rs t f day = none) :
    cErr rs (cVal rs s f t day) t f day = 0 ∧ cVal rs (cVal rs s f t day) t f day ≤ s ∧ s - cVal rs (cVal rs s f t day) t f day ≤ r.d / r.n + 1 ∧ (1 ≤ r.n ∧ r.n ≤ 1073741824) ∧ (1 ≤ r.d ∧ r.d ≤ 1073741824) ∧ 0 ≤ s ∧ s ≤ 1099511627776 := by
  obtain ⟨hc, hrest⟩ := cErr_ok.1 he
  have hw : which rs f t day = some (r.n, r.d) := by unfold which; rw [h1]
  have hw2 : which rs t f day = some (r.d, r.n) := by unfold which; rw [h2, h1]
  obtain ⟨n0, n1, d0, d1⟩ := which_ok hc hw
  obtain ⟨hl, ⟨s0, s1⟩, hd, hr⟩ := hc
  have hle : s * r.n / r.d ≤ 1099511627776 := by
    rcases hrest with e | ⟨_, a, b, hab, hle⟩
    · exact absurd e hne
    · rw [hw] at hab; injection hab with hab; injection hab with ha hb; subst ha hb; exact hle
  have hx : cVal rs s f t day = s * r.n / r.d := cVal_which ⟨hl, ⟨s0, s1⟩, hd, hr⟩ hne hw hle
  obtain ⟨x0, y0, y1, y2⟩ := back_plain s0 n0 d0
  have k : cOk rs (s * r.n / r.d) day := ⟨hl, ⟨x0, hle⟩, hd, hr⟩
  have hyl : s * r.n / r.d * r.d / r.n ≤ 1099511627776 := by omega
  have hy := cVal_which k (Ne.symm hne) hw2 hyl
  rw [hx, hy]
  exact ⟨cErr_ok.2 ⟨k, .inr ⟨Ne.symm hne, r.d, r.n, hw2, hyl⟩⟩, y1, y2, ⟨n0, n1⟩, ⟨d0, d1⟩, s0, s1⟩

set_option maxRecDepth 100000 in
set_option maxHeartbeats 8000000 in
theorem returns_any (A : Option Addr) (cp : Nat) (rs : List Rate) (s f t day : Int) (w : World) (hr : RR w w.heap.size A rs) :
    Calls Try.prog 6 #[.slice A rs.length cp, .int .i64 s, .int .i64 f, .int .i64 t, .int .i64 day] w fun e w' => e = .returned (.bool true) ∧ Below w.heap.size w w' := by
  have hlen := hr.1.1
  have HR := Lib.hid hr
  have HL : Lat w w := Lat.refl w
  clear hr
  by_cases h100 : (100 : Int) < rs.length
  · go_enter Try.func6, Try.ntmps6
    go_wp2_with fail
    refine (sane_from w _ HL).mono ?_
    rintro e w1 ⟨rfl, L1⟩
    go_wp2
    go_ret
    exact ⟨rfl, L1⟩
  · go_enter Try.func6, Try.ntmps6
    go_wp2_with fail
    refine (sane_from w _ HL).mono ?_
    rintro e w1 ⟨rfl, L1⟩
    go_wp2_with fail
    refine (convert_from A _ _ rs _ _ _ _ w _ HR (Lib.hid rfl) L1).mono ?_
    rintro e w2 ⟨rfl, L2⟩
    go_wp2_with fail
    refine (convert_from A _ _ rs _ _ _ _ w _ HR (Lib.hid rfl) L2).mono ?_
    rintro e w3 ⟨rfl, L3⟩
    go_wp2_with fail
    refine (refFind_from A _ _ rs _ _ _ w _ HR (Lib.hid rfl) L3).mono ?_
    rintro e w4 ⟨⟨v, rfl, hv⟩, L4⟩
    by_cases he : cErr rs s f t day = 0
    · by_cases hft : f = t
      · have hx : cVal rs s f t day = s := cVal_same (cErr_ok.1 he).1 hft
        have b1 : (f == t) = true := by simp [hft]
        clear hft
        go_wp2
        go_ret
        exact ⟨rfl, L4⟩
      · have b1 : (f == t) = false := by simp [hft]
        cases h1 : find rs f t day with
        | none =>
          rw [h1] at hv
          obtain rfl : v = Value.int .i64 (-1) := hv
          clear hft h1
          go_wp2
          go_ret
          exact ⟨rfl, L4⟩
        | some r =>
          rw [h1] at hv
          obtain ⟨j, hj, hjr, rfl⟩ := hv
          cases h2 : find rs t f day with
          | some q =>
            clear hft h1 hjr
            have H2 := Lib.hid h2
            clear h2
            go_wp2_with fail
            refine (refFind_from A _ _ rs _ _ _ w _ HR (Lib.hid rfl) L4).mono ?_
            rintro e w5 ⟨⟨v, rfl, hv⟩, L5⟩
            rw [H2.out] at hv
            obtain ⟨i, hi, _, rfl⟩ := hv
            go_wp2
            go_ret
            exact ⟨rfl, L5⟩
          | none =>
            obtain ⟨g1, g2, g3, ⟨n0, n1⟩, ⟨d0, d1⟩, s0, s1⟩ := back_law he hft h1 h2
            have bd := cVal_bd rs (cVal rs s f t day) t f day
            have q0 : 0 ≤ r.d / r.n := Int.ediv_nonneg (by omega) (by omega)
            have q1 : r.d / r.n ≤ r.d := Int.ediv_le_self _ (by omega)
            have H2 := Lib.hid h2
            have HJ := Lib.hid hjr
            clear hft h1 h2 hjr
            go_wp2_with fail
            refine (refFind_from A _ _ rs _ _ _ w _ HR (Lib.hid rfl) L4).mono ?_
            rintro e w5 ⟨⟨v, rfl, hv⟩, L5⟩
            rw [H2.out] at hv
            obtain rfl : v = Value.int .i64 (-1) := hv
            obtain ⟨b, off, rfl, c1, c2, c3, c4, c5⟩ := (L5.rates HR).cells HJ.out
            have v1 : IntKind.i64.wrap (r.d / r.n) = r.d / r.n := IntWalk.i64_in _ (by omega)
            have v2 : IntKind.i64.wrap (r.d / r.n + 1) = r.d / r.n + 1 := IntWalk.i64_in _ (by omega)
            obtain ⟨y, hy⟩ : ∃ y, y = cVal rs (cVal rs s f t day) t f day := ⟨_, rfl⟩
            rw [← hy] at g2 g3 bd ⊢
            have v3 : IntKind.i64.wrap (s - y) = s - y := IntWalk.i64_in _ (by omega)
            have k1 : decide (y ≤ s) = true := by simpa using g2
            clear hy
            go_wp2
            go_quiet (fail)
            go_wp2
            go_ret
            exact ⟨rfl, Lat.step L5 (below_drewN (Below.refl _ _) _)⟩
    · have hx := cVal_err he
      have b1 : (cErr rs s f t day == 0) = false := by simpa using he
      have b2 : (cErr rs s f t day != 0) = true := by simpa using he
      clear he
      go_wp2
      go_ret
      exact ⟨rfl, L4⟩

end Go.Proofs.Ytphbgobdkmjijaa
