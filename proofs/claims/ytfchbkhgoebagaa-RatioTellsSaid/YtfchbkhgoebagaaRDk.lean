/- Walks of the reference: Sum, Make. -/
import Derived.Test.YtfchbkhgoebagaaRDj
namespace Go.Proofs.Ytfchbkhgoebagaa
open Go.RowKit Ra
attribute [local go_sem ↓] Go.wp_at_zero Go.wp_at_succ

theorem cmp_ge (x y : Nat) : 0 ≤ cmpNat x y ↔ y ≤ x := by
  unfold cmpNat
  split
  · omega
  · split <;> omega

set_option maxHeartbeats 4000000 in
theorem sum_num (m l : Bool) (g h x y : Nat) (w : World) (hx : Num w g x) (hy : Num w h y) (lx : x < 1073741824 ^ 5) (ly : y < 1073741824 ^ 5) :
    Calls Try.prog 43 #[.slice (some ⟨g, 0, none⟩) 5 5, .bool m, .slice (some ⟨h, 0, none⟩) 5 5, .bool l] w fun e w' => ∃ k, e = .returned (.tuple #[.slice (some ⟨k, 0, none⟩) 5 5, .bool (sumM m l x y)]) ∧ w.heap.size ≤ k ∧ Num w' k (sumT m l x y) ∧ Below w.heap.size w w' := by
  unfold sumM sumT
  have HX := Lib.hid hx
  have HY := Lib.hid hy
  by_cases hm : m = l
  · rw [if_pos hm, if_pos hm]
    subst hm
    have P := Lib.hid (plus_num g h x y w hx hy)
    clear hx hy
    go_enter Try.func43, Try.ntmps43
    go_wp2_with fail
    refine P.out.mono ?_
    rintro e w1 ⟨k, rfl, hk, N, b⟩
    go_wp2_with fail
    exact bodyPost_ret (v := .tuple #[.slice (some ⟨k, 0, none⟩) 5 5, .bool m]) (by simp [results, Try.results43, go_sem]) rfl ⟨_, rfl, hk, N, b⟩
  · rw [if_neg hm, if_neg hm]
    have hb : (m == l) = false := by simp [hm]
    have C := Lib.hid (cmp_num g h x y w hx hy lx ly)
    by_cases hlt : x < y
    · rw [if_pos hlt, if_pos hlt]
      have hc : ¬ 0 ≤ cmpNat x y := fun hh => by have := (cmp_ge x y).1 hh; omega
      have HL := Lib.hid hlt
      clear hx hy hlt hm
      go_enter Try.func43, Try.ntmps43
      go_wp2_with fail
      refine C.out.mono ?_
      rintro e w1 ⟨rfl, b1⟩
      have M := Lib.hid (minus_num h g y x w1 (HY.out.below b1 rfl) (HX.out.below b1 rfl) (Nat.le_of_lt HL.out))
      go_wp2_with fail
      refine M.out.mono ?_
      rintro e w2 ⟨k, rfl, hk, N, b⟩
      go_wp2_with fail
      exact bodyPost_ret (v := .tuple #[.slice (some ⟨k, 0, none⟩) 5 5, .bool l]) (by simp [results, Try.results43, go_sem]) rfl ⟨_, rfl, Nat.le_trans b1.size hk, N, Below.trans b1 (b.mono b1.size)⟩
    · rw [if_neg hlt, if_neg hlt]
      have hc : 0 ≤ cmpNat x y := (cmp_ge x y).2 (by omega)
      have HL := Lib.hid hlt
      clear hx hy hlt hm
      go_enter Try.func43, Try.ntmps43
      go_wp2_with fail
      refine C.out.mono ?_
      rintro e w1 ⟨rfl, b1⟩
      have M := Lib.hid (minus_num g h x y w1 (HX.out.below b1 rfl) (HY.out.below b1 rfl) (Nat.le_of_not_lt HL.out))
      go_wp2_with fail
      refine M.out.mono ?_
      rintro e w2 ⟨k, rfl, hk, N, b⟩
      go_wp2_with fail
      exact bodyPost_ret (v := .tuple #[.slice (some ⟨k, 0, none⟩) 5 5, .bool m]) (by simp [results, Try.results43, go_sem]) rfl ⟨_, rfl, Nat.le_trans b1.size hk, N, Below.trans b1 (b.mono b1.size)⟩

theorem rmake_zero (n : Int) (w : World) :
    Calls Try.prog 14 #[.int .i64 n, .int .i64 0] w fun e w' => e = .returned (.tuple #[Qv ⟨0, 0⟩, .int .i64 1]) ∧ Below w.heap.size w w' := by
  go_enter Try.func14, Try.ntmps14
  go_wp2_with fail
  refine bodyPost_ret (v := .tuple #[.agg #[.int .i64 0, .int .i64 0], .int .i64 1]) (by simp [results, Try.results14, go_sem]) rfl ⟨rfl, ?_⟩
  repeat first | exact Below.refl _ _ | refine below_drewN ?_ _ | refine Below.setCell ?_ (by simp <;> omega) _ | refine Below.alloc ?_ (by simp <;> omega) _

set_option maxHeartbeats 4000000 in
theorem rmake_core (n d : Int) (neg : Bool) (v u er : Int) (w : World) (n0 : -9223372036854775808 ≤ n) (n1 : n ≤ 9223372036854775807) (d0 : -9223372036854775808 ≤ d) (d1 : d ≤ 9223372036854775807) (hd : (d == 0) = false)
    (hz : (n != 0) = true) (hneg : (decide (n < 0) == decide (d < 0)) = !neg)
    (HV : Hid (∀ (g h : Nat) (w : World), Num w g n.natAbs → Num w h d.natAbs → Calls Try.prog 35 #[.bool neg, .slice (some ⟨g, 0, none⟩) 5 5, .slice (some ⟨h, 0, none⟩) 5 5] w fun e w' => e = .returned (.tuple #[.agg #[.int .i64 v, .int .i64 u], .int .i64 er]) ∧ Below w.heap.size w w')) :
    Calls Try.prog 14 #[.int .i64 n, .int .i64 d] w fun e w' => e = .returned (.tuple #[.agg #[.int .i64 v, .int .i64 u], .int .i64 er]) ∧ Below w.heap.size w w' := by
  obtain ⟨W, hW⟩ : ∃ W, W = w.alloc (.cells #[.int .i64 0, .int .i64 0] 23) := ⟨_, rfl⟩
  have r0 : W.cell? ⟨w.heap.size, 0, none⟩ = some (.int .i64 0) := by rw [hW]; simp [go_sem]
  have r1 : W.cell? ⟨w.heap.size, 1, none⟩ = some (.int .i64 0) := by rw [hW]; simp [go_sem]
  have f0 : W.frozen? ⟨w.heap.size, 0, none⟩ = false := by rw [hW]; simp [go_sem]
  have f1 : W.frozen? ⟨w.heap.size, 1, none⟩ = false := by rw [hW]; simp [go_sem]
  have B0 : Below w.heap.size w W := by rw [hW]; exact Below.alloc (Below.refl _ _) (Nat.le_refl _) _
  have HW := Lib.hid hW
  clear hW
  have C1 := Lib.hid (of_num n W n0 n1)
  have A34 := Lib.hid (And.intro d0 d1)
  clear n0 n1 d0 d1
  go_enter Try.func14, Try.ntmps14
  go_wp2_with fail
  rw [← HW.out]
  refine C1.out.mono ?_
  rintro e w1 ⟨k1, rfl, hk1, N1, b1⟩
  have R1 := pair_old b1 rfl r0 r1 f0 f1
  have B1 := Below.trans B0 (b1.mono B0.size)
  have D1 := Lib.hid N1
  have C2 := Lib.hid (of_num d w1 A34.out.1 A34.out.2)
  clear r0 r1 f0 f1 N1
  go_wp2_with fail
  refine C2.out.mono ?_
  rintro e w2 ⟨k2, rfl, hk2, N2, b2⟩
  obtain ⟨r0, r1, f0, f1⟩ := R1
  have R2 := pair_old b2 rfl r0 r1 f0 f1
  have B2 := Below.trans B1 (b2.mono B1.size)
  have C3 := Lib.hid (HV.out k1 k2 w2 (D1.out.below b2 rfl) N2)
  clear r0 r1 f0 f1 N2
  go_wp2_with fail
  refine C3.out.mono ?_
  rintro e w3 ⟨rfl, b3⟩
  obtain ⟨r0, r1, f0, f1⟩ := R2
  obtain ⟨r0, r1, f0, f1⟩ := pair_old b3 rfl r0 r1 f0 f1
  have B3 := Below.trans B2 (b3.mono B2.size)
  go_wp2_with fail
  refine bodyPost_ret (v := .tuple #[.agg #[.int .i64 v, .int .i64 u], .int .i64 er]) (by simp [results, Try.results14, go_sem, *]) rfl ⟨rfl, ?_⟩
  exact Below.setCell (Below.setCell B3 (by simp only; omega) _) (by simp only; omega) _

set_option maxHeartbeats 4000000 in
theorem rmake_n0 (d : Int) (v u er : Int) (w : World) (d0 : -9223372036854775808 ≤ d) (d1 : d ≤ 9223372036854775807) (hd : (d == 0) = false)
    (HV : Hid (∀ (g h : Nat) (w : World), Num w g 0 → Num w h d.natAbs → Calls Try.prog 35 #[.bool false, .slice (some ⟨g, 0, none⟩) 5 5, .slice (some ⟨h, 0, none⟩) 5 5] w fun e w' => e = .returned (.tuple #[.agg #[.int .i64 v, .int .i64 u], .int .i64 er]) ∧ Below w.heap.size w w')) :
    Calls Try.prog 14 #[.int .i64 0, .int .i64 d] w fun e w' => e = .returned (.tuple #[.agg #[.int .i64 v, .int .i64 u], .int .i64 er]) ∧ Below w.heap.size w w' := by
  obtain ⟨W, hW⟩ : ∃ W, W = w.alloc (.cells #[.int .i64 0, .int .i64 0] 23) := ⟨_, rfl⟩
  have r0 : W.cell? ⟨w.heap.size, 0, none⟩ = some (.int .i64 0) := by rw [hW]; simp [go_sem]
  have r1 : W.cell? ⟨w.heap.size, 1, none⟩ = some (.int .i64 0) := by rw [hW]; simp [go_sem]
  have f0 : W.frozen? ⟨w.heap.size, 0, none⟩ = false := by rw [hW]; simp [go_sem]
  have f1 : W.frozen? ⟨w.heap.size, 1, none⟩ = false := by rw [hW]; simp [go_sem]
  have B0 : Below w.heap.size w W := by rw [hW]; exact Below.alloc (Below.refl _ _) (Nat.le_refl _) _
  have HW := Lib.hid hW
  clear hW
  have C1 := Lib.hid (of_num 0 W (by decide) (by decide))
  have A34 := Lib.hid (And.intro d0 d1)
  clear d0 d1
  go_enter Try.func14, Try.ntmps14
  go_wp2_with fail
  rw [← HW.out]
  refine C1.out.mono ?_
  rintro e w1 ⟨k1, rfl, hk1, N1, b1⟩
  have R1 := pair_old b1 rfl r0 r1 f0 f1
  have B1 := Below.trans B0 (b1.mono B0.size)
  have D1 := Lib.hid N1
  have C2 := Lib.hid (of_num d w1 A34.out.1 A34.out.2)
  clear r0 r1 f0 f1 N1
  go_wp2_with fail
  refine C2.out.mono ?_
  rintro e w2 ⟨k2, rfl, hk2, N2, b2⟩
  obtain ⟨r0, r1, f0, f1⟩ := R1
  have R2 := pair_old b2 rfl r0 r1 f0 f1
  have B2 := Below.trans B1 (b2.mono B1.size)
  have C3 := Lib.hid (HV.out k1 k2 w2 (D1.out.below b2 rfl) N2)
  clear r0 r1 f0 f1 N2
  go_wp2_with fail
  refine C3.out.mono ?_
  rintro e w3 ⟨rfl, b3⟩
  obtain ⟨r0, r1, f0, f1⟩ := R2
  obtain ⟨r0, r1, f0, f1⟩ := pair_old b3 rfl r0 r1 f0 f1
  have B3 := Below.trans B2 (b3.mono B2.size)
  go_wp2_with fail
  refine bodyPost_ret (v := .tuple #[.agg #[.int .i64 v, .int .i64 u], .int .i64 er]) (by simp [results, Try.results14, go_sem, *]) rfl ⟨rfl, ?_⟩
  exact Below.setCell (Below.setCell B3 (by simp only; omega) _) (by simp only; omega) _

theorem signed_zero (s : Bool) : signed s 0 = 0 := by unfold signed; cases s <;> rfl
theorem rmake_any (n d : Int) (w : World) (n0 : -9223372036854775808 ≤ n) (n1 : n ≤ 9223372036854775807) (d0 : -9223372036854775808 ≤ d) (d1 : d ≤ 9223372036854775807) :
    Calls Try.prog 14 #[.int .i64 n, .int .i64 d] w fun e w' => e = .returned (.tuple #[Qv (makeV n d), .int .i64 (makeE n d)]) ∧ Below w.heap.size w w' := by
  unfold makeV makeE
  by_cases hd : d = 0
  · subst hd
    rw [if_pos rfl, if_pos rfl]
    exact rmake_zero n w
  rw [if_neg hd, if_neg hd]
  have e : (if d < 0 then -n else n) = signed (!(n == 0) && !(decide (n < 0) == decide (d < 0))) n.natAbs := by
    unfold signed
    by_cases h0 : n = 0
    · subst h0; simp
    · by_cases h1 : n < 0 <;> by_cases h2 : d < 0 <;> simp [h0, h1, h2] <;> omega
  rw [e]
  have hn5 := n63 n0 n1
  have hd5 := n63 d0 d1
  by_cases h0 : n = 0
  · subst h0
    simp only [BEq.rfl, Bool.not_true, Bool.false_and]
    exact rmake_n0 d _ _ _ w d0 d1 (by simp [hd]) (Lib.hid fun g h w hx hy => give_num false g h _ _ w hx hy hn5.1 hd5.2 (by omega))
  · refine rmake_core n d _ _ _ _ w n0 n1 d0 d1 (by simp [hd]) (by simp [h0]) ?_ (Lib.hid fun g h w hx hy => give_num _ g h _ _ w hx hy hn5.1 hd5.2 (by omega))
    have : (n == 0) = false := by simp [h0]
    rw [this]
    simp

end Go.Proofs.Ytfchbkhgoebagaa
