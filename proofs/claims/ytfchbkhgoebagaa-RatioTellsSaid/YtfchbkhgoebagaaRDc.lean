/- Walks of the reference: Cmp, Zero, Of. -/
import Derived.Test.YtfchbkhgoebagaaRDb
namespace Go.Proofs.Ytfchbkhgoebagaa
open Go.RowKit

def cmpNat (x y : Nat) : Int := if x < y then -1 else if y < x then 1 else 0
theorem div_dig (x k : Nat) : x / 1073741824 ^ k = 1073741824 * (x / 1073741824 ^ (k + 1)) + dig x k := by
  unfold dig
  rw [Nat.pow_succ, ← Nat.div_div_eq_div_mul]
  omega
theorem lt_of_dig {x y k : Nat} (h : x / 1073741824 ^ (k + 1) = y / 1073741824 ^ (k + 1)) (hd : dig x k < dig y k) : x < y := by
  have h1 := div_dig x k
  have h2 := div_dig y k
  exact Nat.lt_of_div_lt_div (c := 1073741824 ^ k) (by omega)

set_option maxHeartbeats 2000000 in
theorem cmp_num (g h x y : Nat) (w : World) (hx : Num w g x) (hy : Num w h y) (lx : x < 1073741824 ^ 5) (ly : y < 1073741824 ^ 5) :
    Calls Try.prog 37 #[.slice (some ⟨g, 0, none⟩) 5 5, .slice (some ⟨h, 0, none⟩) 5 5] w fun e w' => e = .returned (.int .i64 (cmpNat x y)) ∧ Below w.heap.size w w' := by
  have HX := Lib.hid hx
  have HY := Lib.hid hy
  have HL := Lib.hid (show x / 1073741824 ^ 5 = y / 1073741824 ^ 5 by rw [Nat.div_eq_of_lt lx, Nat.div_eq_of_lt ly])
  clear hx hy lx ly
  go_enter Try.func37, Try.ntmps37
  go_wp2_with fail
  go_loopw [5] (fun i wr => ∃ k : Nat, k ≤ 5 ∧ i = .int .i64 ((k : Int) - 1) ∧ Hid (x / 1073741824 ^ k = y / 1073741824 ^ k) ∧ Below w.heap.size w wr) (fun i _ => (intOf i + 1).toNat)
  case atStart => exact ⟨5, by decide, rfl, HL, Below.refl _ _⟩
  case round =>
    obtain ⟨k, hk, rfl, HE, hb⟩ := hrel
    by_cases h0 : k = 0
    · subst h0
      have e : cmpNat x y = 0 := by
        have := HE.out
        simp only [Nat.pow_zero, Nat.div_one] at this
        unfold cmpNat
        rw [if_neg (by omega), if_neg (by omega)]
      go_wp2_with fail
      go_ret
      exact ⟨by rw [e]; rfl, hb⟩
    · obtain ⟨j, rfl⟩ : ∃ j, k = j + 1 := ⟨k - 1, by omega⟩
      have hlt : j < 5 := by omega
      have d1 := dig_lt x j
      have d2 := dig_lt y j
      have e1 := (HX.out.below hb rfl j hlt).1
      have e2 := (HY.out.below hb rfl j hlt).1
      have k0 : (0 : Int) ≤ (j : Int) := by omega
      have k1 : (j : Int) < 5 := by omega
      have hj : ((j + 1 : Nat) : Int) - 1 = j := by omega
      rw [hj]
      clear hj h0
      rcases Nat.lt_trichotomy (dig x j) (dig y j) with c | c | c
      · have e : cmpNat x y = -1 := by
          have := lt_of_dig HE.out c
          unfold cmpNat
          rw [if_pos (by omega)]
        have i1 : ((dig x j : Nat) : Int) < ((dig y j : Nat) : Int) := by omega
        go_wp2_with fail
        go_quiet (fail)
        go_wp2_with fail
        go_ret
        exact ⟨by rw [e]; rfl, below_drewN hb _⟩
      · have i1 : ¬ ((dig x j : Nat) : Int) < ((dig y j : Nat) : Int) := by omega
        have i2 : ¬ ((dig y j : Nat) : Int) < ((dig x j : Nat) : Int) := by omega
        have HN := Lib.hid (show x / 1073741824 ^ j = y / 1073741824 ^ j by rw [div_dig x j, div_dig y j, HE.out, c])
        clear c
        go_wp2_with fail
        go_quiet (fail)
        go_wp2_with fail
        go_quiet (fail)
        go_wp2_with fail
        refine ⟨⟨j, by omega, rfl, HN, below_drewN hb _⟩, by simp [intOf]⟩
      · have e : cmpNat x y = 1 := by
          have := lt_of_dig HE.out.symm c
          unfold cmpNat
          rw [if_neg (by omega), if_pos (by omega)]
        have i1 : ¬ ((dig x j : Nat) : Int) < ((dig y j : Nat) : Int) := by omega
        have i2 : ((dig y j : Nat) : Int) < ((dig x j : Nat) : Int) := by omega
        go_wp2_with fail
        go_quiet (fail)
        go_wp2_with fail
        go_quiet (fail)
        go_wp2_with fail
        go_ret
        exact ⟨by rw [e]; rfl, below_drewN (below_drewN hb _) _⟩

theorem num_zero {w : World} {g : Nat} (h : Row5 w g fun _ => 0) : Num w g 0 := row_congr h fun j _ => by simp [dig]

theorem zero_num (g x : Nat) (w : World) (hx : Num w g x) (lx : x < 1073741824 ^ 5) :
    Calls Try.prog 45 #[.slice (some ⟨g, 0, none⟩) 5 5] w fun e w' => e = .returned (.bool (decide (x = 0))) ∧ Below w.heap.size w w' := by
  have hmk := mk5
  have B0 : Below w.heap.size w (w.alloc (.cells #[.int .i64 0, .int .i64 0, .int .i64 0, .int .i64 0, .int .i64 0] 3)) := (Below.refl _ _).alloc (Nat.le_refl _) _
  have HC := Lib.hid (cmp_num g w.heap.size x 0 _ (hx.below B0 rfl) (num_zero (row_new w)) lx (by decide))
  clear hx
  go_enter Try.func45, Try.ntmps45
  go_wp2_with fail
  refine HC.out.mono ?_
  rintro e w1 ⟨rfl, b1⟩
  go_wp2_with fail
  go_ret
  refine ⟨?_, Below.trans B0 (b1.mono B0.size)⟩
  have : (cmpNat x 0 == 0) = decide (x = 0) := by
    unfold cmpNat
    by_cases h : x = 0
    · simp [h]
    · rw [if_neg (by omega), if_pos (by omega)]; simp [h]
  rw [← this]
  rfl

end Go.Proofs.Ytfchbkhgoebagaa
