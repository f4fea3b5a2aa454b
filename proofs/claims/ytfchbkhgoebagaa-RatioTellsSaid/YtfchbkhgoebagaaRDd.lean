/- Walks of the reference: Of. -/
import Derived.Test.YtfchbkhgoebagaaRDc
namespace Go.Proofs.Ytfchbkhgoebagaa
open Go.RowKit

set_option maxHeartbeats 2000000 in
theorem of_num (n : Int) (w : World) (n0 : -9223372036854775808 ≤ n) (n1 : n ≤ 9223372036854775807) :
    Calls Try.prog 36 #[.int .i64 n] w fun e w' => ∃ k, e = .returned (.slice (some ⟨k, 0, none⟩) 5 5) ∧ w.heap.size ≤ k ∧ Num w' k n.natAbs ∧ Below w.heap.size w w' := by
  have hmk := mk5
  have hN : n.natAbs ≤ 9223372036854775808 := by omega
  obtain ⟨N, hNe⟩ : ∃ N, N = n.natAbs := ⟨_, rfl⟩
  rw [← hNe] at hN
  rw [← hNe]
  have HNe := Lib.hid hNe
  clear hNe
  go_enter Try.func36, Try.ntmps36
  go_wp2_with fail
  have R0 := Lib.hid (row_new w)
  have B0 : Below w.heap.size w (w.alloc (.cells #[.int .i64 0, .int .i64 0, .int .i64 0, .int .i64 0, .int .i64 0] 3)) := (Below.refl _ _).alloc (Nat.le_refl _) _
  go_loopw [0, 4, 5] (fun v i _ wr => ∃ (k : Nat) (m : Int), k ≤ 3 ∧ i = .int .i64 k ∧ v = .int .i64 m ∧ Hid (m.natAbs = N / 1073741824 ^ k) ∧ -9223372036854775808 ≤ m ∧ m ≤ 9223372036854775807 ∧ Hid (Row5 wr w.heap.size fun j => if j < k then ((dig N j : Nat) : Int) else 0) ∧ Below w.heap.size w wr) (fun _ i _ _ => 3 - (intOf i).toNat)
  case atStart => exact ⟨0, n, by decide, rfl, rfl, Lib.hid (by rw [← HNe.out]; simp), n0, n1, Lib.hid (row_congr R0.out fun j _ => by rw [if_neg (by omega)]), B0⟩
  case round =>
    obtain ⟨k, m, hk, rfl, rfl, HM, m0, m1, HR, hb⟩ := hrel
    by_cases hlt : k < 3
    · obtain ⟨t, ht⟩ : ∃ t, m.tmod 1073741824 = t := ⟨_, rfl⟩
      obtain ⟨q, hq⟩ : ∃ q, m.tdiv 1073741824 = q := ⟨_, rfl⟩
      have hta : t.natAbs = dig N k := by
        rw [← ht, Int.natAbs_tmod, HM.out]
        rfl
      have hqa : q.natAbs = N / 1073741824 ^ (k + 1) := by
        rw [← hq, Int.natAbs_tdiv, HM.out, Nat.pow_succ, ← Nat.div_div_eq_div_mul]
        rfl
      have hqm : q.natAbs ≤ m.natAbs := by
        rw [← hq, Int.natAbs_tdiv]
        exact Nat.div_le_self _ _
      have dl := dig_lt N k
      have q0 : -9223372036854775808 ≤ q ∧ q ≤ 9223372036854775807 := by
        have : q.natAbs ≤ m.natAbs / 1073741824 := by rw [← hq, Int.natAbs_tdiv]; exact Nat.le_refl _
        omega
      have w1 : IntKind.i64.wrap t = t := IntWalk.i64_in _ (by omega)
      have w2 : IntKind.i64.wrap q = q := IntWalk.i64_in _ (by omega)
      have w3 : IntKind.i64.wrap (-t) = -t := IntWalk.i64_in _ (by omega)
      have HQ := Lib.hid hqa
      have HT := Lib.hid hta
      obtain ⟨q1, q2⟩ := q0
      obtain ⟨e3, e4⟩ := HR.out k (by omega)
      have k0 : (0 : Int) ≤ (k : Int) := by omega
      have k1 : (k : Int) < 5 := by omega
      have k2 : (k : Int) < 3 := by omega
      clear hqa hta hqm dl
      by_cases hs : t < 0
      · go_wp2_with fail
        have hta := HT.out
        refine ⟨⟨k + 1, q, by omega, congrArg (Value.int .i64) (by omega), rfl, HQ, q1, q2, Lib.hid (row_congr (row_set HR.out (by omega) _) fun j hj => ?_), Below.setCell hb (Nat.le_refl _) _⟩, by simp [intOf]; omega⟩
        by_cases hj : j = k
        · subst hj
          rw [if_pos rfl, if_pos (by omega)]
          omega
        · rw [if_neg hj]
          by_cases h2 : j < k
          · rw [if_pos h2, if_pos (by omega)]
          · rw [if_neg h2, if_neg (by omega)]
      · go_wp2_with fail
        have hta := HT.out
        refine ⟨⟨k + 1, q, by omega, congrArg (Value.int .i64) (by omega), rfl, HQ, q1, q2, Lib.hid (row_congr (row_set HR.out (by omega) _) fun j hj => ?_), Below.setCell hb (Nat.le_refl _) _⟩, by simp [intOf]; omega⟩
        by_cases hj : j = k
        · subst hj
          rw [if_pos rfl, if_pos (by omega)]
          omega
        · rw [if_neg hj]
          by_cases h2 : j < k
          · rw [if_pos h2, if_pos (by omega)]
          · rw [if_neg h2, if_neg (by omega)]
    · have e5 : k = 3 := by omega
      subst e5
      go_wp2_with fail
      go_ret
      refine ⟨_, rfl, Nat.le_refl _, row_congr HR.out fun j hj => ?_, hb⟩
      by_cases h3 : j < 3
      · rw [if_pos h3]
      · rw [if_neg h3, dig_high (k := 3) (Nat.lt_of_le_of_lt hN (by decide)) (by omega)]
        rfl

end Go.Proofs.Ytfchbkhgoebagaa
