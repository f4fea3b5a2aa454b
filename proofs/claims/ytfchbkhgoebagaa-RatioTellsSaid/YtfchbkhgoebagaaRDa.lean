/- Walks of the reference: Plus. -/
import Derived.Test.YtfchbkhgoebagaaRDig
import Derived.Test.YtfchbkhgoebagaaREnds
import Derived.BigQuiet
import Derived.Deep.QuietTactic
namespace Go.Proofs.Ytfchbkhgoebagaa
open Go.RowKit

def Sl (g : Nat) : Value := .slice (some ⟨g, 0, none⟩) 5 5
theorem row_new (w : World) : Row5 (w.alloc (.cells #[.int .i64 0, .int .i64 0, .int .i64 0, .int .i64 0, .int .i64 0] 3)) w.heap.size fun _ => 0 := by
  intro j hj
  match j, hj with
  | 0, _ => simp [go_sem]
  | 1, _ => simp [go_sem]
  | 2, _ => simp [go_sem]
  | 3, _ => simp [go_sem]
  | 4, _ => simp [go_sem]

theorem mk5 (w : World) : (Instr.makeSlice 45 (.int .i64 5) (.int .i64 5)).run Try.prog w = .ok (.slice (some ⟨w.heap.size, 0, none⟩) 5 5) (w.alloc (.cells #[.int .i64 0, .int .i64 0, .int .i64 0, .int .i64 0, .int .i64 0] 3)) := by kernel_rfl

set_option maxHeartbeats 2000000 in
theorem plus_num (g h x y : Nat) (w : World) (hx : Num w g x) (hy : Num w h y) :
    Calls Try.prog 51 #[.slice (some ⟨g, 0, none⟩) 5 5, .slice (some ⟨h, 0, none⟩) 5 5] w fun e w' => ∃ k, e = .returned (.slice (some ⟨k, 0, none⟩) 5 5) ∧ w.heap.size ≤ k ∧ Num w' k (x + y) ∧ Below w.heap.size w w' := by
  have HX := Lib.hid hx
  have HY := Lib.hid hy
  clear hx hy
  have hmk := mk5
  go_enter Try.func51, Try.ntmps51
  go_wp2_with fail
  have R0 := Lib.hid (row_new w)
  have B0 : Below w.heap.size w (w.alloc (.cells #[.int .i64 0, .int .i64 0, .int .i64 0, .int .i64 0, .int .i64 0] 3)) := (Below.refl _ _).alloc (Nat.le_refl _) _
  go_loopw [6, 7] (fun c i wr => ∃ k : Nat, k ≤ 5 ∧ i = .int .i64 k ∧ c = .int .i64 (carry x y k : Nat) ∧ Hid (Row5 wr w.heap.size fun j => if j < k then ((dig (x + y) j : Nat) : Int) else 0) ∧ Below w.heap.size w wr) (fun _ i _ => 5 - (intOf i).toNat)
  case atStart => exact ⟨0, by decide, rfl, by rw [carry_zero]; rfl, Lib.hid (row_congr R0.out fun j _ => by rw [if_neg (by omega)]), B0⟩
  case round =>
    obtain ⟨k, hk, rfl, rfl, HR, hb⟩ := hrel
    have hc1 := carry_le x y k
    by_cases hlt : k < 5
    · have d1 := dig_lt x k
      have d2 := dig_lt y k
      have e1 := (HX.out.below hb rfl k hlt).1
      have e2 := (HY.out.below hb rfl k hlt).1
      obtain ⟨e3, e4⟩ := HR.out k hlt
      have k0 : (0 : Int) ≤ (k : Int) := by omega
      have k1 : (k : Int) < 5 := by omega
      go_wp2_with fail
      go_quiet (fail)
      go_wp2_with fail
      have hs := carry_step x y k
      have hd := dig_sum x y k
      refine ⟨⟨k + 1, by omega, congrArg (Value.int .i64) (by omega), congrArg (Value.int .i64) (by omega), Lib.hid (row_congr (row_set (HR.out.drew nq) hlt _) fun j hj => ?_), Below.setCell (below_drewN hb nq) (Nat.le_refl _) _⟩, by simp [intOf]; omega⟩
      by_cases hj : j = k
      · subst hj
        rw [if_pos rfl, if_pos (by omega)]
        omega
      · rw [if_neg hj]
        by_cases h2 : j < k
        · rw [if_pos h2, if_pos (by omega)]
        · rw [if_neg h2, if_neg (by omega)]
    · have e5 : k = 5 := by omega
      subst e5
      go_wp2_with fail
      go_ret
      exact ⟨_, rfl, Nat.le_refl _, row_congr HR.out fun j hj => by rw [if_pos hj], hb⟩

end Go.Proofs.Ytfchbkhgoebagaa
