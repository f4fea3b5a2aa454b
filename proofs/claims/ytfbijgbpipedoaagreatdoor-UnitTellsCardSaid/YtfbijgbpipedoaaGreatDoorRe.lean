/- Walks of ratio's functions: sums with carry, and sum. -/
import Derived.Test.YtfbijgbpipedoaaGreatDoorRd
import Derived.Laws.Externs
import Derived.Shelf.Spec.BitsCarry
namespace Go.Proofs.YtfbijgbpipedoaaGreatDoor
open Go.RowKit Ra

theorem add64_run (x y c s d : Nat) (hx : x < 18446744073709551616) (hy : y < 18446744073709551616) (hc : c ≤ 1) (h : x + y + c = d * 18446744073709551616 + s) (hs : s < 18446744073709551616) (w : World) :
    (callFunc 81 #[.int .u64 x, .int .u64 y, .int .u64 c]).run Tryz.prog w = .ok (.value (.tuple #[.int .u64 (s : Int), .int .u64 (d : Int)])) w := by
  rw [run_callFunc_extern Tryz.func81 (by kernel_rfl) (by kernel_rfl) (by kernel_rfl) (e := add64Entry) (by kernel_rfl), run_add64 x y c (by omega) (by omega) (by omega) (by omega)]
  simp only [Result.andThen]
  have e1 : ((x : Int) + y + c) % 18446744073709551616 = s := by omega
  have e2 : ((x : Int) + y + c) / 18446744073709551616 = d := by omega
  rw [e1, e2]

theorem sub64_run (x y b s d : Nat) (hx : x < 18446744073709551616) (hy : y < 18446744073709551616) (hb : b ≤ 1) (h : x + d * 18446744073709551616 = y + b + s) (hs : s < 18446744073709551616) (w : World) :
    (callFunc 82 #[.int .u64 x, .int .u64 y, .int .u64 b]).run Tryz.prog w = .ok (.value (.tuple #[.int .u64 (s : Int), .int .u64 (d : Int)])) w := by
  rw [run_callFunc_extern Tryz.func82 (by kernel_rfl) (by kernel_rfl) (by kernel_rfl) (e := sub64Entry) (by kernel_rfl), run_sub64 x y b hb]
  simp only [Result.andThen]
  have e1 : (x + 18446744073709551616 - y - b) % 18446744073709551616 = s := by omega
  have e2 : (if x < y + b then 1 else 0 : Nat) = d := by split <;> omega
  rw [e1, e2]

end Go.Proofs.YtfbijgbpipedoaaGreatDoor
