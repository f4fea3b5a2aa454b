/- DiskTells: what its walk wants, paid. -/
import Derived.Test.YtlfiooenbgegkaaDTl
import Derived.Test.YtlfiooenbgegkaaDSm
namespace Go.Proofs.Ytlfiooenbgegkaa
open Go.RowKit Ds
set_option linter.unusedVariables false

theorem tells_any (A : Option Addr) (c : Nat) (A' : Option Addr) (c' : Nat) (d : Dk) (n k : Int) (s : ByteArray) (w : World) (h : DiskAt w w.heap.size A c A' c' d) (hn : -9223372036854775808 ≤ n ∧ n ≤ 9223372036854775807) (hk : -9223372036854775808 ≤ k ∧ k ≤ 9223372036854775807) (hz : s.size ≤ 9223372036854775807) :
    Calls Try.prog 3 #[dv A c A' c' d, .int .i64 n, .int .i64 k, .string s] w fun e w' => e = .returned (.bool true) ∧ Below w.heap.size w w' :=
  tells_walk d (newD n) (writeD d k s) (flushD d) (armD d n) (cutD d) (startD d) (newE n) (writeE d k s) (flushE d) (armE d n) (upE d) (startE d) (readE d k) (checkE d) (readV d k) A c A' c' n k s w h
    (Lib.hid small_any) (Lib.hid fun w => new_any n w hn.1 hn.2) (Lib.hid fun w => rnew_any n w hn.1 hn.2) (Lib.hid fun A c A' c' w h => check_any A c A' c' d w h) (Lib.hid fun A c A' c' w h => rcheck_any A c A' c' d w h)
    (Lib.hid fun A c A' c' w h => write_any A c A' c' d k s w h) (Lib.hid fun A c A' c' w h => rwrite_any A c A' c' d k s w h)
    (Lib.hid fun A c A' c' w h => flush_any A c A' c' d w h) (Lib.hid fun A c A' c' w h => rflush_any A c A' c' d w h)
    (Lib.hid fun A c A' c' w h => arm_any A c A' c' d n w h) (Lib.hid fun A c A' c' w h => rarm_any A c A' c' d n w h)
    (Lib.hid fun A c A' c' w h => cut_any A c A' c' d w h) (Lib.hid fun A c A' c' w h => rcut_any A c A' c' d w h)
    (Lib.hid fun A c A' c' w h => start_any A c A' c' d w h) (Lib.hid fun A c A' c' w h => rstart_any A c A' c' d w h)
    (Lib.hid fun A c A' c' w h => read_any A c A' c' d k w h) (Lib.hid fun A c A' c' w h => rread_any A c A' c' d k w h)

end Go.Proofs.Ytlfiooenbgegkaa
