/- Walks by the logic of calls, and plain laws. -/
import Derived.Test.YtfbijgbpipedoaaGreatDoorGLex
import Derived.Test.YtfbijgbpipedoaaGreatDoorGh3
import Derived.Test.YtfbijgbpipedoaaGreatDoorShelf
import Derived.Test.YtfbijgbpipedoaaGreatDoorRi
import Derived.Test.YtfbijgbpipedoaaGreatDoorRr
import Derived.Test.YtfbijgbpipedoaaGreatDoorRs
import Derived.Test.YtfbijgbpipedoaaGreatDoorRt
namespace Go.Gh
open Go Go.Proofs
set_option maxRecDepth 1000000
set_option maxHeartbeats 2000000
set_option linter.unusedSimpArgs false
set_option linter.unusedVariables false
open Go.Proofs.YtfbijgbpipedoaaGreatDoor Go.Proofs.YtfbijgbpipedoaaGreatDoor.Ra
def In (i : Int) : Prop := -9223372036854775808 ≤ i ∧ i ≤ 9223372036854775807
abbrev qG (q : Q) : G := .agg [iG q.n, iG q.d]
theorem make_ok (n d : Int) (hn : In n) (hd : In d) : GC Tryz.prog 45 [iG n, iG d] (.tup [qG (makeV n d), iG (makeE n d)]) :=
  gc_of_old Tryz.func45 rfl rfl rfl rfl fun w => make_any n d w hn.1 hn.2 hd.1 hd.2
theorem add_ok (a b : Q) (ha : Q64 a) (hb : Q64 b) : GC Tryz.prog 41 [qG a, qG b] (.tup [qG (addV a b), iG (addE a b)]) :=
  gc_of_old Tryz.func41 rfl rfl rfl rfl fun w => add_any a b w ha hb
theorem div_ok (a b : Q) (ha : Q64 a) (hb : Q64 b) : GC Tryz.prog 37 [qG a, qG b] (.tup [qG (divV a b), iG (divE a b)]) :=
  gc_of_old Tryz.func37 rfl rfl rfl rfl fun w => div_any a b w ha hb
theorem cmp_ok (a b : Q) (ha : Q64 a) (hb : Q64 b) : GC Tryz.prog 43 [qG a, qG b] (iG (cmpV a b)) :=
  gc_of_old Tryz.func43 rfl rfl rfl rfl fun w => cmp_any a b w ha hb
theorem lim_64 (q : Q) : Q64 (limV q) := by
  unfold limV
  split
  · rename_i h; unfold top at h; exact ⟨by omega, by omega, by omega, by omega⟩
  · exact ⟨by simp, by simp, by simp, by simp⟩
theorem zero_64 : Q64 ⟨0, 0⟩ := ⟨by simp, by simp, by simp, by simp⟩
theorem make_64 (n d : Int) : Q64 (makeV n d) := by
  unfold makeV; split
  · exact zero_64
  · exact lim_64 _
theorem add_64 (a b : Q) : Q64 (addV a b) := by
  unfold addV; split
  · exact lim_64 _
  · exact zero_64
end Go.Gh
