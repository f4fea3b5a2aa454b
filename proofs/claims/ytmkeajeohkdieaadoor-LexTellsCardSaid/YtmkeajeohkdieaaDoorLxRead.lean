/- The listed table of signs, out of the row's condition. -/
import Derived.Test.YtmkeajeohkdieaaDoorLxQ
import Derived.Test.YtmkeajeohkdieaaDoorRows
import Derived.Test.YtmkeajeohkdieaaDoorCards
import Derived.Test.YtmkeajeohkdieaaDoorTie
import Derived.ProofKit
import Derived.OpenShut
import Derived.ShutString
import Derived.ChangeOld
import Derived.Deep.Slices
import Derived.Deep.Fields
import Derived.ChangeSame
import Derived.LaidMore
import Derived.Stop.Joined
import Derived.Lib.LaidTab
import Derived.SevenTiedAt
namespace Go.Proofs.YtmkeajeohkdieaaDoor
open Go.ChangeShapes Go.WideShapes Go.ChangeAt Go.RowKit Go.Deep Lx

theorem own : ownKnob Tryd.prog.godebug = none := by kernel_rfl
theorem laidOut : laidOutB Tryd.prog = true := by kernel_rfl
def laidL : List (String × DataW Unit) := [("allonge/lex.signs", Rows.laid_allonge_lex_signs)]
theorem gSigns : Tryd.prog.globalNamed "allonge/lex.signs" = some 0 := by kernel_rfl
theorem tSigns : (Tryd.prog.globals[0]?).map (·.type) = some 50 := by kernel_rfl
theorem cSigns : Tryd.prog.cellsOf 50 = 13 := by kernel_rfl
theorem cByte : Tryd.prog.cellsOf 5 = 1 := by kernel_rfl

theorem signs_of_laid {W : World} (h : laidMetH Tryd.prog laidL W) : Signs W := by
  rw [MakeChecks.laidMetH_plain _ _ _ (by kernel_rfl)] at h
  have h' : laidMet Tryd.prog (("allonge/lex.signs", Lib.tabData .u8 [40, 41, 44, 59, 58, 61, 60, 43, 45, 42, 46, 123, 125]) :: []) W := h
  have ht := Lib.tabIs_of_head gSigns tSigns Tryd.underlying50 Tryd.underlying5 cByte cSigns h'
  unfold Lib.TabIs World.var? at ht
  simp only [gSigns, Option.bind_some] at ht
  cases hh : W.heap[0]? with
  | none => rw [hh] at ht; cases ht
  | some o =>
    rw [hh] at ht
    cases o with
    | cells cs T fr =>
      simp only [Option.some.injEq] at ht
      subst ht
      exact ⟨T, fr, hh⟩
    | _ => cases ht

/-- the door's own heap meets the condition -/
theorem door_met (os : Os) (args : Array Value) : laidMetH Tryd.prog laidL ((World.doorLaid Tryd.prog 400 os).forCall (fun _ _ => 0) ⟨#[], args, []⟩).memory :=
  laidMetH_of_parts3 (fuel := 8) (laidMet_of_run' 8 (by kernel_rfl) (by kernel_rfl)) (by kernel_rfl) (by kernel_rfl)

end Go.Proofs.YtmkeajeohkdieaaDoor
