/- The examples' calls, one by one, and small. -/
import Derived.Test.YtlfiooenbgegkaaDSmall
namespace Go.Proofs.Ytlfiooenbgegkaa
open Go.RowKit Ds
set_option linter.unusedSimpArgs false
set_option linter.unusedVariables false

namespace Sm
def a : Dk := ⟨[⟨#[0, 0, 0, 0, 0, 0, 0, 0, 0, 0, 0, 0, 0, 0, 0, 0]⟩, ⟨#[0, 0, 0, 0, 0, 0, 0, 0, 0, 0, 0, 0, 0, 0, 0, 0]⟩], [], -1, false⟩
def b : Dk := ⟨[⟨#[0, 0, 0, 0, 0, 0, 0, 0, 0, 0, 0, 0, 0, 0, 0, 0]⟩, ⟨#[0, 0, 0, 0, 0, 0, 0, 0, 0, 0, 0, 0, 0, 0, 0, 0]⟩], [⟨0, ⟨#[97, 98, 0, 0, 0, 0, 0, 0, 0, 0, 0, 0, 0, 0, 0, 0]⟩⟩], -1, false⟩
def c : Dk := ⟨[⟨#[97, 98, 0, 0, 0, 0, 0, 0, 0, 0, 0, 0, 0, 0, 0, 0]⟩, ⟨#[0, 0, 0, 0, 0, 0, 0, 0, 0, 0, 0, 0, 0, 0, 0, 0]⟩], [], -1, false⟩
def d : Dk := ⟨[⟨#[97, 98, 0, 0, 0, 0, 0, 0, 0, 0, 0, 0, 0, 0, 0, 0]⟩, ⟨#[0, 0, 0, 0, 0, 0, 0, 0, 0, 0, 0, 0, 0, 0, 0, 0]⟩], [⟨0, ⟨#[120, 0, 0, 0, 0, 0, 0, 0, 0, 0, 0, 0, 0, 0, 0, 0]⟩⟩], -1, false⟩
def off : Dk := ⟨[⟨#[97, 98, 0, 0, 0, 0, 0, 0, 0, 0, 0, 0, 0, 0, 0, 0]⟩, ⟨#[0, 0, 0, 0, 0, 0, 0, 0, 0, 0, 0, 0, 0, 0, 0, 0]⟩], [], -1, true⟩
def on : Dk := ⟨[⟨#[97, 98, 0, 0, 0, 0, 0, 0, 0, 0, 0, 0, 0, 0, 0, 0]⟩, ⟨#[0, 0, 0, 0, 0, 0, 0, 0, 0, 0, 0, 0, 0, 0, 0, 0]⟩], [], -1, false⟩
def b2 : Dk := ⟨[⟨#[0, 0, 0, 0, 0, 0, 0, 0, 0, 0, 0, 0, 0, 0, 0, 0]⟩, ⟨#[0, 0, 0, 0, 0, 0, 0, 0, 0, 0, 0, 0, 0, 0, 0, 0]⟩], [⟨0, ⟨#[48, 49, 50, 51, 52, 53, 54, 55, 56, 57, 0, 0, 0, 0, 0, 0]⟩⟩], -1, false⟩
def c2 : Dk := ⟨[⟨#[0, 0, 0, 0, 0, 0, 0, 0, 0, 0, 0, 0, 0, 0, 0, 0]⟩, ⟨#[0, 0, 0, 0, 0, 0, 0, 0, 0, 0, 0, 0, 0, 0, 0, 0]⟩], [⟨0, ⟨#[48, 49, 50, 51, 52, 53, 54, 55, 56, 57, 0, 0, 0, 0, 0, 0]⟩⟩, ⟨1, ⟨#[121, 0, 0, 0, 0, 0, 0, 0, 0, 0, 0, 0, 0, 0, 0, 0]⟩⟩], -1, false⟩
def d2 : Dk := ⟨[⟨#[0, 0, 0, 0, 0, 0, 0, 0, 0, 0, 0, 0, 0, 0, 0, 0]⟩, ⟨#[0, 0, 0, 0, 0, 0, 0, 0, 0, 0, 0, 0, 0, 0, 0, 0]⟩], [⟨0, ⟨#[48, 49, 50, 51, 52, 53, 54, 55, 56, 57, 0, 0, 0, 0, 0, 0]⟩⟩, ⟨1, ⟨#[121, 0, 0, 0, 0, 0, 0, 0, 0, 0, 0, 0, 0, 0, 0, 0]⟩⟩], 0, false⟩
def off2 : Dk := ⟨[⟨#[48, 49, 50, 51, 52, 53, 54, 55, 0, 0, 0, 0, 0, 0, 0, 0]⟩, ⟨#[0, 0, 0, 0, 0, 0, 0, 0, 0, 0, 0, 0, 0, 0, 0, 0]⟩], [], -1, true⟩
def on2 : Dk := ⟨[⟨#[48, 49, 50, 51, 52, 53, 54, 55, 0, 0, 0, 0, 0, 0, 0, 0]⟩, ⟨#[0, 0, 0, 0, 0, 0, 0, 0, 0, 0, 0, 0, 0, 0, 0, 0]⟩], [], -1, false⟩
end Sm
theorem h1a : writeD Sm.a 0 ⟨#[97, 98]⟩ = Sm.b := by kernel_rfl
theorem h1e : writeE Sm.a 0 ⟨#[97, 98]⟩ = 0 := by kernel_rfl
theorem h2a : flushD Sm.b = Sm.c := by kernel_rfl
theorem h2e : flushE Sm.b = 0 := by kernel_rfl
theorem h3a : writeD Sm.c 0 ⟨#[120]⟩ = Sm.d := by kernel_rfl
theorem h3e : writeE Sm.c 0 ⟨#[120]⟩ = 0 := by kernel_rfl
theorem h4a : cutD Sm.d = Sm.off := by kernel_rfl
theorem h4e : upE Sm.d = 0 := by kernel_rfl
theorem h5a : startD Sm.off = Sm.on := by kernel_rfl
theorem h5e : startE Sm.off = 0 := by kernel_rfl
theorem h7a : writeD Sm.a 0 ⟨#[48, 49, 50, 51, 52, 53, 54, 55, 56, 57]⟩ = Sm.b2 := by kernel_rfl
theorem h7e : writeE Sm.a 0 ⟨#[48, 49, 50, 51, 52, 53, 54, 55, 56, 57]⟩ = 0 := by kernel_rfl
theorem h8a : writeD Sm.b2 1 ⟨#[121]⟩ = Sm.c2 := by kernel_rfl
theorem h8e : writeE Sm.b2 1 ⟨#[121]⟩ = 0 := by kernel_rfl
theorem h9a : armD Sm.c2 0 = Sm.d2 := by kernel_rfl
theorem h9e : armE Sm.c2 0 = 0 := by kernel_rfl
theorem h10a : flushD Sm.d2 = Sm.off2 := by kernel_rfl
theorem h10e : flushE Sm.d2 = 8 := by kernel_rfl
theorem h11a : startD Sm.off2 = Sm.on2 := by kernel_rfl
theorem h11e : startE Sm.off2 = 0 := by kernel_rfl
theorem h15a : startD Sm.on2 = nilD := by kernel_rfl
theorem h15e : startE Sm.on2 = 7 := by kernel_rfl
theorem h6a : readV Sm.on 0 = ⟨#[97, 98, 0, 0, 0, 0, 0, 0, 0, 0, 0, 0, 0, 0, 0, 0]⟩ := by kernel_rfl
theorem h6e : readE Sm.on 0 = 0 := by kernel_rfl
theorem h12a : readV Sm.on2 0 = ⟨#[48, 49, 50, 51, 52, 53, 54, 55, 0, 0, 0, 0, 0, 0, 0, 0]⟩ := by kernel_rfl
theorem h12e : readE Sm.on2 0 = 0 := by kernel_rfl
theorem h13a : readV Sm.on2 1 = ⟨#[0, 0, 0, 0, 0, 0, 0, 0, 0, 0, 0, 0, 0, 0, 0, 0]⟩ := by kernel_rfl
theorem h13e : readE Sm.on2 1 = 0 := by kernel_rfl
theorem h14a : readV Sm.off2 0 = ⟨#[]⟩ := by kernel_rfl
theorem h14e : readE Sm.off2 0 = 8 := by kernel_rfl
theorem h16a : checkE Sm.off2 = 0 := by kernel_rfl
theorem h17a : checkE nilD = 1 := by kernel_rfl
theorem h0a : newD 2 = Sm.a := by kernel_rfl
theorem h0e : newE 2 = 0 := by kernel_rfl

theorem small_any (w : World) : Calls Try.prog 8 #[] w fun e w' => e = .returned (.bool true) ∧ Below w.heap.size w w' :=
  small_core Sm.a Sm.b Sm.c Sm.d Sm.off Sm.on Sm.b2 Sm.c2 Sm.d2 Sm.on2 nilD _ _ _ w
    (Lib.hid fun w => by have := new_any 2 w (by decide) (by decide); rw [h0a, h0e] at this; exact this)
    (Lib.hid fun A c A' c' w h => by have := write_any A c A' c' Sm.a 0 ⟨#[97, 98]⟩ w h; rw [h1a, h1e] at this; exact this)
    (Lib.hid fun A c A' c' w h => by have := flush_any A c A' c' Sm.b w h; rw [h2a, h2e] at this; exact this)
    (Lib.hid fun A c A' c' w h => by have := write_any A c A' c' Sm.c 0 ⟨#[120]⟩ w h; rw [h3a, h3e] at this; exact this)
    (Lib.hid fun A c A' c' w h => by have := cut_any A c A' c' Sm.d w h; rw [h4a, h4e] at this; exact this)
    (Lib.hid fun A c A' c' w h => by have := start_any A c A' c' Sm.off w h; rw [h5a, h5e] at this; exact this)
    (Lib.hid fun A c A' c' w h => by have := read_any A c A' c' Sm.on 0 w h; rw [h6a, h6e] at this; exact this)
    (Lib.hid fun A c A' c' w h => by have := write_any A c A' c' Sm.a 0 ⟨#[48, 49, 50, 51, 52, 53, 54, 55, 56, 57]⟩ w h; rw [h7a, h7e] at this; exact this)
    (Lib.hid fun A c A' c' w h => by have := write_any A c A' c' Sm.b2 1 ⟨#[121]⟩ w h; rw [h8a, h8e] at this; exact this)
    (Lib.hid fun A c A' c' w h => by have := arm_any A c A' c' Sm.c2 0 w h; rw [h9a, h9e] at this; exact this)
    (Lib.hid fun A c A' c' w h => by have := flush_any A c A' c' Sm.d2 w h; rw [h10a, h10e] at this; exact this)
    (Lib.hid fun A c A' c' w h => by have := start_any A c A' c' Sm.off2 w h; rw [h11a, h11e] at this; exact this)
    (Lib.hid fun A c A' c' w h => by have := read_any A c A' c' Sm.on2 0 w h; rw [h12a, h12e] at this; exact this)
    (Lib.hid fun A c A' c' w h => by have := read_any A c A' c' Sm.on2 1 w h; rw [h13a, h13e] at this; exact this)
    (Lib.hid fun A c A' c' w h => by have := read_any A c A' c' Sm.off2 0 w h; rw [h14a, h14e] at this; exact this)
    (Lib.hid fun A c A' c' w h => by have := start_any A c A' c' Sm.on2 w h; rw [h15a, h15e] at this; exact this)
    (Lib.hid fun A c A' c' w h => by have := check_any A c A' c' Sm.off2 w h; rw [h16a] at this; exact this)
    (Lib.hid fun A c A' c' w h => by have := check_any A c A' c' nilD w h; rw [h17a] at this; exact this)

end Go.Proofs.Ytlfiooenbgegkaa
