/- Predicates on bytes, the program's and the reference's. -/
import Derived.Test.YtmkeajeohkdieaaDoorProg
import Derived.Test.YtmkeajeohkdieaaDoorLxMore
import Derived.Test.YtmkeajeohkdieaaDoorShelf
import Derived.Test.YtmkeajeohkdieaaDoorShelfB
import Derived.WalkKit
import Derived.WalkSpells
import Derived.WalkLawsBesides
import Derived.Handy
import Derived.Deep.QuietTactic
import Derived.BigQuiet
import Derived.Deep.DeepCutAuto
import Derived.Lib.Hide
namespace Go.Proofs.YtmkeajeohkdieaaDoor
open Go.RowKit Lx
set_option linter.unusedSimpArgs false
set_option linter.unusedVariables false

theorem ret_bool {a b : Bool} (h : a = b) : Ending.returned (.bool a) = .returned (.bool b) := by rw [h]
theorem byte_lt (c : UInt8) : (c.toNat : Int) ≤ 255 := by have := c.toNat_lt; omega
theorem eq8 (c d : UInt8) : c = d ↔ c.toNat = d.toNat := UInt8.toNat_inj.symm

theorem plain_any (c : UInt8) (w : World) :
    Calls Tryd.prog 34 #[.int .u8 (c.toNat : Int)] w fun e w' => e = .returned (.bool (plain c)) ∧ w = w' := by
  go_enter Tryd.func34, Tryd.ntmps34
  go_wp2
  all_goals go_ret
  all_goals exact ⟨ret_bool (by rw [Bool.eq_iff_iff]; simp only [plain, digit, letter, Bool.or_eq_true, Bool.and_eq_true, decide_eq_true_eq, Bool.false_eq_true, Bool.true_eq, false_iff, true_iff, iff_false, iff_true]; omega), rfl⟩

theorem digit_any (c : UInt8) (w : World) :
    Calls Tryd.prog 32 #[.int .u8 (c.toNat : Int)] w fun e w' => e = .returned (.bool (digit c)) ∧ w = w' := by
  go_enter Tryd.func32, Tryd.ntmps32
  go_wp2
  all_goals go_ret
  all_goals exact ⟨ret_bool (by rw [Bool.eq_iff_iff]; simp only [plain, digit, letter, Bool.or_eq_true, Bool.and_eq_true, decide_eq_true_eq, Bool.false_eq_true, Bool.true_eq, false_iff, true_iff, iff_false, iff_true]; omega), rfl⟩

theorem rdigit_any (c : UInt8) (w : World) :
    Calls Tryd.prog 33 #[.int .u8 (c.toNat : Int)] w fun e w' => e = .returned (.bool (digit c)) ∧ w = w' := by
  go_enter Tryd.func33, Tryd.ntmps33
  go_wp2
  all_goals go_ret
  all_goals exact ⟨ret_bool (by rw [Bool.eq_iff_iff]; simp only [plain, digit, letter, Bool.or_eq_true, Bool.and_eq_true, decide_eq_true_eq, Bool.false_eq_true, Bool.true_eq, false_iff, true_iff, iff_false, iff_true]; omega), rfl⟩

theorem letter_any (c : UInt8) (w : World) :
    Calls Tryd.prog 36 #[.int .u8 (c.toNat : Int)] w fun e w' => e = .returned (.bool (letter c)) ∧ w = w' := by
  go_enter Tryd.func36, Tryd.ntmps36
  go_wp2
  all_goals go_ret
  all_goals exact ⟨ret_bool (by rw [Bool.eq_iff_iff]; simp only [plain, digit, letter, Bool.or_eq_true, Bool.and_eq_true, decide_eq_true_eq, Bool.false_eq_true, Bool.true_eq, false_iff, true_iff, iff_false, iff_true]; omega), rfl⟩

theorem rletter_any (c : UInt8) (w : World) :
    Calls Tryd.prog 38 #[.int .u8 (c.toNat : Int)] w fun e w' => e = .returned (.bool (letter c)) ∧ w = w' := by
  go_enter Tryd.func38, Tryd.ntmps38
  go_wp2
  all_goals go_ret
  all_goals exact ⟨ret_bool (by rw [Bool.eq_iff_iff]; simp only [plain, digit, letter, Bool.or_eq_true, Bool.and_eq_true, decide_eq_true_eq, Bool.false_eq_true, Bool.true_eq, false_iff, true_iff, iff_false, iff_true]; omega), rfl⟩

theorem blank_any (c : UInt8) (w : World) :
    Calls Tryd.prog 39 #[.int .u8 (c.toNat : Int)] w fun e w' => e = .returned (.bool (Lx.blank c)) ∧ w = w' := by
  go_enter Tryd.func39, Tryd.ntmps39
  go_wp2
  all_goals go_ret
  all_goals exact ⟨ret_bool (by rw [Bool.eq_iff_iff]; simp only [Lx.blank, Bool.or_eq_true, beq_iff_eq, eq8, Bool.false_eq_true, Bool.true_eq, false_iff, true_iff, iff_false, iff_true]; simp_all; try omega), rfl⟩

theorem rblank_any (c : UInt8) (w : World) :
    Calls Tryd.prog 29 #[.int .u8 (c.toNat : Int)] w fun e w' => e = .returned (.bool (Lx.blank c)) ∧ w = w' := by
  go_enter Tryd.func29, Tryd.ntmps29
  go_wp2
  all_goals go_ret
  all_goals exact ⟨ret_bool (by rw [Bool.eq_iff_iff]; simp only [Lx.blank, Bool.or_eq_true, beq_iff_eq, eq8, Bool.false_eq_true, Bool.true_eq, false_iff, true_iff, iff_false, iff_true]; simp_all; try omega), rfl⟩

theorem inner_any (c : UInt8) (w : World) :
    Calls Tryd.prog 37 #[.int .u8 (c.toNat : Int)] w fun e w' => e = .returned (.bool (inner c)) ∧ w = w' := by
  have h95 : (c == 95) = ((c.toNat : Int) == 95) := by rw [Bool.eq_iff_iff]; simp only [beq_iff_eq, eq8]; constructor <;> (intro h; simp at h ⊢; omega)
  have hi : inner c = (letter c || digit c || ((c.toNat : Int) == 95)) := by rw [← h95]; rfl
  have Hi := Lib.hid hi
  clear h95 hi
  cases hl : letter c <;> cases hd : digit c
  all_goals
    rw [hl, hd] at Hi
    go_enter Tryd.func37, Tryd.ntmps37
    go_wp2_with (first | (go_at_call 36; refine (letter_any c _).mono ?_; rintro e w' ⟨rfl, rfl⟩) | (go_at_call 32; refine (digit_any c _).mono ?_; rintro e w' ⟨rfl, rfl⟩))
    go_ret
    exact ⟨ret_bool (by rw [Hi.out]; rfl), rfl⟩

end Go.Proofs.YtmkeajeohkdieaaDoor
