/- Predicates on bytes, the program's and the reference's. -/
import Derived.Test.YtffffkfcbjobnaaGreatProg
import Derived.Test.YtffffkfcbjobnaaGreatLxMore
import Derived.Test.YtffffkfcbjobnaaGreatShelf
import Derived.Test.YtffffkfcbjobnaaGreatShelfB
import Derived.WalkKit
import Derived.WalkSpells
import Derived.WalkLawsBesides
import Derived.Handy
import Derived.Deep.QuietTactic
import Derived.BigQuiet
import Derived.Deep.DeepCutAuto
import Derived.Lib.Hide
namespace Go.Proofs.YtffffkfcbjobnaaGreat
open Go.RowKit Lx
set_option linter.unusedSimpArgs false
set_option linter.unusedVariables false

theorem ret_bool {a b : Bool} (h : a = b) : Ending.returned (.bool a) = .returned (.bool b) := by rw [h]
theorem byte_lt (c : UInt8) : (c.toNat : Int) ≤ 255 := by have := c.toNat_lt; omega
theorem eq8 (c d : UInt8) : c = d ↔ c.toNat = d.toNat := UInt8.toNat_inj.symm

theorem plain_any (c : UInt8) (w : World) :
    Calls Tryz.prog 210 #[.int .u8 (c.toNat : Int)] w fun e w' => e = .returned (.bool (plain c)) ∧ w = w' := by
  go_enter Tryz.func210, Tryz.ntmps210
  go_wp2
  all_goals go_ret
  all_goals exact ⟨ret_bool (by rw [Bool.eq_iff_iff]; simp only [plain, digit, letter, Bool.or_eq_true, Bool.and_eq_true, decide_eq_true_eq, Bool.false_eq_true, Bool.true_eq, false_iff, true_iff, iff_false, iff_true]; omega), rfl⟩

theorem digit_any (c : UInt8) (w : World) :
    Calls Tryz.prog 58 #[.int .u8 (c.toNat : Int)] w fun e w' => e = .returned (.bool (digit c)) ∧ w = w' := by
  go_enter Tryz.func58, Tryz.ntmps58
  go_wp2
  all_goals go_ret
  all_goals exact ⟨ret_bool (by rw [Bool.eq_iff_iff]; simp only [plain, digit, letter, Bool.or_eq_true, Bool.and_eq_true, decide_eq_true_eq, Bool.false_eq_true, Bool.true_eq, false_iff, true_iff, iff_false, iff_true]; omega), rfl⟩

theorem rdigit_any (c : UInt8) (w : World) :
    Calls Tryz.prog 59 #[.int .u8 (c.toNat : Int)] w fun e w' => e = .returned (.bool (digit c)) ∧ w = w' := by
  go_enter Tryz.func59, Tryz.ntmps59
  go_wp2
  all_goals go_ret
  all_goals exact ⟨ret_bool (by rw [Bool.eq_iff_iff]; simp only [plain, digit, letter, Bool.or_eq_true, Bool.and_eq_true, decide_eq_true_eq, Bool.false_eq_true, Bool.true_eq, false_iff, true_iff, iff_false, iff_true]; omega), rfl⟩

theorem letter_any (c : UInt8) (w : World) :
    Calls Tryz.prog 138 #[.int .u8 (c.toNat : Int)] w fun e w' => e = .returned (.bool (letter c)) ∧ w = w' := by
  go_enter Tryz.func138, Tryz.ntmps138
  go_wp2
  all_goals go_ret
  all_goals exact ⟨ret_bool (by rw [Bool.eq_iff_iff]; simp only [plain, digit, letter, Bool.or_eq_true, Bool.and_eq_true, decide_eq_true_eq, Bool.false_eq_true, Bool.true_eq, false_iff, true_iff, iff_false, iff_true]; omega), rfl⟩

theorem rletter_any (c : UInt8) (w : World) :
    Calls Tryz.prog 145 #[.int .u8 (c.toNat : Int)] w fun e w' => e = .returned (.bool (letter c)) ∧ w = w' := by
  go_enter Tryz.func145, Tryz.ntmps145
  go_wp2
  all_goals go_ret
  all_goals exact ⟨ret_bool (by rw [Bool.eq_iff_iff]; simp only [plain, digit, letter, Bool.or_eq_true, Bool.and_eq_true, decide_eq_true_eq, Bool.false_eq_true, Bool.true_eq, false_iff, true_iff, iff_false, iff_true]; omega), rfl⟩

theorem inner_any (c : UInt8) (w : World) :
    Calls Tryz.prog 139 #[.int .u8 (c.toNat : Int)] w fun e w' => e = .returned (.bool (inner c)) ∧ w = w' := by
  have h95 : (c == 95) = ((c.toNat : Int) == 95) := by rw [Bool.eq_iff_iff]; simp only [beq_iff_eq, eq8]; constructor <;> (intro h; simp at h ⊢; omega)
  have hi : inner c = (letter c || digit c || ((c.toNat : Int) == 95)) := by rw [← h95]; rfl
  have Hi := Lib.hid hi
  clear h95 hi
  cases hl : letter c <;> cases hd : digit c
  all_goals
    rw [hl, hd] at Hi
    go_enter Tryz.func139, Tryz.ntmps139
    go_wp2_with (first | (go_at_call 138; refine (letter_any c _).mono ?_; rintro e w' ⟨rfl, rfl⟩) | (go_at_call 58; refine (digit_any c _).mono ?_; rintro e w' ⟨rfl, rfl⟩))
    go_ret
    exact ⟨ret_bool (by rw [Hi.out]; rfl), rfl⟩

end Go.Proofs.YtffffkfcbjobnaaGreat
