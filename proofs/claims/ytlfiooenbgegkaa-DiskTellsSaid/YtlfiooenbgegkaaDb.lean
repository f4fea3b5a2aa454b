/- disk's Check, up, off, fresh, walked. -/
import Derived.Test.YtlfiooenbgegkaaDa2
namespace Go.Proofs.Ytlfiooenbgegkaa
open Go.RowKit Ds
set_option linter.unusedSimpArgs false
set_option linter.unusedVariables false

theorem below_from {W X w' : World} {B : Nat} (h : Below W.heap.size W X) (k : Below B X w') (hB : B = X.heap.size) : Below W.heap.size W w' := by
  subst hB
  exact Below.trans h (k.mono h.size)
/-- a box of the disk's four cells, ahead of a call that keeps it -/
theorem box_four {W w1 : World} {t : TypeId} {x0 x1 x2 x3 : Value} {B : Nat} (hb : Below B (W.alloc (.cells #[x0, x1, x2, x3] t)) w1) (hB : B = W.heap.size + 1) :
    (w1.cell? ⟨W.heap.size, 0, none⟩ = some x0 ∧ w1.cell? ⟨W.heap.size, 1, none⟩ = some x1 ∧ w1.cell? ⟨W.heap.size, 2, none⟩ = some x2 ∧ w1.cell? ⟨W.heap.size, 3, none⟩ = some x3) ∧
    (w1.frozen? ⟨W.heap.size, 0, none⟩ = false ∧ w1.frozen? ⟨W.heap.size, 1, none⟩ = false ∧ w1.frozen? ⟨W.heap.size, 2, none⟩ = false ∧ w1.frozen? ⟨W.heap.size, 3, none⟩ = false) ∧ W.heap.size + 1 ≤ w1.heap.size ∧ Below W.heap.size W w1 := by
  subst hB
  have hs : W.heap.size + 1 ≤ w1.heap.size := by have := hb.size; simpa using this
  refine ⟨⟨?_, ?_, ?_, ?_⟩, ⟨?_, ?_, ?_, ?_⟩, hs, ((Below.refl _ _).alloc (Nat.le_refl _) _).trans (hb.mono (by omega))⟩
  all_goals first
    | (rw [hb.cell (by simp only; omega)]; simp)
    | (rw [hb.frozen (by simp only; omega)]; simp)

theorem up_core (A : Option Addr) (n c : Nat) (A' : Option Addr) (n' c' : Nat) (left : Int) (rr dd : Bool) (w : World)
    (HR : Hid (∀ wx, Below w.heap.size w wx → Calls Try.prog 33 #[.agg #[.slice A n c, .slice A' n' c', .int .i64 left, .bool dd]] wx fun e w' => e = .returned (.bool rr) ∧ Below wx.heap.size wx w')) :
    Calls Try.prog 34 #[.agg #[.slice A n c, .slice A' n' c', .int .i64 left, .bool dd]] w fun e w' => e = .returned (.int .i64 (if rr = true then (if dd = true then 8 else 0) else 1)) ∧ Below w.heap.size w w' := by
  cases rr <;> cases dd <;> simp only [if_true, if_false, Bool.false_eq_true, reduceIte]
  all_goals
    go_enter Try.func34, Try.ntmps34
    go_wp2_with fail
    refine (HR.out _ ((Below.refl _ _).alloc (Nat.le_refl _) _)).mono ?_
    rintro e w1 ⟨rfl, b1⟩
    obtain ⟨⟨c0, c1, c2, c3⟩, f, hz, hb⟩ := box_four b1 (by simp)
    have HB := Lib.hid hb
    clear b1 hb f
    go_wp2_with fail
    go_ret
    exact ⟨rfl, HB.out⟩
theorem up_any (A : Option Addr) (c : Nat) (A' : Option Addr) (c' : Nat) (d : Dk) (w : World) (h : DiskAt w w.heap.size A c A' c' d) :
    Calls Try.prog 34 #[dv A c A' c' d] w fun e w' => e = .returned (.int .i64 (upE d)) ∧ Below w.heap.size w w' :=
  up_core A _ c A' _ c' d.left (rightB d) d.down w (Lib.hid fun wx hx => right_any A c A' c' d wx (h.step hx))
theorem check_any (A : Option Addr) (c : Nat) (A' : Option Addr) (c' : Nat) (d : Dk) (w : World) (h : DiskAt w w.heap.size A c A' c' d) :
    Calls Try.prog 13 #[dv A c A' c' d] w fun e w' => e = .returned (.int .i64 (checkE d)) ∧ Below w.heap.size w w' := by
  have HR := Lib.hid (fun wx (hx : Below w.heap.size w wx) => right_any A c A' c' d wx (h.step hx))
  unfold dv dcells checkE at *
  generalize rightB d = rr at *
  clear h
  cases rr <;> simp only [if_true, if_false, Bool.false_eq_true, reduceIte]
  all_goals
    go_enter Try.func13, Try.ntmps13
    go_wp2_with fail
    refine (HR.out _ ((Below.refl _ _).alloc (Nat.le_refl _) _)).mono ?_
    rintro e w1 ⟨rfl, b1⟩
    obtain ⟨⟨c0, c1, c2, c3⟩, f, hz, hb⟩ := box_four b1 (by simp)
    have HB := Lib.hid hb
    clear b1 hb f
    go_wp2_with fail
    go_ret
    exact ⟨rfl, HB.out⟩

/-- a disk whose power has failed -/
def offD (d : Dk) : Dk := ⟨d.secs, [], -1, true⟩
theorem off_any (A : Option Addr) (c : Nat) (A' : Option Addr) (c' : Nat) (d : Dk) (w : World) :
    Calls Try.prog 38 #[dv A c A' c' d] w fun e w' => e = .returned (dv A c none 0 (offD d)) ∧ Below w.heap.size w w' := by
  unfold dv dcells offD
  simp only
  go_enter Try.func38, Try.ntmps38
  go_wp2_with fail
  refine bodyPost_ret (v := .agg #[.slice A d.secs.length c, .slice none 0 0, .int .i64 (-1), .bool true]) (by simp [results, Try.results38, go_sem, *]) rfl ⟨rfl, ?_⟩
  repeat first | exact Below.refl _ _ | refine Below.setCell ?_ (by simp) _ | refine Below.alloc ?_ (by simp) _

end Go.Proofs.Ytlfiooenbgegkaa
