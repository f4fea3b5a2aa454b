/- RatioBack: for every two ratios the law holds. -/
import Derived.Test.YtfchbkhgoebagaaRBk
import Derived.Test.YtfchbkhgoebagaaREnds
namespace Go.Proofs.Ytfchbkhgoebagaa
open Go.RowKit Ra

theorem back_any (a b : Q) (W : World) (ha : Q64 a) (hb : Q64 b) :
    Calls Try.prog 5 #[.agg #[.int .i64 a.n, .int .i64 a.d], .agg #[.int .i64 b.n, .int .i64 b.d]] W fun e w' => e = .returned (.bool true) ∧ Below W.heap.size W w' := by
  have S := Lib.hid sane_any
  cases ra : rightB a
  · exact back_no0 a b ⟨0, 0⟩ ⟨0, 0⟩ W S (Lib.hid (add_end ha hb (by unfold addV; rw [ra]; rfl) (by unfold addE; rw [ra]; rfl))) (Lib.hid (mul_end ha hb (by unfold mulV; rw [ra]; rfl) (by unfold mulE; rw [ra]; rfl))) (Lib.hid (right_end ha _ ra))
  cases rb : rightB b
  · exact back_no1 a b ⟨0, 0⟩ ⟨0, 0⟩ W S (Lib.hid (add_end ha hb (by unfold addV; rw [ra, rb]; rfl) (by unfold addE; rw [ra, rb]; rfl))) (Lib.hid (mul_end ha hb (by unfold mulV; rw [ra, rb]; rfl) (by unfold mulE; rw [ra, rb]; rfl))) (Lib.hid (right_end ha _ ra)) (Lib.hid (right_end hb _ rb))
  have RA := (right_iff a).1 ra
  have RB := (right_iff b).1 rb
  have av := add_vals RA RB
  have mv := mul_vals RA RB
  have hAa := Lib.hid (right_end ha _ ra)
  have hBb := Lib.hid (right_end hb _ rb)
  have key1 : limE (addN a b) = 0 → Right (addN a b) ∧ subV (addN a b) b = a ∧ subE (addN a b) b = 0 := by
    intro h
    have hr := addN_right RA RB h
    have hv := sub_vals hr RB
    rw [add_back RA RB.pos, (right_lim RA).1, (right_lim RA).2] at hv
    exact ⟨hr, hv⟩
  have key2 : b.n ≠ 0 → limE (mulN a b) = 0 → Right (mulN a b) ∧ divV (mulN a b) b = a ∧ divE (mulN a b) b = 0 := by
    intro hn h
    have hr := mulN_right RA RB h
    have hv := div_vals hr RB hn
    rw [mul_back RA RB.pos hn, (right_lim RA).1, (right_lim RA).2] at hv
    exact ⟨hr, hv⟩
  rcases lim_errs (addN a b) with h1 | h1
  · obtain ⟨hr1, k1, k2⟩ := key1 h1
    have e1 := lim_val0 h1
    have A1 := Lib.hid (add_end ha hb (av.1.trans e1) (av.2.trans h1))
    have A2 := Lib.hid (sub_end (right_q64 hr1) hb k1 k2)
    have A3 := Lib.hid (right_end (right_q64 hr1) true ((right_iff _).2 hr1))
    rcases lim_errs (mulN a b) with h2 | h2
    · have e2 := lim_val0 h2
      have M1 := Lib.hid (mul_end ha hb (mv.1.trans e2) (mv.2.trans h2))
      by_cases hn : b.n = 0
      · exact back_0z a b _ _ W S A1 M1 hAa hBb A2 A3 (by simp [hn])
      · obtain ⟨hr2, k3, k4⟩ := key2 hn h2
        exact back_0nz a b _ _ W S A1 M1 hAa hBb A2 A3 (Lib.hid (div_end (right_q64 hr2) hb k3 k4)) (Lib.hid (right_end (right_q64 hr2) true ((right_iff _).2 hr2))) (by simp [hn])
    · exact back_0x a b _ _ W S A1 (Lib.hid (mul_end ha hb rfl (mv.2.trans h2))) hAa hBb A2 A3
  · have A1 := Lib.hid (add_end ha hb rfl (av.2.trans h1))
    rcases lim_errs (mulN a b) with h2 | h2
    · have e2 := lim_val0 h2
      have M1 := Lib.hid (mul_end ha hb (mv.1.trans e2) (mv.2.trans h2))
      by_cases hn : b.n = 0
      · exact back_3z a b _ _ W S A1 M1 hAa hBb (by simp [hn])
      · obtain ⟨hr2, k3, k4⟩ := key2 hn h2
        exact back_3nz a b _ _ W S A1 M1 hAa hBb (Lib.hid (div_end (right_q64 hr2) hb k3 k4)) (Lib.hid (right_end (right_q64 hr2) true ((right_iff _).2 hr2))) (by simp [hn])
    · exact back_3x a b _ _ W S A1 (Lib.hid (mul_end ha hb rfl (mv.2.trans h2))) hAa hBb

end Go.Proofs.Ytfchbkhgoebagaa
