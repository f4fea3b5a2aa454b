/- The reference's Write, whole. -/
import Derived.Test.YtlfiooenbgegkaaDt
namespace Go.Proofs.Ytlfiooenbgegkaa
open Go.RowKit Ds
set_option linter.unusedSimpArgs false
set_option linter.unusedVariables false
set_option maxHeartbeats 2000000

theorem rwrite_any (A : Option Addr) (c : Nat) (A' : Option Addr) (c' : Nat) (d : Dk) (k : Int) (s : ByteArray) (w : World) (h : DiskAt w w.heap.size A c A' c' d) :
    Calls Try.prog 18 #[dv A c A' c' d, .int .i64 k, .string s] w (DiskEnd w (writeD d k s) (writeE d k s)) := by
  have HU := Lib.hid (fun wx (hx : Below w.heap.size w wx) => rup_any A c A' c' d wx (h.step hx))
  by_cases hu : upE d = 0
  · by_cases hin : inB d k = true ∧ s.size ≤ 16
    · by_cases hp : d.pend.length = 512
      · have e1 : writeE d k s = 6 := by unfold writeE; rw [if_pos hu, if_pos hin, if_pos hp]
        have e2 : writeD d k s = nilD := by unfold writeD; rw [if_neg (by rw [e1]; decide)]
        rw [e1, e2]
        rw [hu] at HU
        obtain ⟨hin, hs⟩ := hin
        simp only [inB, Bool.and_eq_true, decide_eq_true_eq] at hin
        exact rwrite_out A _ c A' _ c' d.left d.down k s 6 w HU (.inr (.inr (.inr ⟨hin.1, hin.2, hs, hp, rfl⟩)))
      · have e1 : writeE d k s = 0 := by unfold writeE; rw [if_pos hu, if_pos hin, if_neg hp]
        rw [e1, writeD_ok e1]
        obtain ⟨hin, hs⟩ := hin
        simp only [inB, Bool.and_eq_true, decide_eq_true_eq] at hin
        have := (right_head (upE_zero.1 hu).1).2.2.1
        exact rwrite_good A c A' c' d k s w h hu hin.1 hin.2 hs (by omega)
    · have e1 : writeE d k s = 1 := by unfold writeE; rw [if_pos hu, if_neg hin]
      have e2 : writeD d k s = nilD := by unfold writeD; rw [if_neg (by rw [e1]; decide)]
      rw [e1, e2]
      rw [hu] at HU
      refine rwrite_out A _ c A' _ c' d.left d.down k s 1 w HU ?_
      by_cases h0 : k < 0
      · exact .inl ⟨h0, rfl⟩
      · by_cases h2 : (d.secs.length : Int) ≤ k
        · exact .inr (.inl ⟨by omega, h2, rfl⟩)
        · refine .inr (.inr (.inl ⟨by omega, by omega, ?_, rfl⟩))
          have : inB d k = true := by simp [inB]; omega
          simp only [this, true_and] at hin
          omega
  · have e1 : writeE d k s = upE d := by unfold writeE; rw [if_neg hu]
    have e2 : writeD d k s = nilD := by unfold writeD; rw [if_neg (by rw [e1]; exact hu)]
    rw [e1, e2]
    exact rwrite_bad A _ c A' _ c' d.left d.down k s _ w HU hu

end Go.Proofs.Ytlfiooenbgegkaa
