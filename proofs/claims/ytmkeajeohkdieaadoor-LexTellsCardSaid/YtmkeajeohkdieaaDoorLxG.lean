/- Quote. -/
import Derived.Test.YtmkeajeohkdieaaDoorLxF
namespace Go.Proofs.YtmkeajeohkdieaaDoor
open Go.RowKit Lx
set_option linter.unusedSimpArgs false
set_option linter.unusedVariables false

/-- what Quote gives: the quoted string, or the empty one -/
def quoteV (l : List UInt8) : List UInt8 := if valueOk l = true then quote l else []
theorem valueOk_eq (s : ByteArray) : valueOk (bs s) = (decide (s.size ≤ 400) && decide (((bs s).takeWhile plain).length = s.size)) := by
  unfold valueOk
  rw [Bool.eq_iff_iff]
  simp only [Bool.and_eq_true, decide_eq_true_eq, ← bs_len, all_span]
  exact ⟨fun ⟨a, b⟩ => ⟨b, a⟩, fun ⟨a, b⟩ => ⟨b, a⟩⟩

set_option maxHeartbeats 2000000 in
theorem quote_any (s : ByteArray) (w : World) (hs : s.size ≤ 9223372036854775807) :
    Calls Tryd.prog 19 #[.string s] w fun e w' => e = .returned (.tuple #[.string ⟨(quoteV (bs s)).toArray⟩, .bool (valueOk (bs s))]) ∧ Below w.heap.size w w' := by
  have hv := valueOk_eq s
  have hspan := fun w => span_plain s w hs
  have HS := Lib.hid hspan
  clear hspan
  by_cases h4 : s.size ≤ 400
  · rw [decide_eq_true h4, Bool.true_and] at hv
    by_cases hm : ((bs s).takeWhile plain).length = s.size
    · rw [decide_eq_true hm] at hv
      have hq : quote (bs s) = quoteV (bs s) := by unfold quoteV; rw [if_pos hv]
      have he := fun wx => escaped_any s wx (by omega)
      rw [hq] at he
      have HE := Lib.hid he
      have HV := Lib.hid hv
      have hne : ((((bs s).takeWhile plain).length : Int) != s.size) = false := by simp [hm]
      generalize ((bs s).takeWhile plain).length = m at *
      clear hm hv hq he
      go_enter Tryd.func19, Tryd.ntmps19
      go_wp2_with (first | (go_at_call 31; refine (HS.out _).mono ?_; rintro e w' ⟨rfl, rfl⟩) | (go_at_call 27; refine (HE.out _).mono ?_; rintro e w' ⟨rfl, hb⟩; have HB := Lib.hid hb; clear hb))
      go_ret2
      exact ⟨by rw [HV.out]; rfl, HB.out⟩
    · rw [decide_eq_false hm] at hv
      have HQ := Lib.hid (show quoteV (bs s) = [] by unfold quoteV; rw [hv]; rfl)
      have HV := Lib.hid hv
      have hne : ((((bs s).takeWhile plain).length : Int) != s.size) = true := by simp; omega
      generalize ((bs s).takeWhile plain).length = m at *
      clear hm hv
      go_enter Tryd.func19, Tryd.ntmps19
      go_wp2_with (go_at_call 31; refine (HS.out _).mono ?_; rintro e w' ⟨rfl, rfl⟩)
      go_ret2
      exact ⟨by rw [HV.out, HQ.out]; rfl, Below.refl _ _⟩
  · rw [decide_eq_false h4, Bool.false_and] at hv
    have HQ := Lib.hid (show quoteV (bs s) = [] by unfold quoteV; rw [hv]; rfl)
    have HV := Lib.hid hv
    clear hv
    go_enter Tryd.func19, Tryd.ntmps19
    go_wp2_with fail
    go_ret2
    exact ⟨by rw [HV.out, HQ.out]; rfl, Below.refl _ _⟩

end Go.Proofs.YtmkeajeohkdieaaDoor
