/- An argument that is a ratio, by value. -/
import Derived.Test.YtfchbkhgoebagaaRb
import Derived.Test.YtfchbkhgoebagaaAgg
import Derived.Test.YtfchbkhgoebagaaRows
import Derived.ProofKit
import Derived.OpenShut
import Derived.ShutString
import Derived.ChangeOld
import Derived.Deep.Slices
import Derived.Deep.Fields
import Derived.ChangeSame
namespace Go.Proofs.Ytfchbkhgoebagaa
open Go.ChangeShapes Go.WideShapes Go.ChangeAt Go.RowKit Go.Deep Ra

theorem own : ownKnob Try.prog.godebug = none := by kernel_rfl
theorem laidOut : laidOutB Try.prog = true := by kernel_rfl

theorem open_q {H : Type} {enc : TypeId × Value → H} {w : World} {base : Nat} {spare : Nat → Bool} {held : Bool} {r : Reach} {b0 : Nat} {v : Value} {d : DataW H} {p : List MemPlace}
    (hv : Value.okWide Try.prog w r b0 23 v) (h : DataW.Trod enc Try.prog w base spare held 23 v d p) :
    ∃ q : Q, v = .agg #[.int .i64 q.n, .int .i64 q.d] ∧ Q64 q := by
  obtain ⟨cs, rfl, hsz, hc⟩ := open_aggs Try.underlying23 (by kernel_rfl) (by kernel_rfl) hv h
  obtain ⟨v0, y0, n0, e0, t0⟩ := hc 0 _ rfl
  obtain ⟨v1, y1, n1, e1, t1⟩ := hc 1 _ rfl
  obtain ⟨k0, f0, _, w0⟩ := DataW.trod_int Try.underlying3 t0
  obtain ⟨k1, f1, _, w1⟩ := DataW.trod_int Try.underlying3 t1
  simp at f0 f1
  subst f0; subst f1
  have b0 := bounds_i64 w0
  have b1 := bounds_i64 w1
  refine ⟨⟨k0, k1⟩, ?_, by unfold Q64; simp only; omega⟩
  have hl : cs.size = 2 := hsz
  congr 1
  apply Array.ext_getElem?
  intro i
  match i with
  | 0 => simpa using e0
  | 1 => simpa using e1
  | i + 2 => rw [Array.getElem?_eq_none (by omega), Array.getElem?_eq_none (by simp)]

end Go.Proofs.Ytfchbkhgoebagaa
