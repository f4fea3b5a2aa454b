/- An argument that is a rate, by value. -/
import Derived.Test.YtphbgobdkmjijaaMRead
import Derived.Test.YtphbgobdkmjijaaAgg
namespace Go.Proofs.Ytphbgobdkmjijaa
open Go.ChangeShapes Go.WideShapes Go.ChangeAt Go.RowKit Go.Deep Mo

theorem open_rate {H : Type} {enc : TypeId × Value → H} {w : World} {base : Nat} {spare : Nat → Bool} {held : Bool} {r : Reach} {b0 : Nat} {v : Value} {d : DataW H} {p : List MemPlace}
    (hv : Value.okWide Try.prog w r b0 36 v) (h : DataW.Trod enc Try.prog w base spare held 36 v d p) :
    ∃ one : Rate, v = .agg #[.int .i64 one.f, .int .i64 one.t, .int .i64 one.n, .int .i64 one.d, .int .i64 one.s] ∧ RWf one := by
  obtain ⟨cs, rfl, hsz, hc⟩ := open_aggs Try.underlying36 (by kernel_rfl) (by kernel_rfl) hv h
  obtain ⟨v0, y0, n0, e0, t0⟩ := hc 0 _ rfl
  obtain ⟨v1, y1, n1, e1, t1⟩ := hc 1 _ rfl
  obtain ⟨v2, y2, n2, e2, t2⟩ := hc 2 _ rfl
  obtain ⟨v3, y3, n3, e3, t3⟩ := hc 3 _ rfl
  obtain ⟨v4, y4, n4, e4, t4⟩ := hc 4 _ rfl
  obtain ⟨k0, f0, _, _⟩ := DataW.trod_int Try.underlying3 t0
  obtain ⟨k1, f1, _, _⟩ := DataW.trod_int Try.underlying3 t1
  obtain ⟨k2, f2, _, w2⟩ := DataW.trod_int Try.underlying3 t2
  obtain ⟨k3, f3, _, w3⟩ := DataW.trod_int Try.underlying3 t3
  obtain ⟨k4, f4, _, _⟩ := DataW.trod_int Try.underlying3 t4
  simp at f0 f1 f2 f3 f4
  subst f0; subst f1; subst f2; subst f3; subst f4
  have b2 := bounds_i64 w2
  have b3 := bounds_i64 w3
  refine ⟨⟨k0, k1, k2, k3, k4⟩, ?_, by unfold RWf; simp only; omega⟩
  have hl : cs.size = 5 := hsz
  congr 1
  apply Array.ext_getElem?
  intro i
  match i with
  | 0 => simpa using e0
  | 1 => simpa using e1
  | 2 => simpa using e2
  | 3 => simpa using e3
  | 4 => simpa using e4
  | i + 5 => rw [Array.getElem?_eq_none (by omega), Array.getElem?_eq_none (by simp)]

end Go.Proofs.Ytphbgobdkmjijaa
