/- An argument that is a slice of tokens, opened. -/
import Derived.Test.YtmkeajeohkdieaaDoorLxO
import Derived.Test.YtmkeajeohkdieaaDoorRows1
namespace Go.Proofs.YtmkeajeohkdieaaDoor
open Go.ChangeShapes Go.WideShapes Go.ChangeAt Go.RowKit Go.Deep Lx

theorem open_toks {H : Type} {enc : TypeId × Value → H} {w : World} {base : Nat} {spare : Nat → Bool} {held : Bool} {a : Option Addr} {len cap : Nat} {d : DataW H} {ps : List MemPlace}
    (h : DataW.Trod enc Tryd.prog w base spare held 23 (.slice a len cap) d ps) :
    ∃ rs : List RTok, rs.length = len ∧ rs.length ≤ cap ∧ Toks w w.heap.size a rs := by
  obtain ⟨fuel, hf⟩ := h
  have hf' : DataW.trod enc Tryd.prog w base spare held fuel 23 [.slice a len cap] = some (d, ps) := hf
  obtain ⟨xs, h1, h2, _, h3, _⟩ := open_rowOf (f := rcell) (Q := fun _ => True) Tryd.underlying23 Tryd.underlying32 (by kernel_rfl) (by kernel_rfl) (by decide) (fun c hc => by
    obtain ⟨v0, y0, n0, e0, t0⟩ := hc 0 _ rfl
    obtain ⟨v1, y1, n1, e1, t1⟩ := hc 1 _ rfl
    obtain ⟨v2, y2, n2, e2, t2⟩ := hc 2 _ rfl
    obtain ⟨v3, y3, n3, e3, t3⟩ := hc 3 _ rfl
    obtain ⟨k0, f0, _, _⟩ := DataW.trod_int Tryd.underlying3 t0
    obtain ⟨k1, f1, _, _⟩ := DataW.trod_string Tryd.underlying9 t1
    obtain ⟨k2, f2, _, _⟩ := DataW.trod_int Tryd.underlying3 t2
    obtain ⟨k3, f3, _, _⟩ := DataW.trod_int Tryd.underlying3 t3
    simp at f0 f1 f2 f3
    subst f0; subst f1; subst f2; subst f3
    refine ⟨⟨k0, k1, k2, k3⟩, trivial, fun j u hu => ?_⟩
    match j, hu with
    | 0, hu => simp [rcell] at hu; rw [← hu]; exact e0
    | 1, hu => simp [rcell] at hu; rw [← hu]; exact e1
    | 2, hu => simp [rcell] at hu; rw [← hu]; exact e2
    | 3, hu => simp [rcell] at hu; rw [← hu]; exact e3
    | j + 4, hu => simp [rcell] at hu) hf'
  exact ⟨xs, h1, by omega, h3⟩

end Go.Proofs.YtmkeajeohkdieaaDoor
