/- Walks by the logic of calls, and plain laws. -/
import Derived.Test.YtfbijgbpipedoaaGreatDoorGUnitPl
import Derived.Test.YtfbijgbpipedoaaGreatDoorGh3
import Derived.Test.YtfbijgbpipedoaaGreatDoorAgg
import Derived.Test.YtfbijgbpipedoaaGreatDoorRows1
import Derived.Test.YtfbijgbpipedoaaGreatDoorOwn
import Derived.Test.YtfbijgbpipedoaaGreatDoorRows
import Derived.ProofKit
import Derived.OpenShut
import Derived.ShutString
import Derived.ChangeOld
import Derived.Deep.Slices
import Derived.Deep.Fields
import Derived.ChangeSame
namespace Go.Gh
open Go Go.Proofs
set_option maxRecDepth 1000000
set_option maxHeartbeats 2000000
set_option linter.unusedSimpArgs false
set_option linter.unusedVariables false
open Go.Proofs.YtfbijgbpipedoaaGreatDoor Go.Proofs.YtfbijgbpipedoaaGreatDoor.Ra
open Go.ChangeShapes Go.WideShapes Go.ChangeAt Go.RowKit Go.Deep
set_option maxRecDepth 1000000
theorem own : ownKnob Tryz.prog.godebug = none := by kernel_rfl
theorem laidOut : laidOutB Tryz.prog = true := by kernel_rfl
def ucell (u : Un) : List Value := [.string u.name, .int .i64 u.base, .int .i64 u.num, .int .i64 u.den]
theorem open_units {H : Type} {enc : TypeId × Value → H} {w : World} {base : Nat} {spare : Nat → Bool} {held : Bool} {r : Reach} {b0 : Nat} {v : Value} {d : DataW H} {ps : List MemPlace}
    (hv : Value.okWide Tryz.prog w r b0 22 v) (h : DataW.Trod enc Tryz.prog w base spare held 22 v d ps) :
    ∃ (t : List Un), DR (allF w) w (.row default unC t) v ∧ t.length ≤ 9223372036854775807 ∧ ∀ u, u ∈ t → u.name.size ≤ 9223372036854775807 := by
  obtain ⟨fuel, hf⟩ := h
  obtain ⟨a, len, cap, rfl⟩ := okWide_slice Tryz.underlying22 hv
  have hf' : DataW.trod enc Tryz.prog w base spare held fuel 22 [.slice a len cap] = some (d, ps) := hf
  obtain ⟨xs, h1, h2, h2', h3, h4⟩ := open_rowOf (f := ucell) (Q := fun u => u.name.size ≤ 9223372036854775807) Tryz.underlying22 Tryz.underlying49 (by kernel_rfl) (by kernel_rfl) (by decide) (fun c hc => by
    obtain ⟨v0, y0, n0, e0, t0⟩ := hc 0 _ rfl
    obtain ⟨v1, y1, n1, e1, t1⟩ := hc 1 _ rfl
    obtain ⟨v2, y2, n2, e2, t2⟩ := hc 2 _ rfl
    obtain ⟨v3, y3, n3, e3, t3⟩ := hc 3 _ rfl
    obtain ⟨k0, f0, _, z0⟩ := DataW.trod_string Tryz.underlying9 t0
    obtain ⟨k1, f1, _, _⟩ := DataW.trod_int Tryz.underlying3 t1
    obtain ⟨k2, f2, _, _⟩ := DataW.trod_int Tryz.underlying3 t2
    obtain ⟨k3, f3, _, _⟩ := DataW.trod_int Tryz.underlying3 t3
    simp at f0 f1 f2 f3
    subst f0; subst f1; subst f2; subst f3
    refine ⟨⟨k0, k1, k2, k3⟩, by have z : k0.size ≤ maxLen := z0; unfold maxLen at z; exact z, fun j u hu => ?_⟩
    match j, hu with
    | 0, hu => simp [ucell] at hu; rw [← hu]; exact e0
    | 1, hu => simp [ucell] at hu; rw [← hu]; exact e1
    | 2, hu => simp [ucell] at hu; rw [← hu]; exact e2
    | 3, hu => simp [ucell] at hu; rw [← hu]; exact e3
    | j + 4, hu => simp [ucell] at hu) hf'
  subst h1
  refine ⟨xs, dr_row (f := ucell) (es := 4) (fun _ => rfl) (fun _ => rfl) (fun x u hu => by simp [ucell] at hu; rcases hu with rfl | rfl | rfl | rfl <;> rfl) h2 (fun hn => ?_), h2', h4⟩
  obtain ⟨b, off, e, _, hc⟩ := h3 hn
  exact ⟨b, off, e, hc⟩
theorem bounds_u16 {n : Int} (h : (Lit.int .u16 n).wf = true) : 0 ≤ n ∧ n ≤ 65535 := by
  simp [Lit.wf, IntKind.min, IntKind.max, IntKind.signed, IntKind.bits] at h
  omega
theorem scV {ν : Nu} {F : Fz} {w : World} (v : Value) (h : v.oneCell' = true) : VR ν F w (.d (.sc v)) v := .d (.sc v h)
theorem quV {ν : Nu} {F : Fz} {w : World} (q : Qu) : VR ν F w (quG q) (.agg #[.int .i64 q.n, .int .i64 q.u]) := (gV_iff (g := quG q) rfl).1
theorem open_qu {H : Type} {enc : TypeId × Value → H} {w : World} {base : Nat} {spare : Nat → Bool} {held : Bool} {r : Reach} {b0 : Nat} {v : Value} {d : DataW H} {p : List MemPlace}
    (hv : Value.okWide Tryz.prog w r b0 27 v) (h : DataW.Trod enc Tryz.prog w base spare held 27 v d p) :
    ∃ q : Qu, v = .agg #[.int .i64 q.n, .int .i64 q.u] := by
  obtain ⟨cs, rfl, hsz, hc⟩ := open_aggs Tryz.underlying27 (by kernel_rfl) (by kernel_rfl) hv h
  obtain ⟨v0, y0, n0, e0, t0⟩ := hc 0 _ rfl
  obtain ⟨v1, y1, n1, e1, t1⟩ := hc 1 _ rfl
  obtain ⟨k0, f0, _, w0⟩ := DataW.trod_int Tryz.underlying3 t0
  obtain ⟨k1, f1, _, w1⟩ := DataW.trod_int Tryz.underlying3 t1
  simp at f0 f1
  subst f0; subst f1
  refine ⟨⟨k0, k1⟩, ?_⟩
  have hl : cs.size = 2 := hsz
  congr 1
  apply Array.ext_getElem?
  intro i
  match i with
  | 0 => simpa using e0
  | 1 => simpa using e1
  | i + 2 => rw [Array.getElem?_eq_none (by omega), Array.getElem?_eq_none (by simp)]

def qcell (q : Qu) : List Value := [.int .i64 q.n, .int .i64 q.u]
theorem open_qus {H : Type} {enc : TypeId × Value → H} {w : World} {base : Nat} {spare : Nat → Bool} {held : Bool} {r : Reach} {b0 : Nat} {v : Value} {d : DataW H} {ps : List MemPlace}
    (hv : Value.okWide Tryz.prog w r b0 23 v) (h : DataW.Trod enc Tryz.prog w base spare held 23 v d ps) :
    ∃ (t : List Qu), DR (allF w) w (.row default quC t) v ∧ t.length ≤ 9223372036854775807 := by
  obtain ⟨fuel, hf⟩ := h
  obtain ⟨a, len, cap, rfl⟩ := okWide_slice Tryz.underlying23 hv
  have hf' : DataW.trod enc Tryz.prog w base spare held fuel 23 [.slice a len cap] = some (d, ps) := hf
  obtain ⟨xs, h1, h2, h2', h3, h4⟩ := open_rowOf (f := qcell) (Q := fun _ => True) Tryz.underlying23 Tryz.underlying27 (by kernel_rfl) (by kernel_rfl) (by decide) (fun c hc => by
    obtain ⟨v0, y0, n0, e0, t0⟩ := hc 0 _ rfl
    obtain ⟨v1, y1, n1, e1, t1⟩ := hc 1 _ rfl
    obtain ⟨k0, f0, _, _⟩ := DataW.trod_int Tryz.underlying3 t0
    obtain ⟨k1, f1, _, _⟩ := DataW.trod_int Tryz.underlying3 t1
    simp at f0 f1
    subst f0; subst f1
    refine ⟨⟨k0, k1⟩, trivial, fun j u hu => ?_⟩
    match j, hu with
    | 0, hu => simp [qcell] at hu; rw [← hu]; exact e0
    | 1, hu => simp [qcell] at hu; rw [← hu]; exact e1
    | j + 2, hu => simp [qcell] at hu) hf'
  subst h1
  refine ⟨xs, dr_row (f := qcell) (es := 2) (fun _ => rfl) (fun _ => rfl) (fun x u hu => by simp [qcell] at hu; rcases hu with rfl | rfl <;> rfl) h2 (fun hn => ?_), h2'⟩
  obtain ⟨b, off, e, _, hc⟩ := h3 hn
  exact ⟨b, off, e, hc⟩
end Go.Gh
