/- Words for the laws: boxes that hold disks. -/
import Derived.Test.YtlfiooenbgegkaaDl
import Derived.Test.YtlfiooenbgegkaaDLaw
namespace Go.Proofs.Ytlfiooenbgegkaa
open Go.RowKit Ds
set_option linter.unusedSimpArgs false
set_option linter.unusedVariables false

/-- a box that holds a disk lies in no row of strings, and in no row of writes -/
theorem box_not_secs {w : World} {B g : Nat} {A : Option Addr} {l : List ByteArray} {p1 p2 : Option Addr} {n1 c1 n2 c2 : Nat} {i : Int} {b : Bool} {k : IntKind} {t : TypeId} {fr : Nat × Nat}
    (hg : w.heap[g]? = some (.cells #[.slice p1 n1 c1, .slice p2 n2 c2, .int k i, .bool b] t fr)) (h : RowOf scell 1 w B A l) (hn : l ≠ []) : ∀ q off, A = some ⟨q, off, none⟩ → q ≠ g := by
  intro q off e he
  subst he
  obtain ⟨b', off', e', _, hc⟩ := h hn
  rw [e] at e'
  injection e' with e'
  injection e' with e1 e2
  subst e1; subst e2
  match l, hn, hc with
  | s :: l, _, hc =>
    have := hc 0 s rfl 0 _ rfl
    simp only [World.cell?, hg] at this
    match off, this with
    | 0, this => simp at this
    | 1, this => simp at this
    | 2, this => simp at this
    | 3, this => simp at this
    | n + 4, this => simp at this
theorem box_not_pend {w : World} {B g : Nat} {A : Option Addr} {l : List Wr} {p1 p2 : Option Addr} {n1 c1 n2 c2 : Nat} {i : Int} {b : Bool} {k : IntKind} {t : TypeId} {fr : Nat × Nat}
    (hg : w.heap[g]? = some (.cells #[.slice p1 n1 c1, .slice p2 n2 c2, .int k i, .bool b] t fr)) (h : RowOf wcell 2 w B A l) (hn : l ≠ []) : ∀ q off, A = some ⟨q, off, none⟩ → q ≠ g := by
  intro q off e he
  subst he
  obtain ⟨b', off', e', _, hc⟩ := h hn
  rw [e] at e'
  injection e' with e'
  injection e' with e1 e2
  subst e1; subst e2
  match l, hn, hc with
  | s :: l, _, hc =>
    have := hc 0 s rfl 1 _ rfl
    simp only [World.cell?, hg] at this
    match off, this with
    | 0, this => simp at this
    | 1, this => simp at this
    | 2, this => simp at this
    | n + 3, this => simp at this
section
variable {w : World} {g B : Nat} {p1 p2 r1 r2 : Option Addr} {n1 c1 n2 c2 m1 d1 m2 d2 : Nat} {i j : Int} {b b' : Bool} {t : TypeId}
theorem row_set4 {A : Option Addr} {l : List ByteArray} (hg : w.heap[g]? = some (.cells #[.slice p1 n1 c1, .slice p2 n2 c2, .int .i64 i, .bool b] t (0, 0))) (h : RowOf scell 1 w w.heap.size A l) (y0 y1 y2 y3 : Value) :
    RowOf scell 1 ((((w.setCell ⟨g, 0, none⟩ y0).setCell ⟨g, 1, none⟩ y1).setCell ⟨g, 2, none⟩ y2).setCell ⟨g, 3, none⟩ y3) ((((w.setCell ⟨g, 0, none⟩ y0).setCell ⟨g, 1, none⟩ y1).setCell ⟨g, 2, none⟩ y2).setCell ⟨g, 3, none⟩ y3).heap.size A l := by
  intro hn
  have hne := box_not_secs hg h hn
  have := (((h.set (p := ⟨g, 0, none⟩) hne y0).set (p := ⟨g, 1, none⟩) hne y1).set (p := ⟨g, 2, none⟩) hne y2).set (p := ⟨g, 3, none⟩) hne y3
  exact (this.more (by simp)) hn
theorem disk_set4 {A : Option Addr} {c : Nat} {A' : Option Addr} {c' : Nat} {d : Dk} (hg : w.heap[g]? = some (.cells #[.slice p1 n1 c1, .slice p2 n2 c2, .int .i64 i, .bool b] t (0, 0))) (h : DiskAt w w.heap.size A c A' c' d) {y0 y1 y2 y3 : Value} :
    DiskAt ((((w.setCell ⟨g, 0, none⟩ y0).setCell ⟨g, 1, none⟩ y1).setCell ⟨g, 2, none⟩ y2).setCell ⟨g, 3, none⟩ y3) ((((w.setCell ⟨g, 0, none⟩ y0).setCell ⟨g, 1, none⟩ y1).setCell ⟨g, 2, none⟩ y2).setCell ⟨g, 3, none⟩ y3).heap.size A c A' c' d := by
  refine ⟨row_set4 hg h.secs y0 y1 y2 y3, ?_, h.lS, h.lP, h.cP⟩
  intro hn
  have hne := box_not_pend hg h.pend hn
  have := (((h.pend.set (p := ⟨g, 0, none⟩) hne y0).set (p := ⟨g, 1, none⟩) hne y1).set (p := ⟨g, 2, none⟩) hne y2).set (p := ⟨g, 3, none⟩) hne y3
  exact (this.more (by simp)) hn
end

/-- contracts, at one disk and one result -/
abbrev CallD (f : FuncId) (d : Dk) (args : List Value) (x : Dk) (er : Int) : Prop := ∀ A c A' c' w, DiskAt w w.heap.size A c A' c' d → Calls Try.prog f (dv A c A' c' d :: args).toArray w (DiskEnd w x er)
abbrev CallV (f : FuncId) (d : Dk) (args : List Value) (v : Value) : Prop := ∀ A c A' c' w, DiskAt w w.heap.size A c A' c' d → Calls Try.prog f (dv A c A' c' d :: args).toArray w fun e w' => e = .returned v ∧ Below w.heap.size w w'

end Go.Proofs.Ytlfiooenbgegkaa
