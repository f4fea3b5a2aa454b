/- An argument that is a slice of structs whose fields take one cell each, opened to its cells. -/
import Derived.Test.YtlfiooenbgegkaaOwn
import Derived.ProofKit
import Derived.OpenShut
import Derived.Deep.Slices
import Derived.Deep.Fields
namespace Go.Proofs.Ytlfiooenbgegkaa
open Go.ChangeShapes Go.WideShapes Go.ChangeAt Go.RowKit Go.Deep

section
variable {H : Type} {enc : TypeId × Value → H} {P : Program} {w : World} {base : Nat} {spare : Nat → Bool} {held : Bool}
/-- each field's cell, with its own reading -/
theorem open_rows {t e : TypeId} {fs : Array Field} {fuel : Nat} {cs : List Value} {x : DataW H × List MemPlace} (ht : P.underlying t = some (.slice e)) (he : P.underlying e = some (.struct fs))
    (hone : oneCellFields P fs = true) (hC : P.cellsOf e = fs.size) (h : DataW.trod enc P w base spare held fuel t cs = some x) :
    cs = [.slice none 0 0] ∨
    ∃ (a : Addr) (len cap : Nat), cs = [.slice (some a) len cap] ∧ len ≤ cap ∧ cap ≤ maxLen ∧
      ∀ i, i < len → ∀ (j : Nat) (f : Field), fs[j]? = some f → ∃ (v : Value) (y : DataW H × List MemPlace) (n : Nat), w.cell? (a.add (i * fs.size + j)) = some v ∧ DataW.trod enc P w base spare held n f.type [v] = some y := by
  rcases open_slice ht h with ⟨h0, _⟩ | ⟨a, len, cap, m, n, D, Pl, hcs, _, hl, hm, hmm, _, hi⟩
  · exact .inl h0
  · refine .inr ⟨a, len, cap, hcs, hl, hm, fun i hil j f hj => ?_⟩
    have him : i < m := by rw [hmm]; split <;> omega
    obtain ⟨cs', hc, ht'⟩ := hi i him
    rw [hC] at hc
    obtain ⟨ys, n', _, _, _, hyl, hf⟩ := DataW.trod_struct he ht'
    obtain ⟨_, hcl, hat⟩ := World.cells?_some hc
    obtain ⟨ho, hk⟩ := hone_of hone j f hj
    have hjl : j < fs.size := (Array.getElem?_eq_some_iff.1 hj).1
    have hcell := hat j hjl
    have hv : cs'[j]? = some (cs'[j]'(by omega)) := List.getElem?_eq_getElem (by omega)
    have h1 := hf j f hj
    rw [ho, hk] at h1
    have hone' : (cs'.drop j).take 1 = [cs'[j]'(by omega)] := by
      rw [List.drop_eq_getElem_cons (by omega)]
      rfl
    rw [hone'] at h1
    have hys : ys[j]? = some (ys[j]'(by omega)) := List.getElem?_eq_getElem (by omega)
    refine ⟨_, _, n', ?_, h1.trans hys⟩
    rw [← Go.Deep.add_add, hcell, hv]

theorem list_of {α : Type} {p : Nat → α → Prop} : ∀ n : Nat, (∀ i, i < n → ∃ r, p i r) → ∃ rs : List α, rs.length = n ∧ ∀ i r, rs[i]? = some r → p i r := by
  intro n
  induction n with
  | zero => exact fun _ => ⟨[], rfl, fun i r h => by simp at h⟩
  | succ n ih =>
    intro h
    obtain ⟨rs, hl, hp⟩ := ih fun i hi => h i (by omega)
    obtain ⟨r, hr⟩ := h n (by omega)
    refine ⟨rs ++ [r], by simp [hl], fun i q hq => ?_⟩
    rcases Nat.lt_trichotomy i n with hi | hi | hi
    · rw [List.getElem?_append_left (by omega)] at hq
      exact hp i q hq
    · subst hi
      rw [List.getElem?_append_right (by omega), hl] at hq
      simp at hq
      subst hq; exact hr
    · rw [List.getElem?_eq_none (by simp; omega)] at hq
      cases hq

/-- the slice as a list of elements: 'one' reads one element off its fields -/
theorem open_rowOf {α : Type} {f : α → List Value} {Q : α → Prop} {t e : TypeId} {fs : Array Field} {fuel : Nat} {a : Option Addr} {len cap : Nat} {x : DataW H × List MemPlace}
    (ht : P.underlying t = some (.slice e)) (he : P.underlying e = some (.struct fs)) (hone : oneCellFields P fs = true) (hC : P.cellsOf e = fs.size) (h0 : 0 < fs.size)
    (one : ∀ (c : Nat → Option Value), (∀ (j : Nat) (g : Field), fs[j]? = some g → ∃ (v : Value) (y : DataW H × List MemPlace) (n : Nat), c j = some v ∧ DataW.trod enc P w base spare held n g.type [v] = some y) → ∃ x : α, Q x ∧ ∀ (j : Nat) u, (f x)[j]? = some u → c j = some u)
    (h : DataW.trod enc P w base spare held fuel t [.slice a len cap] = some x) :
    ∃ xs : List α, xs.length = len ∧ len ≤ cap ∧ len ≤ 9223372036854775807 ∧ RowOf f fs.size w w.heap.size a xs ∧ ∀ x ∈ xs, Q x := by
  rcases open_rows ht he hone hC h with h1 | ⟨ad, l, c, hcs, hl, hm, hc⟩
  · simp at h1
    obtain ⟨rfl, rfl, rfl⟩ := h1
    exact ⟨[], rfl, Nat.le_refl _, by omega, RowOf.nil, fun x hx => by simp at hx⟩
  · simp at hcs
    obtain ⟨rfl, rfl, rfl⟩ := hcs
    unfold maxLen at hm
    rcases Nat.eq_zero_or_pos len with hz | hz
    · subst hz
      exact ⟨[], rfl, by omega, by omega, RowOf.nil, fun x hx => by simp at hx⟩
    · obtain ⟨b, off, spot⟩ := ad
      obtain ⟨g0, hg0⟩ : ∃ g, fs[0]? = some g := ⟨_, Array.getElem?_eq_getElem h0⟩
      have hspot : spot = none := by
        obtain ⟨v, y, n, hcell, _⟩ := hc 0 hz 0 _ hg0
        simpa [Addr.add] using World.cell?_spot hcell
      subst hspot
      have hlt : b < w.heap.size := by
        obtain ⟨v, y, n, hcell, _⟩ := hc 0 hz 0 _ hg0
        rw [Nat.zero_mul] at hcell
        exact World.block_lt_of_cell? w _ hcell
      have hadd : ∀ i j, w.cell? (({ block := b, off := off, spot := none } : Addr).add (i * fs.size + j)) = w.cell? ⟨b, off + i * fs.size + j, none⟩ := by
        intro i j
        unfold Addr.add
        split
        · rename_i h0; rw [Nat.add_assoc, h0]; rfl
        · simp [Nat.add_assoc]
      obtain ⟨xs, hxl, hxs⟩ := list_of (p := fun i (x : α) => Q x ∧ ∀ (j : Nat) u, (f x)[j]? = some u → w.cell? ⟨b, off + i * fs.size + j, none⟩ = some u) len fun i hi =>
        one (fun j => w.cell? ⟨b, off + i * fs.size + j, none⟩) fun j g hj => by
          obtain ⟨v, y, n, h1, h2⟩ := hc i hi j g hj
          rw [hadd] at h1
          exact ⟨v, y, n, h1, h2⟩
      refine ⟨xs, hxl, hl, by omega, fun _ => ⟨b, off, rfl, hlt, fun i x hx => (hxs i x hx).2⟩, fun x hx => ?_⟩
      obtain ⟨i, hi⟩ := List.getElem?_of_mem hx
      exact (hxs i x hi).1
end

end Go.Proofs.Ytlfiooenbgegkaa
