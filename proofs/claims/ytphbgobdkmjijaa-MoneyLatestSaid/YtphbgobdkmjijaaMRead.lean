/- An argument that is a slice of rates, opened to its cells. -/
import Derived.Test.YtphbgobdkmjijaaMi
import Derived.Test.YtphbgobdkmjijaaRows
import Derived.ProofKit
import Derived.OpenShut
import Derived.ShutString
import Derived.ChangeOld
import Derived.Deep.Slices
import Derived.Deep.Fields
import Derived.ChangeSame
namespace Go.Proofs.Ytphbgobdkmjijaa
open Go.ChangeShapes Go.WideShapes Go.ChangeAt Go.RowKit Go.Deep Mo

theorem own : ownKnob Try.prog.godebug = none := by kernel_rfl
theorem laidOut : laidOutB Try.prog = true := by kernel_rfl

section
variable {H : Type} {enc : TypeId × Value → H} {P : Program} {w : World} {base : Nat} {spare : Nat → Bool} {held : Bool}
/-- a slice of structs whose fields take one cell each: each field's cell, with its own reading -/
theorem open_rows {t e : TypeId} {fs : Array Field} {fuel : Nat} {cs : List Value} {x : DataW H × List MemPlace} (ht : P.underlying t = some (.slice e)) (he : P.underlying e = some (.struct fs))
    (hone : oneCellFields P fs = true) (hC : P.cellsOf e = fs.size) (h : DataW.trod enc P w base spare held fuel t cs = some x) :
    cs = [.slice none 0 0] ∨
    ∃ (a : Addr) (len cap : Nat), cs = [.slice (some a) len cap] ∧ len ≤ cap ∧ cap ≤ maxLen ∧
      ∀ i, i < len → ∀ (j : Nat) (f : Field), fs[j]? = some f → ∃ (v : Value) (y : DataW H × List MemPlace) (n : Nat), w.cell? (a.add (i * fs.size + j)) = some v ∧ DataW.trod enc P w base spare held n f.type [v] = some y := by
  rcases open_slice ht h with ⟨h0, _⟩ | ⟨a, len, cap, m, n, D, Pl, hcs, _, hl, hm, hmm, _, hi⟩
  · exact .inl h0
  · refine .inr ⟨a, len, cap, hcs, hl, hm, fun i hil j f hj => ?_⟩
    have him : i < m := by rw [hmm]; split <;> omega
    obtain ⟨cs', hc, ht'⟩ := hi i him
    rw [hC] at hc
    obtain ⟨ys, n', _, _, _, hyl, hf⟩ := DataW.trod_struct he ht'
    obtain ⟨_, hcl, hat⟩ := World.cells?_some hc
    obtain ⟨ho, hk⟩ := hone_of hone j f hj
    have hjl : j < fs.size := (Array.getElem?_eq_some_iff.1 hj).1
    have hcell := hat j hjl
    have hv : cs'[j]? = some (cs'[j]'(by omega)) := List.getElem?_eq_getElem (by omega)
    have h1 := hf j f hj
    rw [ho, hk] at h1
    have hone' : (cs'.drop j).take 1 = [cs'[j]'(by omega)] := by
      rw [List.drop_eq_getElem_cons (by omega)]
      rfl
    rw [hone'] at h1
    have hys : ys[j]? = some (ys[j]'(by omega)) := List.getElem?_eq_getElem (by omega)
    refine ⟨_, _, n', ?_, h1.trans hys⟩
    rw [← Go.Deep.add_add, hcell, hv]
end

/-- one element's five cells, each a number -/
theorem rate_at {H : Type} {enc : TypeId × Value → H} {w : World} {base : Nat} {spare : Nat → Bool} {held : Bool} {b off i : Nat}
    (h : ∀ (j : Nat) (f : Field), (#[⟨ "From", 3, 0, false, "", "", 0⟩, ⟨ "To", 3, 1, false, "", "", 8⟩, ⟨ "Num", 3, 2, false, "", "", 16⟩, ⟨ "Den", 3, 3, false, "", "", 24⟩, ⟨ "Since", 3, 4, false, "", "", 32⟩] : Array Field)[j]? = some f →
      ∃ (v : Value) (y : DataW H × List MemPlace) (n : Nat), w.cell? (({ block := b, off := off, spot := none } : Addr).add (i * 5 + j)) = some v ∧ DataW.trod enc Try.prog w base spare held n f.type [v] = some y) :
    ∃ r : Rate, RCell w b (off + i * 5) r ∧ RWf r := by
  have key : ∀ j, j < 5 → ∃ a : Int, w.cell? ⟨b, off + i * 5 + j, none⟩ = some (.int .i64 a) ∧ (Lit.int .i64 a).wf = true := by
    intro j hj
    obtain ⟨f, hf, hft⟩ : ∃ f, (#[⟨ "From", 3, 0, false, "", "", 0⟩, ⟨ "To", 3, 1, false, "", "", 8⟩, ⟨ "Num", 3, 2, false, "", "", 16⟩, ⟨ "Den", 3, 3, false, "", "", 24⟩, ⟨ "Since", 3, 4, false, "", "", 32⟩] : Array Field)[j]? = some f ∧ f.type = 3 := by
      match j, hj with
      | 0, _ => exact ⟨_, rfl, rfl⟩
      | 1, _ => exact ⟨_, rfl, rfl⟩
      | 2, _ => exact ⟨_, rfl, rfl⟩
      | 3, _ => exact ⟨_, rfl, rfl⟩
      | 4, _ => exact ⟨_, rfl, rfl⟩
    obtain ⟨v, y, n, hc, hy⟩ := h j f hf
    rw [hft] at hy
    obtain ⟨a, e0, _, wa⟩ := DataW.trod_int Try.underlying3 hy
    simp at e0
    subst e0
    refine ⟨a, ?_, wa⟩
    rw [← hc, Addr.add]
    split
    · rename_i h0; rw [Nat.add_assoc, h0]; rfl
    · simp [Nat.add_assoc]
  obtain ⟨a0, c0, _⟩ := key 0 (by omega)
  obtain ⟨a1, c1, _⟩ := key 1 (by omega)
  obtain ⟨a2, c2, w2⟩ := key 2 (by omega)
  obtain ⟨a3, c3, w3⟩ := key 3 (by omega)
  obtain ⟨a4, c4, _⟩ := key 4 (by omega)
  have b2 := bounds_i64 w2
  have b3 := bounds_i64 w3
  exact ⟨⟨a0, a1, a2, a3, a4⟩, ⟨c0, c1, c2, c3, c4⟩, by unfold RWf; simp only; omega⟩

theorem list_of {α : Type} {p : Nat → α → Prop} : ∀ n : Nat, (∀ i, i < n → ∃ r, p i r) → ∃ rs : List α, rs.length = n ∧ ∀ i r, rs[i]? = some r → p i r := by
  intro n
  induction n with
  | zero => exact fun _ => ⟨[], rfl, fun i r h => by simp at h⟩
  | succ n ih =>
    intro h
    obtain ⟨rs, hl, hp⟩ := ih fun i hi => h i (by omega)
    obtain ⟨r, hr⟩ := h n (by omega)
    refine ⟨rs ++ [r], by simp [hl], fun i q hq => ?_⟩
    rcases Nat.lt_trichotomy i n with hi | hi | hi
    · rw [List.getElem?_append_left (by omega)] at hq
      exact hp i q hq
    · subst hi
      rw [List.getElem?_append_right (by omega), hl] at hq
      simp at hq
      subst hq; exact hr
    · rw [List.getElem?_eq_none (by simp; omega)] at hq
      cases hq

/-- THE ARGUMENT, OPENED -/
theorem open_rates {H : Type} {enc : TypeId × Value → H} {w : World} {base : Nat} {spare : Nat → Bool} {held : Bool} {fuel : Nat} {a : Option Addr} {len cap : Nat} {x : DataW H × List MemPlace}
    (h : DataW.trod enc Try.prog w base spare held fuel 22 [.slice a len cap] = some x) :
    ∃ rs : List Rate, rs.length = len ∧ RR w w.heap.size a rs := by
  rcases open_rows Try.underlying22 Try.underlying36 (by kernel_rfl) (by kernel_rfl) h with h0 | ⟨ad, l, c, hcs, hl, hm, hc⟩
  · simp at h0
    obtain ⟨rfl, rfl, rfl⟩ := h0
    exact ⟨[], rfl, ⟨by simp, by simp⟩, by simp⟩
  · simp at hcs
    obtain ⟨rfl, rfl, rfl⟩ := hcs
    unfold maxLen at hm
    rcases Nat.eq_zero_or_pos len with h0 | h0
    · subst h0
      exact ⟨[], rfl, ⟨by simp, by simp⟩, by simp⟩
    · obtain ⟨b, off, spot⟩ := ad
      have hspot : spot = none := by
        obtain ⟨v, y, n, hcell, _⟩ := hc 0 h0 0 _ rfl
        simpa [Addr.add] using World.cell?_spot hcell
      subst hspot
      have hlt : b < w.heap.size := by
        obtain ⟨v, y, n, hcell, _⟩ := hc 0 h0 0 _ rfl
        exact World.block_lt_of_cell? w _ hcell
      obtain ⟨rs, hrl, hrs⟩ := list_of (p := fun i r => RCell w b (off + i * 5) r ∧ RWf r) len fun i hi => rate_at (hc i hi)
      refine ⟨rs, hrl, ⟨by omega, fun r hr => ?_⟩, fun _ => ⟨b, off, rfl, hlt, fun i r hi => (hrs i r hi).1⟩⟩
      obtain ⟨i, hi⟩ := List.getElem?_of_mem hr
      exact (hrs i r hi).2

theorem rates_cap {H : Type} {enc : TypeId × Value → H} {w : World} {base : Nat} {spare : Nat → Bool} {held : Bool} {fuel : Nat} {a : Option Addr} {len cap : Nat} {x : DataW H × List MemPlace}
    (h : DataW.trod enc Try.prog w base spare held fuel 22 [.slice a len cap] = some x) : len ≤ cap := by
  rcases open_rows Try.underlying22 Try.underlying36 (by kernel_rfl) (by kernel_rfl) h with h0 | ⟨ad, l, c, hcs, hl, hm, hc⟩
  · simp at h0
    obtain ⟨rfl, rfl, rfl⟩ := h0
    exact Nat.le_refl _
  · simp at hcs
    obtain ⟨rfl, rfl, rfl⟩ := hcs
    exact hl

section
variable {H : Type} {enc : TypeId × Value → H} {P : Program} {w : World} {base : Nat} {spare : Nat → Bool} {held : Bool}
theorem okWide_arr {r : Reach} {b0 : Nat} {t e : TypeId} {n : Nat} {v : Value} (ht : P.underlying t = some (.array n e)) (h : Value.okWide P w r b0 t v) : ∃ cs, v = .agg cs ∧ cs.size = P.cellsOf t := by
  simp only [Value.okWide, ht] at h
  obtain ⟨cs, h1, h2, _⟩ := h
  exact ⟨cs, h1, h2⟩
/-- two numbers in an array, by value -/
theorem open_two {r : Reach} {b0 : Nat} {t e : TypeId} {v : Value} {d : DataW H} {p : List MemPlace} (ht : P.underlying t = some (.array 2 e)) (he : P.underlying e = some (.int .i64))
    (hC : P.cellsOf t = 2) (hE : P.cellsOf e = 1) (hv : Value.okWide P w r b0 t v) (h : DataW.Trod enc P w base spare held t v d p) :
    ∃ a b : Int, v = .agg #[.int .i64 a, .int .i64 b] := by
  obtain ⟨cs, rfl, hsz⟩ := okWide_arr ht hv
  obtain ⟨l⟩ := cs
  match l, hsz.trans hC with
  | [c0, c1], _ =>
    obtain ⟨fuel, hf⟩ := h
    obtain ⟨xs, m, _, _, _, hlen, hg⟩ := DataW.trod_array ht hf
    have g0 := hg 0 (by omega)
    have g1 := hg 1 (by omega)
    rw [hE] at g0 g1
    match xs, hlen with
    | [y0, y1], _ =>
      simp [Value.cells] at g0 g1
      obtain ⟨a, e0, _⟩ := DataW.trod_int he g0
      obtain ⟨b, e1, _⟩ := DataW.trod_int he g1
      simp at e0 e1
      exact ⟨a, b, by rw [e0, e1]⟩
end

end Go.Proofs.Ytphbgobdkmjijaa
