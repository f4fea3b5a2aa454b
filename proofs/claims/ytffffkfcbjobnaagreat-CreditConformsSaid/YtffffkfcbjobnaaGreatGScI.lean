/- Walks by the logic of calls, and plain laws. -/
import Derived.Test.YtffffkfcbjobnaaGreatGScH
namespace Go.Gh
open Go Go.Proofs
set_option maxRecDepth 1000000
set_option maxHeartbeats 2000000
set_option linter.unusedSimpArgs false
set_option linter.unusedVariables false
open Go.RowKit

theorem arr1 {us : Array Value} (h : us.size = 1) : ∃ u, us = #[u] := by
  obtain ⟨l⟩ := us
  match l, h with
  | [u], _ => exact ⟨u, rfl⟩
theorem owns_row {w : World} {base ty : Nat} {v : Value} {xs : List ByteArray} (h : w.ownsRow base ty 1 v xs.length (xs.map Value.string)) : ∃ Fn : Fz, (∀ b o, Fn b o → base ≤ b ∧ (w.cell? ⟨b, o, none⟩).isSome = true) ∧ DR Fn w (.row default strC xs) v := by
  rcases h.2 with ⟨rfl, h0⟩ | ⟨g, cap, cur, rfl, hg, hw, h1, h2, h3, h4⟩
  · have := List.eq_nil_of_length_eq_zero h0
    subst this
    exact vr_row (A := none) (c := 0) (xs := ([] : List ByteArray)) (f := fun s => [.string s]) (es := 1) base (fun _ => rfl) (fun _ => rfl) (fun x u hu => by simp at hu; subst hu; rfl) (Nat.le_refl _) (fun h => absurd rfl h)
  · refine vr_row (A := some ⟨g, 0, none⟩) (c := cap) (xs := xs) (f := fun s => [.string s]) (es := 1) base (fun _ => rfl) (fun _ => rfl) (fun x u hu => by simp at hu; subst hu; rfl) h1 (fun hne => ⟨g, 0, rfl, hg, fun i x hx j u hu => ?_⟩)
    have hj : j = 0 := by have := (List.getElem?_eq_some_iff.1 hu).1; simpa using this
    subst hj
    simp at hu
    subst hu
    have hi : i < xs.length := (List.getElem?_eq_some_iff.1 hx).1
    have h5 := congrArg (·[i]?) h4
    simp only [List.getElem?_take, Nat.mul_one, hi, if_true, List.getElem?_map, hx, Option.map_some] at h5
    rw [Nat.zero_add, Nat.mul_one, Nat.add_zero, cell_at hw]
    simpa using h5
/-- a field of the document that Set makes -/
def setF (n : Int) (t : ByteArray) (i : Nat) (f : Fl) : Fl := if (i : Int) = n then ⟨f.name, (wordsF t).map fun s => [s]⟩ else f
def setL (d : Dc) (n : Int) (t : ByteArray) (i : Nat) : List Fl := (List.range i).map fun j => setF n t j (d.fields.getD j default)
def setD (d : Dc) (n : Int) (t : ByteArray) : Dc := ⟨d.kind, setL d n t d.fields.length⟩
def inForm (t : ByteArray) : Bool := decide ((wordsF t).length ≤ 8) && (wordsF t).all validS
def setE (d : Dc) (n : Int) (t : ByteArray) : Dc × Int := if checkE d = 0 then if hasB d n = true then if inForm t = true then (setD d n t, 0) else (⟨⟨#[]⟩, []⟩, 2) else (⟨⟨#[]⟩, []⟩, 4) else (⟨⟨#[]⟩, []⟩, checkE d)
theorem any_bad (l : List ByteArray) : (l.any fun x => !validS x) = !(l.all validS) := by
  induction l with
  | nil => rfl
  | cons a l ih => simp [List.any_cons, List.all_cons, ih]
theorem setL_succ (d : Dc) (n : Int) (t : ByteArray) (i : Nat) : setL d n t (i + 1) = setL d n t i ++ [setF n t i (d.fields.getD i default)] := by simp [setL, List.range_succ]
theorem setL_length (d : Dc) (n : Int) (t : ByteArray) (i : Nat) : (setL d n t i).length = i := by simp [setL]
theorem ent_dc0 : Ent (.agg [sG ⟨#[]⟩, .d (.sc (.slice none 0 0))]) (dcG ⟨⟨#[]⟩, []⟩) := Ent.agg ⟨Ent.refl _, Ent.nil, trivial⟩
theorem take_getD {α : Type} [Inhabited α] {l : List α} {k : Nat} (h : k < l.length) : l.take (k + 1) = l.take k ++ [l.getD k default] := by
  rw [List.take_succ_eq_append_getElem h, List.getD_eq_getElem?_getD, List.getElem?_eq_getElem h]; rfl
def wa (n : Int) (i : Nat) (f : Fl) (k : Nat) : List (List ByteArray) := if (i : Int) = n then [] else f.words.take k
def wb (n : Int) (i : Nat) (f : Fl) (ws : List ByteArray) (k : Nat) : List (List ByteArray) := if (i : Int) = n then (ws.take k).map fun s => [s] else f.words
theorem wa_len (n : Int) (i : Nat) (f : Fl) (k : Nat) : (wa n i f k).length ≤ k := by
  unfold wa; split
  · simp
  · simp; omega
theorem wa_succ {n : Int} {i : Nat} {f : Fl} {k : Nat} (h : ¬ (i : Int) = n) (hk : k < f.words.length) : wa n i f (k + 1) = wa n i f k ++ [f.words.getD k default] := by
  unfold wa; rw [if_neg h, if_neg h, take_getD hk]
theorem wa_same {n : Int} {i : Nat} {f : Fl} {k : Nat} (h : (i : Int) = n) : wa n i f (k + 1) = wa n i f k := by
  unfold wa; rw [if_pos h, if_pos h]
theorem wa_0 (n : Int) (i : Nat) (f : Fl) : wa n i f 0 = [] := by unfold wa; split <;> simp
theorem wb_0 (n : Int) (i : Nat) (f : Fl) (ws : List ByteArray) : wb n i f ws 0 = wa n i f f.words.length := by unfold wa wb; split <;> simp
theorem wb_succ {n : Int} {i : Nat} {f : Fl} {ws : List ByteArray} {k : Nat} (h : (i : Int) = n) (hk : k < ws.length) : wb n i f ws (k + 1) = wb n i f ws k ++ [[ws.getD k default]] := by
  unfold wb; rw [if_pos h, if_pos h, take_getD hk]; simp
theorem wb_same {n : Int} {i : Nat} {f : Fl} {ws : List ByteArray} {k : Nat} (h : ¬ (i : Int) = n) : wb n i f ws (k + 1) = wb n i f ws k := by
  unfold wb; rw [if_neg h, if_neg h]
theorem wb_len (n : Int) (i : Nat) (f : Fl) (ws : List ByteArray) (k : Nat) : (wb n i f ws k).length ≤ k + f.words.length := by
  unfold wb; split
  · simp; omega
  · omega
theorem wb_end (n : Int) (i : Nat) (f : Fl) (t : ByteArray) : setF n t i f = ⟨f.name, wb n i f (wordsF t) (wordsF t).length⟩ := by
  unfold wb setF
  split
  · rw [List.take_length]
  · rfl

end Go.Gh
