/- quoted: plain part. -/
import Derived.Test.YtmkeajeohkdieaaDoorLxI
namespace Go.Proofs.YtmkeajeohkdieaaDoor
open Go.RowKit Lx
set_option linter.unusedSimpArgs false
set_option linter.unusedVariables false

/-- the value of the quoted string at the beginning of a text, and its length; or nothing and 0 -/
def quoV (l : List UInt8) : List UInt8 := match unq (l.drop 1) with | some (v, _) => if v.length ≤ 400 then v else [] | none => []
def quoN (l : List UInt8) : Nat := match unq (l.drop 1) with | some (v, n) => if v.length ≤ 400 then n + 1 else 0 | none => 0

/-- n bytes are read, the value so far is v -/
def QuoAt (l : List UInt8) (n : Nat) (v : List UInt8) : Prop := 1 ≤ n ∧ v.length ≤ n ∧ unq (l.drop 1) = (unq (l.drop n)).map (fun p => (v ++ p.1, n - 1 + p.2))
theorem quo_start (l : List UInt8) : QuoAt l 1 [] := by
  refine ⟨by omega, by simp, ?_⟩
  cases unq (l.drop 1) with
  | none => rfl
  | some p => simp
theorem quo_none {l : List UInt8} {n : Nat} {v : List UInt8} (h : QuoAt l n v) (h0 : unq (l.drop n) = none) : quoV l = [] ∧ quoN l = 0 := by
  unfold quoV quoN
  rw [h.2.2, h0]; exact ⟨by simp, by simp⟩
theorem quo_end {l : List UInt8} {n : Nat} {v : List UInt8} (h : QuoAt l n v) (h0 : l[n]? = some 34) :
    quoV l = (if v.length ≤ 400 then v else []) ∧ quoN l = (if v.length ≤ 400 then n + 1 else 0) := by
  have h1 := h.1
  unfold quoV quoN
  rw [h.2.2, drop_at h0, unq_end]
  simp only [Option.map_some, List.append_nil]
  rw [show n - 1 + 1 + 1 = n + 1 by omega]
  exact ⟨trivial, rfl⟩
theorem quo_plain {l : List UInt8} {n : Nat} {v : List UInt8} {c : UInt8} (h : QuoAt l n v) (h0 : l[n]? = some c) (h1 : c ≠ 34) (h2 : c ≠ 92) (hp : plain c = true) : QuoAt l (n + 1) (v ++ [c]) := by
  refine ⟨by omega, by have := h.2.1; simp; omega, ?_⟩
  have hn := h.1
  rw [h.2.2, drop_at h0]
  conv => lhs; unfold unq
  rw [if_neg (by simp [h1]), if_neg (by simp [h2]), if_pos hp]
  cases unq (l.drop (n + 1)) with
  | none => rfl
  | some p => simp; omega
theorem quo_esc {l : List UInt8} {n : Nat} {v : List UInt8} {d : UInt8} (h : QuoAt l n v) (h0 : l[n]? = some 92) (h1 : l[n + 1]? = some d) (hd : d = 34 ∨ d = 92) : QuoAt l (n + 2) (v ++ [d]) := by
  refine ⟨by omega, by have := h.2.1; simp; omega, ?_⟩
  have hn := h.1
  rw [h.2.2, drop_at h0, drop_at h1]
  conv => lhs; unfold unq
  rw [if_neg (by decide), if_pos (by decide)]
  simp only
  rw [if_pos (by rcases hd with rfl | rfl <;> rfl)]
  cases unq (l.drop (n + 1 + 1)) with
  | none => rfl
  | some p => simp; omega
theorem unq_bad {l : List UInt8} {n : Nat} (h : l[n]? = none ∨ ∃ c, l[n]? = some c ∧ plain c = false) : unq (l.drop n) = none := by
  rcases h with h | ⟨c, h, hp⟩
  · rw [List.getElem?_eq_none_iff] at h
    rw [List.drop_eq_nil_iff.2 h]; rfl
  · rw [drop_at h]
    unfold unq
    rw [if_neg (by intro e; simp at e; subst e; revert hp; decide), if_neg (by intro e; simp at e; subst e; revert hp; decide), if_neg (by simp [hp])]
theorem unq_bad_esc {l : List UInt8} {n : Nat} (h0 : l[n]? = some 92) (h : l[n + 1]? = none ∨ ∃ d, l[n + 1]? = some d ∧ d ≠ 34 ∧ d ≠ 92) : unq (l.drop n) = none := by
  rw [drop_at h0]
  unfold unq
  rw [if_neg (by decide), if_pos (by decide)]
  rcases h with h | ⟨d, h, h1, h2⟩
  · rw [List.getElem?_eq_none_iff] at h
    rw [List.drop_eq_nil_iff.2 h]
  · rw [drop_at h]
    simp only
    rw [if_neg (by simp [h1, h2])]

end Go.Proofs.YtmkeajeohkdieaaDoor
