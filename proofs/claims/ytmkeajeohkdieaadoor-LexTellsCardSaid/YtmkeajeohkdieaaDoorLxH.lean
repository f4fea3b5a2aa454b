/- gap: blanks and comments. -/
import Derived.Test.YtmkeajeohkdieaaDoorLxG
namespace Go.Proofs.YtmkeajeohkdieaaDoor
open Go.RowKit Lx
set_option linter.unusedSimpArgs false
set_option linter.unusedVariables false

theorem scan_over_blanks : ∀ (l : List UInt8) (p : Nat), scan false l p = scan false (l.drop (l.takeWhile Lx.blank).length) (p + (l.takeWhile Lx.blank).length) := by
  intro l
  induction l with
  | nil => intro p; rfl
  | cons c l ih =>
    intro p
    cases hb : Lx.blank c with
    | true =>
      rw [List.takeWhile_cons, if_pos hb, scan_skip (by simp [hb]), List.length_cons, List.drop_succ_cons]
      have e : (false && c != 10) = false := rfl
      rw [e, ih (p + 1)]
      congr 1; omega
    | false => rw [List.takeWhile_cons, if_neg (by simp [hb])]; rfl
theorem scan_open_hash (r : List UInt8) (p : Nat) : scan false (35 :: r) p = scan true (35 :: r) p := by
  rw [scan_hash (by decide) rfl, scan_skip (by decide)]; rfl
theorem scan_open_line (r : List UInt8) (p : Nat) : scan true (10 :: r) p = scan false (10 :: r) p := by
  rw [scan_skip (by decide), scan_skip (by decide)]; rfl
theorem scan_open_step {c : UInt8} (r : List UInt8) (p : Nat) (h : c ≠ 10) : scan true (c :: r) p = scan true r (p + 1) := by
  have e : (true && c != 10) = true := by simp [h]
  rw [scan_skip (by simp [h]), e]

/-- g bytes of blanks and comments, and no more -/
def GapOf (l : List UInt8) (g : Nat) : Prop :=
  g ≤ l.length ∧ (∀ p, scan false l p = scan false (l.drop g) (p + g)) ∧ ∀ c, l[g]? = some c → Lx.blank c = false ∧ c ≠ 35
/-- on the way, outside of a comment, and within -/
def GapOut (l : List UInt8) (n : Nat) : Prop := n ≤ l.length ∧ (∀ p, scan false l p = scan false (l.drop n) (p + n)) ∧ ∀ c, l[n]? = some c → Lx.blank c = false
def GapIn (l : List UInt8) (n : Nat) : Prop := n ≤ l.length ∧ ∀ p, scan false l p = scan true (l.drop n) (p + n)

theorem drop_at {l : List UInt8} {n : Nat} {c : UInt8} (h : l[n]? = some c) : l.drop n = c :: l.drop (n + 1) := by
  obtain ⟨hl, rfl⟩ := List.getElem?_eq_some_iff.1 h
  exact List.drop_eq_getElem_cons hl
theorem after_span {p : UInt8 → Bool} (l : List UInt8) : ∀ c, l[(l.takeWhile p).length]? = some c → p c = false := by
  induction l with
  | nil => intro c h; simp at h
  | cons a l ih =>
    intro c h
    rw [List.takeWhile_cons] at h
    split at h
    · simp at h; exact ih c h
    · rename_i ha; simp at h; subst h; simpa using ha
theorem gap_start (l : List UInt8) : GapOut l (l.takeWhile Lx.blank).length := ⟨takeWhile_length_le _ _, scan_over_blanks l, after_span l⟩
theorem gap_end {l : List UInt8} {n : Nat} (h : GapOut l n) (hc : ∀ c, l[n]? = some c → c ≠ 35) : GapOf l n := ⟨h.1, h.2.1, fun c e => ⟨h.2.2 c e, hc c e⟩⟩
theorem gap_enter {l : List UInt8} {n : Nat} (h : GapOut l n) (hc : l[n]? = some 35) : GapIn l n := by
  refine ⟨h.1, fun p => ?_⟩
  rw [h.2.1 p, drop_at hc, scan_open_hash]
theorem gap_more {l : List UInt8} {n : Nat} {c : UInt8} (h : GapIn l n) (hc : l[n]? = some c) (h10 : c ≠ 10) : GapIn l (n + 1) := by
  refine ⟨by have := (List.getElem?_eq_some_iff.1 hc).1; omega, fun p => ?_⟩
  rw [h.2 p, drop_at hc, scan_open_step _ _ h10]
  congr 1
theorem gap_leave {l : List UInt8} {n : Nat} (h : GapIn l n) (hc : l[n]? = none ∨ l[n]? = some 10) : GapOut l (n + ((l.drop n).takeWhile Lx.blank).length) := by
  have hle := takeWhile_length_le Lx.blank (l.drop n)
  rw [List.length_drop] at hle
  have h1 := h.1
  refine ⟨by omega, fun p => ?_, fun c e => after_span (p := Lx.blank) (l.drop n) c (by rw [List.getElem?_drop]; exact e)⟩
  have e1 : scan true (l.drop n) (p + n) = scan false (l.drop n) (p + n) := by
    rcases hc with hc | hc
    · rw [List.getElem?_eq_none_iff] at hc
      rw [List.drop_eq_nil_iff.2 hc]; rfl
    · rw [drop_at hc, scan_open_line]
  rw [h.2 p, e1, scan_over_blanks, List.drop_drop]
  congr 1
  omega

end Go.Proofs.YtmkeajeohkdieaaDoor
