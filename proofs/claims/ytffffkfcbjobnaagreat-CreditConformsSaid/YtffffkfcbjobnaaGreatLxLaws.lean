/- The plain laws of tokens. -/
import Derived.Test.YtffffkfcbjobnaaGreatLxDef
namespace Go.Proofs.YtffffkfcbjobnaaGreat.Lx

theorem takeWhile_stop {α : Type} {p : α → Bool} {b : α} (h : p b = false) (l r : List α) : (l ++ b :: r).takeWhile p = l.takeWhile p := by
  induction l with
  | nil => simp [h]
  | cons a l ih =>
    rw [List.cons_append, List.takeWhile_cons, List.takeWhile_cons]
    split
    · rw [ih]
    · rfl
theorem takeWhile_take {α : Type} {p : α → Bool} : ∀ (l : List α) (m : Nat), (l.takeWhile p).length ≤ m → (l.take m).takeWhile p = l.takeWhile p := by
  intro l
  induction l with
  | nil => intro m _; simp
  | cons a l ih =>
    intro m h
    rw [List.takeWhile_cons] at h ⊢
    split at h
    · rename_i ha
      match m, h with
      | 0, h => simp at h
      | m + 1, h =>
        simp at h
        rw [List.take_succ_cons, List.takeWhile_cons, if_pos ha, if_pos ha, ih m h]
    · rename_i ha
      rw [if_neg ha]
      match m with
      | 0 => simp
      | m + 1 => rw [List.take_succ_cons, List.takeWhile_cons, if_neg ha]

theorem unq_ten (y : List UInt8) : unq (10 :: y) = none := by
  unfold unq
  rw [if_neg (by decide), if_neg (by decide), if_neg (by decide)]
theorem unq_more (y : List UInt8) : ∀ (k : Nat) (l : List UInt8), l.length ≤ k → unq (l ++ 10 :: y) = unq l := by
  intro k
  induction k with
  | zero =>
    intro l hl
    have : l = [] := List.eq_nil_of_length_eq_zero (by omega)
    subst this
    exact unq_ten y
  | succ k ih =>
    intro l hl
    match l, hl with
    | [], _ => exact unq_ten y
    | c :: r, hl =>
      simp at hl
      rw [List.cons_append]
      unfold unq
      split
      · rfl
      · split
        · match r, hl with
          | [], _ => simp
          | d :: r', hl =>
            simp at hl
            simp only [List.cons_append]
            split
            · rw [ih r' (by omega)]
            · rfl
        · rw [ih r (by omega)]

theorem next_more (c : UInt8) (r y : List UInt8) : next c (r ++ 10 :: y) = next c r := by
  unfold next
  rw [← List.cons_append, takeWhile_stop (by decide), takeWhile_stop (by decide), unq_more y _ r (Nat.le_refl _)]

theorem unq_take : ∀ (k : Nat) (l : List UInt8), l.length ≤ k → ∀ v n, unq l = some (v, n) → ∀ m, n ≤ m → unq (l.take m) = some (v, n) := by
  intro k
  induction k with
  | zero =>
    intro l hl v n h
    have : l = [] := List.eq_nil_of_length_eq_zero (by omega)
    subst this; simp [unq] at h
  | succ k ih =>
    intro l hl v n h m hm
    have hn := (unq_len _ l (Nat.le_refl _) v n h).1
    match l, hl, m, hm with
    | [], _, _, _ => simp [unq] at h
    | _ :: _, _, 0, hm => omega
    | c :: r, hl, m + 1, hm =>
      simp at hl
      rw [List.take_succ_cons]
      unfold unq at h ⊢
      split at h
      · rename_i hc; rw [if_pos hc]; exact h
      · rename_i hc
        rw [if_neg hc]
        split at h
        · rename_i hb
          rw [if_pos hb]
          match r, h, hl with
          | [], h, _ => simp at h
          | d :: r', h, hl =>
            simp at hl
            simp only at h
            split at h
            · rename_i hd
              cases hu : unq r' with
              | none => rw [hu] at h; simp at h
              | some q =>
                obtain ⟨v', n'⟩ := q
                rw [hu] at h
                simp at h
                obtain ⟨rfl, rfl⟩ := h
                match m, hm with
                | 0, hm => omega
                | m + 1, hm =>
                  rw [List.take_succ_cons]
                  simp only
                  rw [if_pos hd, ih r' (by omega) v' n' hu m (by omega)]
                  rfl
            · simp at h
        · rename_i hb
          rw [if_neg hb]
          split at h
          · rename_i hp
            rw [if_pos hp]
            cases hu : unq r with
            | none => rw [hu] at h; simp at h
            | some q =>
              obtain ⟨v', n'⟩ := q
              rw [hu] at h
              simp at h
              obtain ⟨rfl, rfl⟩ := h
              rw [ih r (by omega) v' n' hu m (by omega)]
              rfl
          · simp at h

theorem next_take {c : UInt8} {r : List UInt8} (h : (next c r).1 = 0) {m : Nat} (hm : (next c r).2.2 ≤ m + 1) : next c (r.take m) = next c r := by
  unfold next at *
  split
  · rename_i hl
    rw [if_pos hl] at h hm
    simp only at h hm ⊢
    split at h
    · rename_i h20
      rw [if_pos h20] at hm
      have e : (c :: r.take m).takeWhile inner = (c :: r).takeWhile inner := by
        rw [← List.take_succ_cons]; exact takeWhile_take _ _ hm
      rw [e]
    · simp at h
  · rename_i hl
    rw [if_neg hl] at h hm
    split
    · rename_i hd
      rw [if_pos hd] at h hm
      simp only at h hm ⊢
      split at h
      · rename_i h20
        rw [if_pos h20] at hm
        have e : (c :: r.take m).takeWhile digit = (c :: r).takeWhile digit := by
          rw [← List.take_succ_cons]; exact takeWhile_take _ _ hm
        rw [e]
      · simp at h
    · rename_i hd
      rw [if_neg hd] at h hm
      split
      · rename_i hq
        rw [if_pos hq] at h hm
        cases hu : unq r with
        | none => rw [hu] at h; simp at h
        | some q =>
          obtain ⟨v, n⟩ := q
          rw [hu] at h hm
          simp only at h hm
          split at h
          · rename_i h4
            rw [if_pos h4] at hm
            simp only at hm
            rw [unq_take _ r (Nat.le_refl _) v n hu m (by omega)]
          · simp at h
      · rfl

/-- all positions, greater by k -/
def Tok.up (k : Nat) (t : Tok) : Tok := ⟨t.kind, t.text, t.n, t.pos + k⟩
def shiftR (k : Nat) (R : Res) : Res := ⟨R.toks.map (Tok.up k), if R.err = 0 then R.at_ else R.at_ + k, R.err⟩
theorem shift_pre (k : Nat) (a : List Tok) (R : Res) : shiftR k (pre a R) = pre (a.map (Tok.up k)) (shiftR k R) := by
  unfold shiftR pre
  by_cases h : R.err = 0
  · simp [h]
  · simp [h]
theorem scan_shift (k : Nat) : ∀ cm l p, scan cm l (p + k) = shiftR k (scan cm l p) := by
  apply scan_induct
  · intro cm p; rfl
  · intro cm c r p h ih
    rw [scan_skip h, scan_skip h, ← ih]; congr 1; omega
  · intro cm c r p h hc ih
    rw [scan_hash h hc, scan_hash h hc, ← ih]; congr 1; omega
  · intro cm c r p h hc hx ih
    rw [scan_tok h hc hx, scan_tok h hc hx, shift_pre, ← ih]
    congr 2; omega
  · intro cm c r p h hc hx
    rw [scan_err h hc hx, scan_err h hc hx]
    simp [shiftR, hx]

/-- two texts with a line feed between them -/
theorem scan_join (y : List UInt8) : ∀ cm x p, scan cm (x ++ 10 :: y) p = if (scan cm x p).err = 0 then pre (scan cm x p).toks (scan false y (p + x.length + 1)) else scan cm x p := by
  apply scan_induct
  · intro cm p
    rw [List.nil_append, scan_skip (by simp [blank])]
    simp [scan_nil, done, pre_nil]
  · intro cm c r p h ih
    rw [List.cons_append, scan_skip h, scan_skip h, ih]
    simp only [List.length_cons]
    rw [show p + 1 + r.length + 1 = p + (r.length + 1) + 1 by omega]
  · intro cm c r p h hc ih
    rw [List.cons_append, scan_hash h hc, scan_hash h hc, ih]
    simp only [List.length_cons]
    rw [show p + 1 + r.length + 1 = p + (r.length + 1) + 1 by omega]
  · intro cm c r p h hc hx ih
    have hn := next_more c r y
    have hl := next_len hx
    rw [List.cons_append, scan_tok h hc (by rw [hn]; exact hx), scan_tok h hc hx, hn, ← List.cons_append, List.drop_append_of_le_length (by simp; omega), ih]
    by_cases h0 : (scan false ((c :: r).drop (next c r).2.2) (p + (next c r).2.2)).err = 0
    · rw [if_pos h0, pre_pre]
      have e : (pre [(next c r).2.1.place p] (scan false ((c :: r).drop (next c r).2.2) (p + (next c r).2.2))).err = 0 := by simp [pre, h0]
      have e2 : (pre [(next c r).2.1.place p] (scan false ((c :: r).drop (next c r).2.2) (p + (next c r).2.2))).toks = [(next c r).2.1.place p] ++ (scan false ((c :: r).drop (next c r).2.2) (p + (next c r).2.2)).toks := by simp [pre, h0]
      rw [if_pos e, e2]
      congr 2
      simp only [List.length_drop, List.length_cons]
      omega
    · rw [if_neg h0]
      have e : (pre [(next c r).2.1.place p] (scan false ((c :: r).drop (next c r).2.2) (p + (next c r).2.2))).err ≠ 0 := by simp [pre, h0]
      rw [if_neg e]
  · intro cm c r p h hc hx
    have hn := next_more c r y
    rw [List.cons_append, scan_err h hc (by rw [hn]; exact hx), scan_err h hc hx, hn, if_neg hx]

theorem next_kinds (c : UInt8) (r : List UInt8) : (next c r).1 = 0 ∨ (next c r).1 = 3 ∨ (next c r).1 = 20 ∨ (next c r).1 = 21 := by
  unfold next
  split
  · simp only; split <;> simp
  · split
    · simp only; split <;> simp
    · split
      · split
        · split <;> simp
        · simp
      · split <;> simp

/-- an error: what precedes it has tokens; what begins there has the same error -/
theorem scan_fails : ∀ cm l p, (scan cm l p).err ≠ 0 → ∃ d, d < l.length ∧ (scan cm l p).at_ = p + d ∧ (scan cm l p).toks = [] ∧
    (scan cm (l.take d) p).err = 0 ∧ (∀ q, scan false (l.drop d) q = ⟨[], q, (scan cm l p).err⟩) ∧
    ((scan cm l p).err = 3 ∨ (scan cm l p).err = 20 ∨ (scan cm l p).err = 21) := by
  apply scan_induct
  · intro cm p h; exact absurd rfl h
  · intro cm c r p h ih he
    rw [scan_skip h] at he ⊢
    obtain ⟨d, h1, h2, h3, h4, h5, h6⟩ := ih he
    exact ⟨d + 1, by simp; omega, by rw [h2]; omega, h3, by rw [List.take_succ_cons, scan_skip h]; exact h4, by simpa using h5, h6⟩
  · intro cm c r p h hc ih he
    rw [scan_hash h hc] at he ⊢
    obtain ⟨d, h1, h2, h3, h4, h5, h6⟩ := ih he
    exact ⟨d + 1, by simp; omega, by rw [h2]; omega, h3, by rw [List.take_succ_cons, scan_hash h hc]; exact h4, by simpa using h5, h6⟩
  · intro cm c r p h hc hx ih he
    have hl := next_len hx
    have hs := scan_tok (p := p) h hc hx
    generalize hR : scan false ((c :: r).drop (next c r).2.2) (p + (next c r).2.2) = R at *
    have he' : R.err ≠ 0 := by
      intro h0; apply he; rw [hs]; simp [pre, h0]
    have hpre : pre [(next c r).2.1.place p] R = R := by unfold pre; rw [if_neg he']
    rw [hpre] at hs
    obtain ⟨d, h1, h2, h3, h4, h5, h6⟩ := ih he'
    simp only [List.length_drop, List.length_cons] at h1
    rw [hs]
    refine ⟨(next c r).2.2 + d, by simp; omega, by rw [h2]; omega, h3, ?_, ?_, h6⟩
    · obtain ⟨m, hm⟩ : ∃ m, (next c r).2.2 + d = m + 1 := ⟨(next c r).2.2 + d - 1, by omega⟩
      rw [hm, List.take_succ_cons]
      have hn := next_take hx (m := m) (by omega)
      rw [scan_tok h hc (by rw [hn]; exact hx), hn]
      have e : (c :: r.take m).drop (next c r).2.2 = ((c :: r).drop (next c r).2.2).take d := by
        rw [← List.take_succ_cons, ← hm, List.drop_take]; congr 1; omega
      rw [e]
      simp [pre, h4]
    · intro q
      rw [← List.drop_drop]; exact h5 q
  · intro cm c r p h hc hx _
    rw [scan_err h hc hx]
    refine ⟨0, by simp, rfl, rfl, rfl, ?_, ?_⟩
    · intro q
      have hb : ((false && c != 10) || blank c) = false := by simp at h ⊢; exact h.2
      exact scan_err hb hc hx
    · rcases next_kinds c r with h0 | h0
      · exact absurd h0 hx
      · exact h0

theorem scan_ok_at : ∀ cm l p, (scan cm l p).err = 0 → (scan cm l p).at_ = 0 := by
  apply scan_induct
  · intro cm p _; rfl
  · intro cm c r p h ih he; rw [scan_skip h] at he ⊢; exact ih he
  · intro cm c r p h hc ih he; rw [scan_hash h hc] at he ⊢; exact ih he
  · intro cm c r p h hc hx ih he
    rw [scan_tok h hc hx] at he ⊢
    unfold pre at he ⊢
    split at he
    · rename_i h0; rw [if_pos h0]; exact ih h0
    · rename_i h0; exact absurd he h0
  · intro cm c r p h hc hx he
    rw [scan_err h hc hx] at he; exact absurd he hx

theorem scan_blanks (n : Nat) (p : Nat) : scan false (List.replicate n 32) p = done := by
  induction n generalizing p with
  | zero => rfl
  | succ n ih => rw [List.replicate_succ, scan_skip (by decide)]; exact ih _

end Go.Proofs.YtffffkfcbjobnaaGreat.Lx
