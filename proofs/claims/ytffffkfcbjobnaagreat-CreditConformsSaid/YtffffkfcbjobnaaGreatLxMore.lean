/- More plain laws of tokens: where they stand; what is printed is read again; quoted strings, names, numbers. -/
import Derived.Test.YtffffkfcbjobnaaGreatLxLaws
namespace Go.Proofs.YtffffkfcbjobnaaGreat.Lx

/-- the source text of a token -/
def src (t : Tok) : List UInt8 := if t.kind = 2 then quote t.text else t.text

/-- only blanks and comments, a comment being open at the beginning or not -/
def idle : Bool → List UInt8 → Bool
  | _, [] => true
  | cm, c :: r => ((c == 35 || (cm && c != 10)) || blank c) && idle (c == 35 || (cm && c != 10)) r

/-- the tokens stand in the text one behind another, and nothing but blanks and comments between -/
def Good : Bool → List UInt8 → Nat → List Tok → Prop
  | cm, l, _, [] => idle cm l = true
  | cm, l, p, t :: ts => ∃ g rest, t.pos = p + g ∧ idle cm (l.take g) = true ∧ g ≤ l.length ∧ l.drop g = src t ++ rest ∧ src t ≠ [] ∧ (t.kind ≠ 1 → t.n = 0) ∧ Good false rest (p + g + (src t).length) ts

theorem Good.more {c : UInt8} {cm cm' : Bool} {r : List UInt8} {p : Nat} {ts : List Tok} (hc : cm' = (c == 35 || (cm && c != 10))) (hi : (cm' || blank c) = true) (h : Good cm' r (p + 1) ts) : Good cm (c :: r) p ts := by
  subst hc
  cases ts with
  | nil =>
    show idle cm (c :: r) = true
    unfold idle
    rw [hi, Bool.true_and]; exact h
  | cons t ts =>
    obtain ⟨g, rest, h1, h2, h3, h4, h5, h6, h7⟩ := h
    refine ⟨g + 1, rest, by omega, ?_, by simp; omega, by simpa using h4, h5, h6, ?_⟩
    · rw [List.take_succ_cons]
      unfold idle
      rw [hi]; simpa using h2
    · rw [show p + (g + 1) + (src t).length = p + 1 + g + (src t).length by omega]; exact h7

theorem esc_yes {c : UInt8} {r : List UInt8} (h : (c == 34 || c == 92) = true) : esc (c :: r) = 92 :: c :: esc r := by
  rw [esc, if_pos h]
theorem esc_no {c : UInt8} {r : List UInt8} (h : (c == 34 || c == 92) = false) : esc (c :: r) = c :: esc r := by
  rw [esc, if_neg (by simp [h])]
theorem unq_end (r : List UInt8) : unq (34 :: r) = some ([], 1) := by
  unfold unq
  rw [if_pos (by decide)]

/-- what is between the quotes, from the value -/
theorem unq_esc : ∀ (k : Nat) (l : List UInt8), l.length ≤ k → ∀ v n, unq l = some (v, n) → l.take n = esc v ++ [34] ∧ v.all plain = true := by
  intro k
  induction k with
  | zero =>
    intro l hl v n h
    have : l = [] := List.eq_nil_of_length_eq_zero (by omega)
    subst this; simp [unq] at h
  | succ k ih =>
    intro l hl v n h
    match l, hl with
    | [], _ => simp [unq] at h
    | c :: r, hl =>
      simp at hl
      unfold unq at h
      split at h
      · rename_i hc
        simp at h; obtain ⟨rfl, rfl⟩ := h
        simp at hc; subst hc
        simp [esc]
      · rename_i hc
        split at h
        · rename_i hb
          match r, h, hl with
          | [], h, _ => simp at h
          | d :: r', h, hl =>
            simp at hl
            simp only at h
            split at h
            · rename_i hd
              cases hu : unq r' with
              | none => rw [hu] at h; simp at h
              | some q =>
                obtain ⟨v', n'⟩ := q
                rw [hu] at h
                simp at h
                obtain ⟨rfl, rfl⟩ := h
                obtain ⟨e1, e2⟩ := ih r' (by omega) v' n' hu
                simp at hb; subst hb
                refine ⟨?_, ?_⟩
                · rw [List.take_succ_cons, List.take_succ_cons, e1, esc_yes hd]; rfl
                · rw [List.all_cons, e2]
                  simp at hd
                  rcases hd with rfl | rfl <;> decide
            · simp at h
        · rename_i hb
          split at h
          · rename_i hp
            cases hu : unq r with
            | none => rw [hu] at h; simp at h
            | some q =>
              obtain ⟨v', n'⟩ := q
              rw [hu] at h
              simp at h
              obtain ⟨rfl, rfl⟩ := h
              obtain ⟨e1, e2⟩ := ih r (by omega) v' n' hu
              refine ⟨?_, by rw [List.all_cons, hp, e2]; rfl⟩
              rw [List.take_succ_cons, e1, esc_no (by simp at hc hb ⊢; exact ⟨hc, hb⟩)]; rfl
          · simp at h

/-- .. and back -/
theorem unq_of : ∀ (v : List UInt8), v.all plain = true → ∀ rest, unq (esc v ++ 34 :: rest) = some (v, (esc v).length + 1) := by
  intro v
  induction v with
  | nil => intro _ rest; exact unq_end rest
  | cons c v ih =>
    intro h rest
    rw [List.all_cons, Bool.and_eq_true] at h
    obtain ⟨hp, hv⟩ := h
    cases hc : (c == 34 || c == 92) with
    | true =>
      rw [esc_yes hc, List.cons_append, List.cons_append]
      unfold unq
      rw [if_neg (by decide), if_pos (by decide)]
      simp only
      rw [if_pos hc, ih hv]
      simp
    | false =>
      rw [esc_no hc]
      simp at hc
      rw [List.cons_append]
      unfold unq
      rw [if_neg (by simp [hc.1]), if_neg (by simp [hc.2]), if_pos hp, ih hv]
      simp

/-- what a token may be -/
def validTok (t : Tok) : Prop :=
  (t.kind = 0 ∧ nameOk t.text = true ∧ t.n = 0) ∨ (t.kind = 1 ∧ numOk t.text = true ∧ t.n = val t.text) ∨
  (t.kind = 2 ∧ valueOk t.text = true ∧ t.n = 0) ∨ (t.kind = 3 ∧ (∃ c, sign c = true ∧ t.text = [c]) ∧ t.n = 0)

theorem takeWhile_all {α : Type} (p : α → Bool) (l : List α) : (l.takeWhile p).all p = true := by
  induction l with
  | nil => rfl
  | cons a l ih =>
    rw [List.takeWhile_cons]
    split
    · rename_i h; rw [List.all_cons, h, ih]; rfl
    · rfl
theorem takeWhile_append_drop {α : Type} (p : α → Bool) (l : List α) : l = l.takeWhile p ++ l.drop (l.takeWhile p).length := by
  induction l with
  | nil => rfl
  | cons a l ih =>
    rw [List.takeWhile_cons]
    split
    · simp only [List.length_cons, List.drop_succ_cons, List.cons_append]; rw [← ih]
    · simp

theorem letter_not_digit {c : UInt8} (h : letter c = true) : digit c = false := by
  unfold letter digit at *
  simp at *
  omega

/-- the token at the beginning: it is valid, and stands there -/
theorem next_is {c : UInt8} {r : List UInt8} (h : (next c r).1 = 0) : validTok (next c r).2.1 ∧ c :: r = src (next c r).2.1 ++ (c :: r).drop (next c r).2.2 ∧ (src (next c r).2.1).length = (next c r).2.2 := by
  unfold next at *
  split
  · rename_i hl
    rw [if_pos hl] at h
    simp only at h ⊢
    split
    · rename_i h20
      refine ⟨.inl ⟨rfl, ?_, rfl⟩, ?_, rfl⟩
      · have e : (c :: r).takeWhile inner = c :: r.takeWhile inner := by rw [List.takeWhile_cons, if_pos (letter_inner hl)]
        have ha := takeWhile_all inner (c :: r)
        rw [e] at h20 ha ⊢
        show (letter c && (c :: r.takeWhile inner).all inner && decide ((c :: r.takeWhile inner).length ≤ 20)) = true
        rw [hl, ha, decide_eq_true h20]; rfl
      · simp only [src]
        rw [if_neg (by decide)]
        exact takeWhile_append_drop inner (c :: r)
    · rename_i h20; rw [if_neg h20] at h; simp at h
  · rename_i hl
    rw [if_neg hl] at h
    split
    · rename_i hd
      rw [if_pos hd] at h
      simp only at h ⊢
      split
      · rename_i h20
        refine ⟨.inr (.inl ⟨rfl, h20, rfl⟩), ?_, rfl⟩
        simp only [src]
        rw [if_neg (by decide)]
        exact takeWhile_append_drop digit (c :: r)
      · rename_i h20; rw [if_neg h20] at h; simp at h
    · rename_i hd
      rw [if_neg hd] at h
      split
      · rename_i hq
        rw [if_pos hq] at h
        cases hu : unq r with
        | none => rw [hu] at h; simp at h
        | some q =>
          obtain ⟨v, n⟩ := q
          rw [hu] at h
          simp only at h ⊢
          split
          · rename_i h4
            obtain ⟨e1, e2⟩ := unq_esc _ r (Nat.le_refl _) v n hu
            have hln := (unq_len _ r (Nat.le_refl _) v n hu).2.1
            simp at hq; subst hq
            refine ⟨.inr (.inr (.inl ⟨rfl, by unfold valueOk; simp [e2, h4], rfl⟩)), ?_, ?_⟩
            · simp only [src]
              rw [if_pos trivial]
              unfold quote
              rw [← e1, List.drop_succ_cons, List.cons_append, List.take_append_drop]
            · simp only [src]
              rw [if_pos trivial]
              unfold quote
              rw [← e1]; simp; omega
          · rename_i h4; rw [if_neg h4] at h; simp at h
      · rename_i hq
        rw [if_neg hq] at h
        split
        · rename_i hs
          refine ⟨.inr (.inr (.inr ⟨rfl, ⟨c, hs, rfl⟩, rfl⟩)), ?_, rfl⟩
          simp [src]
        · rename_i hs; rw [if_neg hs] at h; simp at h

theorem place_src (t : Tok) (p : Nat) : src (t.place p) = src t := rfl
theorem place_valid {t : Tok} (p : Nat) (h : validTok t) : validTok (t.place p) := h

theorem src_ne {t : Tok} (h : validTok t) : src t ≠ [] := by
  unfold src
  rcases h with ⟨k, h, _⟩ | ⟨k, h, _⟩ | ⟨k, _⟩ | ⟨k, ⟨c, _, e⟩, _⟩
  · rw [if_neg (by omega)]; intro e; rw [e] at h; simp [nameOk] at h
  · rw [if_neg (by omega)]; intro e; rw [e] at h; simp [numOk] at h
  · rw [if_pos k]; simp [quote]
  · rw [if_neg (by omega), e]; simp

/-- where the tokens of a text stand -/
theorem scan_good : ∀ cm l p, (scan cm l p).err = 0 → Good cm l p (scan cm l p).toks ∧ ∀ t ∈ (scan cm l p).toks, validTok t := by
  apply scan_induct
  · intro cm p _; exact ⟨rfl, fun t h => by simp [scan_nil, done] at h⟩
  · intro cm c r p h ih he
    rw [scan_skip h] at he ⊢
    obtain ⟨h1, h2⟩ := ih he
    refine ⟨?_, h2⟩
    by_cases h35 : c = 35
    · subst h35
      have hcm : cm = true := by simpa [blank] using h
      subst hcm
      exact Good.more (cm' := true) (by simp) (by simp) h1
    · refine Good.more (cm' := cm && c != 10) (by simp [h35]) h h1
  · intro cm c r p h hc ih he
    rw [scan_hash h hc] at he ⊢
    obtain ⟨h1, h2⟩ := ih he
    exact ⟨Good.more (cm' := true) (by simp [hc]) (by simp) h1, h2⟩
  · intro cm c r p h hc hx ih he
    have hs := scan_tok (p := p) h hc hx
    rw [hs] at he ⊢
    unfold pre at he ⊢
    split at he
    · rename_i h0
      rw [if_pos h0]
      obtain ⟨h1, h2⟩ := ih h0
      obtain ⟨g1, g2, g3⟩ := next_is hx
      refine ⟨⟨0, (c :: r).drop (next c r).2.2, rfl, rfl, by simp, g2, src_ne g1, ?_, ?_⟩, ?_⟩
      · intro hk
        rcases g1 with ⟨_, _, hn⟩ | ⟨k, _⟩ | ⟨_, _, hn⟩ | ⟨_, _, hn⟩
        · exact hn
        · exact absurd k hk
        · exact hn
        · exact hn
      · rw [place_src, g3]; exact h1
      · intro t ht
        rw [List.mem_append, List.mem_singleton] at ht
        rcases ht with rfl | ht
        · exact g1
        · exact h2 t ht
    · rename_i h0; exact absurd he h0
  · intro cm c r p h hc hx he
    rw [scan_err h hc hx] at he; exact absurd he hx

/-! ### what is printed -/

def printL : List Tok → List UInt8
  | [] => []
  | [t] => src t
  | t :: u :: ts => src t ++ 32 :: printL (u :: ts)

/-- a valid token's text, followed by nothing or by a blank, is that token -/
theorem next_of {t : Tok} (h : validTok t) (rest : List UInt8) (hr : rest = [] ∨ ∃ y, rest = 32 :: y) :
    ∃ c r, src t ++ rest = c :: r ∧ ((false && c != 10) || blank c) = false ∧ c ≠ 35 ∧ (next c r).1 = 0 ∧ (next c r).2.1 = t.place 0 ∧ (next c r).2.2 = (src t).length := by
  have tw : ∀ (p : UInt8 → Bool) (l : List UInt8), p 32 = false → l.all p = true → (l ++ rest).takeWhile p = l := by
    intro p l h32 hall
    induction l with
    | nil => rcases hr with rfl | ⟨y, rfl⟩ <;> simp [h32]
    | cons a l ih =>
      rw [List.all_cons, Bool.and_eq_true] at hall
      rw [List.cons_append, List.takeWhile_cons, if_pos hall.1, ih hall.2]
  obtain ⟨k, text, n, pos⟩ := t
  rcases h with ⟨hk, h, hn⟩ | ⟨hk, h, hn⟩ | ⟨hk, h, hn⟩ | ⟨hk, ⟨c, hs, e⟩, hn⟩
  · simp only at hk h hn
    subst hk hn
    match text, h with
    | c :: r, h =>
      unfold nameOk at h
      simp only [Bool.and_eq_true, decide_eq_true_eq] at h
      obtain ⟨⟨h1, h2⟩, h3⟩ := h
      refine ⟨c, r ++ rest, by simp [src], ?_, ?_, ?_⟩
      · unfold letter at h1; simp [blank] at h1 ⊢
        refine ⟨⟨?_, ?_⟩, ?_⟩ <;> (rintro rfl; revert h1; decide)
      · rintro rfl; revert h1; decide
      · have e := tw inner (c :: r) (by decide) h2
        rw [List.cons_append] at e
        unfold next
        rw [if_pos h1]
        simp only
        rw [e, if_pos h3]
        exact ⟨rfl, rfl, rfl⟩
  · simp only at hk h hn
    subst hk hn
    match text, h with
    | c :: r, h =>
      have h0 := h
      unfold numOk at h
      simp only [Bool.and_eq_true] at h
      obtain ⟨⟨h1, _⟩, _⟩ := h
      have hd : digit c = true := by rw [List.all_cons, Bool.and_eq_true] at h1; exact h1.1
      have hnl : ¬ letter c = true := by intro hl; rw [letter_not_digit hl] at hd; cases hd
      refine ⟨c, r ++ rest, by simp [src], ?_, ?_, ?_⟩
      · simp [blank]
        refine ⟨⟨?_, ?_⟩, ?_⟩ <;> (rintro rfl; revert hd; decide)
      · rintro rfl; revert hd; decide
      · have e := tw digit (c :: r) (by decide) h1
        rw [List.cons_append] at e
        unfold next
        rw [if_neg hnl, if_pos hd]
        simp only
        rw [e, if_pos h0]
        exact ⟨rfl, rfl, rfl⟩
  · simp only at hk h hn
    subst hk hn
    unfold valueOk at h
    simp only [Bool.and_eq_true, decide_eq_true_eq] at h
    obtain ⟨h1, h2⟩ := h
    refine ⟨34, esc text ++ 34 :: rest, by simp [src, quote], by decide, by decide, ?_⟩
    unfold next
    rw [if_neg (by decide), if_neg (by decide), if_pos (by decide), unq_of text h1]
    simp only
    rw [if_pos h2]
    refine ⟨rfl, rfl, by simp [src, quote]⟩
  · simp only at hk e hn
    subst hk hn e
    have hmem : c ∈ signs := by unfold sign at hs; simpa using hs
    have hall : ∀ x ∈ signs, blank x = false ∧ x ≠ 35 ∧ letter x = false ∧ digit x = false ∧ (x == 34) = false := by decide
    obtain ⟨a1, a2, a3, a4, a5⟩ := hall c hmem
    refine ⟨c, rest, by simp [src], by simp [a1], a2, ?_⟩
    unfold next
    rw [if_neg (by simp [a3]), if_neg (by simp [a4]), if_neg (by simp [a5]), if_pos hs]
    exact ⟨rfl, rfl, by simp [src]⟩

/-- the same tokens, but for their places -/
def like : List Tok → List Tok → Prop
  | [], [] => True
  | a :: as, b :: bs => a.kind = b.kind ∧ a.text = b.text ∧ a.n = b.n ∧ like as bs
  | _, _ => False

theorem scan_print : ∀ (ts : List Tok), (∀ t ∈ ts, validTok t) → ∀ p, (scan false (printL ts) p).err = 0 ∧ like ts (scan false (printL ts) p).toks := by
  intro ts
  induction ts with
  | nil => intro _ p; exact ⟨rfl, trivial⟩
  | cons t ts ih =>
    intro h p
    have ht := h t (by simp)
    have hts := ih (fun u hu => h u (List.mem_cons_of_mem _ hu))
    match ts, hts with
    | [], _ =>
      obtain ⟨c, r, e, h1, h2, h3, h4, h5⟩ := next_of ht [] (.inl rfl)
      show (scan false (src t) p).err = 0 ∧ like [t] (scan false (src t) p).toks
      rw [List.append_nil] at e
      rw [e, scan_tok h1 h2 h3, h5, h4, ← e, List.drop_length, scan_nil]
      exact ⟨rfl, rfl, rfl, rfl, trivial⟩
    | u :: ts, hts =>
      obtain ⟨c, r, e, h1, h2, h3, h4, h5⟩ := next_of ht (32 :: printL (u :: ts)) (.inr ⟨_, rfl⟩)
      show (scan false (src t ++ 32 :: printL (u :: ts)) p).err = 0 ∧ like (t :: u :: ts) (scan false (src t ++ 32 :: printL (u :: ts)) p).toks
      have hd : (c :: r).drop (src t).length = 32 :: printL (u :: ts) := by rw [← e, List.drop_left]
      rw [e, scan_tok h1 h2 h3, h5, h4, hd, scan_skip (by decide)]
      obtain ⟨k1, k2⟩ := hts (p + (src t).length + 1)
      have e2 : (false && ((32 : UInt8) != 10)) = false := rfl
      rw [e2]
      unfold pre
      rw [if_pos k1]
      exact ⟨rfl, rfl, rfl, rfl, k2⟩

theorem print_like : ∀ (a b : List Tok), like a b → printL a = printL b := by
  have hs : ∀ t u : Tok, t.kind = u.kind → t.text = u.text → src t = src u := by intro t u h1 h2; unfold src; rw [h1, h2]
  intro a
  induction a with
  | nil => intro b h; cases b with
    | nil => rfl
    | cons _ _ => exact h.elim
  | cons t ts ih =>
    intro b h
    match b, h with
    | [], h => exact h.elim
    | u :: us, ⟨h1, h2, h3, h4⟩ =>
      match ts, us, h4 with
      | [], [], _ => exact hs t u h1 h2
      | _ :: _, [], h4 => exact h4.elim
      | [], _ :: _, h4 => exact h4.elim
      | x :: xs, y :: ys, h4 =>
        show src t ++ 32 :: printL (x :: xs) = src u ++ 32 :: printL (y :: ys)
        rw [hs t u h1 h2, ih _ h4]

/-- the printed text is at most twice as long -/
theorem print_len : ∀ (ts : List Tok) (cm : Bool) (l : List UInt8) (p : Nat), Good cm l p ts → (printL ts).length ≤ 2 * l.length := by
  intro ts
  induction ts with
  | nil => intro cm l p _; simp [printL]
  | cons t ts ih =>
    intro cm l p h
    obtain ⟨g, rest, _, _, h3, h4, h5, _, h7⟩ := h
    have hlen : l.length = g + (src t).length + rest.length := by
      have := congrArg List.length h4
      simp at this; omega
    have hpos : 1 ≤ (src t).length := List.length_pos_iff.2 h5
    match ts, h7 with
    | [], _ => simp only [printL]; omega
    | u :: us, h7 =>
      have := ih _ _ _ h7
      simp only [printL, List.length_append, List.length_cons]
      omega

/-! ### names, numbers, quoted strings as whole texts -/

theorem scan_one {t : Tok} (h : validTok t) (p : Nat) : scan false (src t) p = ⟨[t.place p], 0, 0⟩ := by
  obtain ⟨c, r, e, h1, h2, h3, h4, h5⟩ := next_of h [] (.inl rfl)
  rw [List.append_nil] at e
  rw [e, scan_tok h1 h2 h3, h5, h4, ← e, List.drop_length, scan_nil]
  rfl
theorem scan_name {l : List UInt8} (h : nameOk l = true) : scan false l 0 = ⟨[⟨0, l, 0, 0⟩], 0, 0⟩ :=
  scan_one (t := ⟨0, l, 0, 0⟩) (.inl ⟨rfl, h, rfl⟩) 0
theorem scan_num {l : List UInt8} (h : numOk l = true) : scan false l 0 = ⟨[⟨1, l, val l, 0⟩], 0, 0⟩ :=
  scan_one (t := ⟨1, l, val l, 0⟩) (.inr (.inl ⟨rfl, h, rfl⟩)) 0
theorem scan_quote {l : List UInt8} (h : valueOk l = true) : scan false (quote l) 0 = ⟨[⟨2, l, 0, 0⟩], 0, 0⟩ :=
  scan_one (t := ⟨2, l, 0, 0⟩) (.inr (.inr (.inl ⟨rfl, h, rfl⟩))) 0
/-- a text with one token that is all of it -/
theorem one_name {l : List UInt8} {t : Tok} (he : (scan false l 0).err = 0) (h : (scan false l 0).toks = [t]) (hk : t.kind = 0) (ht : t.text = l) : nameOk l = true := by
  have hv := (scan_good false l 0 he).2 t (by rw [h]; simp)
  rcases hv with ⟨_, hv, _⟩ | ⟨k, _⟩ | ⟨k, _⟩ | ⟨k, _⟩
  · rw [ht] at hv; exact hv
  all_goals omega
theorem one_num {l : List UInt8} {t : Tok} (he : (scan false l 0).err = 0) (h : (scan false l 0).toks = [t]) (hk : t.kind = 1) (ht : t.text = l) : numOk l = true ∧ t.n = val l := by
  have hv := (scan_good false l 0 he).2 t (by rw [h]; simp)
  rcases hv with ⟨k, _⟩ | ⟨_, hv, hn⟩ | ⟨k, _⟩ | ⟨k, _⟩
  · omega
  · rw [ht] at hv hn; exact ⟨hv, hn⟩
  all_goals omega
theorem numOk_val {l : List UInt8} (h : numOk l = true) : val l ≤ 1099511627776 := by
  match l, h with
  | c :: r, h =>
    unfold numOk at h
    simp only [Bool.and_eq_true, decide_eq_true_eq] at h
    exact h.2

end Go.Proofs.YtffffkfcbjobnaaGreat.Lx
