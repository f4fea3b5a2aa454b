/- Tokens, in plain words: what a source text consists of. -/
namespace Go.Proofs.YtffffkfcbjobnaaGreat.Lx

def blank (c : UInt8) : Bool := c == 9 || c == 10 || c == 32
def letter (c : UInt8) : Bool := decide (97 ≤ c.toNat ∧ c.toNat ≤ 122) || decide (65 ≤ c.toNat ∧ c.toNat ≤ 90)
def digit (c : UInt8) : Bool := decide (48 ≤ c.toNat ∧ c.toNat ≤ 57)
def inner (c : UInt8) : Bool := letter c || digit c || c == 95
def plain (c : UInt8) : Bool := decide (32 ≤ c.toNat ∧ c.toNat ≤ 126)
def signs : List UInt8 := [40, 41, 44, 59, 58, 61, 60, 43, 45, 42, 46, 123, 125]
def sign (c : UInt8) : Bool := signs.contains c

structure Tok where
  kind : Int
  text : List UInt8
  n : Int
  pos : Nat

def Tok.place (t : Tok) (p : Nat) : Tok := ⟨t.kind, t.text, t.n, p⟩

def valFrom (a : Nat) (l : List UInt8) : Nat := l.foldl (fun n c => 10 * n + (c.toNat - 48)) a
def val (l : List UInt8) : Nat := valFrom 0 l
def nameOk : List UInt8 → Bool
  | [] => false
  | c :: r => letter c && (c :: r).all inner && decide ((c :: r).length ≤ 20)
def numOk : List UInt8 → Bool
  | [] => false
  | c :: r => (c :: r).all digit && (c != 48 || r.isEmpty) && decide (val (c :: r) ≤ 1099511627776)

/-- what stands behind an opening quote: the value, and how many bytes it takes with the closing one -/
def unq : List UInt8 → Option (List UInt8 × Nat)
  | [] => none
  | c :: r =>
    if c == 34 then some ([], 1)
    else if c == 92 then
      match r with
      | [] => none
      | d :: r' => if d == 34 || d == 92 then (unq r').map (fun p => (d :: p.1, p.2 + 2)) else none
    else if plain c then (unq r).map (fun p => (c :: p.1, p.2 + 1)) else none

/-- a value between quotes, its quotes and backslashes escaped -/
def esc : List UInt8 → List UInt8
  | [] => []
  | c :: r => if c == 34 || c == 92 then 92 :: c :: esc r else c :: esc r
def quote (l : List UInt8) : List UInt8 := 34 :: (esc l ++ [34])
def valueOk (l : List UInt8) : Bool := l.all plain && decide (l.length ≤ 400)

/-- the token at the beginning of a text: an error's number, the token, its length -/
def next (c : UInt8) (r : List UInt8) : Int × Tok × Nat :=
  if letter c then
    let t := (c :: r).takeWhile inner
    if t.length ≤ 20 then (0, ⟨0, t, 0, 0⟩, t.length) else (3, ⟨0, [], 0, 0⟩, 0)
  else if digit c then
    let t := (c :: r).takeWhile digit
    if numOk t then (0, ⟨1, t, val t, 0⟩, t.length) else (3, ⟨0, [], 0, 0⟩, 0)
  else if c == 34 then
    match unq r with
    | some (v, n) => if v.length ≤ 400 then (0, ⟨2, v, 0, 0⟩, n + 1) else (21, ⟨0, [], 0, 0⟩, 0)
    | none => (21, ⟨0, [], 0, 0⟩, 0)
  else if sign c then (0, ⟨3, [c], 0, 0⟩, 1)
  else (20, ⟨0, [], 0, 0⟩, 0)

structure Res where
  toks : List Tok
  at_ : Nat
  err : Int

def done : Res := ⟨[], 0, 0⟩
def pre (out : List Tok) (R : Res) : Res := if R.err = 0 then ⟨out ++ R.toks, R.at_, 0⟩ else R

def scanF : Nat → Bool → List UInt8 → Nat → Res
  | 0, _, _, _ => done
  | _ + 1, _, [], _ => done
  | f + 1, cm, c :: r, p =>
    if (cm && c != 10) || blank c then scanF f (cm && c != 10) r (p + 1)
    else if c == 35 then scanF f true r (p + 1)
    else
      let x := next c r
      if x.1 = 0 then pre [x.2.1.place p] (scanF f false ((c :: r).drop x.2.2) (p + x.2.2)) else ⟨[], p, x.1⟩

def scan (cm : Bool) (l : List UInt8) (p : Nat) : Res := scanF l.length cm l p

/-! ### small facts -/

theorem takeWhile_length_le {α : Type} (p : α → Bool) (l : List α) : (l.takeWhile p).length ≤ l.length := by
  induction l with
  | nil => simp
  | cons a l ih => rw [List.takeWhile_cons]; split <;> simp <;> omega
theorem takeWhile_pos {α : Type} {p : α → Bool} {a : α} {l : List α} (h : p a = true) : 1 ≤ ((a :: l).takeWhile p).length := by
  rw [List.takeWhile_cons, if_pos h]; simp

theorem letter_inner {c : UInt8} (h : letter c = true) : inner c = true := by unfold inner; rw [h]; rfl

theorem unq_len : ∀ (k : Nat) (l : List UInt8), l.length ≤ k → ∀ v n, unq l = some (v, n) → 1 ≤ n ∧ n ≤ l.length ∧ v.length + 1 ≤ n := by
  intro k
  induction k with
  | zero =>
    intro l hl v n h
    have : l = [] := List.eq_nil_of_length_eq_zero (by omega)
    subst this; simp [unq] at h
  | succ k ih =>
    intro l hl v n h
    match l, hl with
    | [], _ => simp [unq] at h
    | c :: r, hl =>
      unfold unq at h
      split at h
      · simp at h; obtain ⟨rfl, rfl⟩ := h; simp
      · split at h
        · match r, h, hl with
          | [], h, _ => simp at h
          | d :: r', h, hl =>
            simp only at h
            split at h
            · cases hu : unq r' with
              | none => rw [hu] at h; simp at h
              | some q =>
                obtain ⟨v', n'⟩ := q
                rw [hu] at h
                simp at h
                obtain ⟨rfl, rfl⟩ := h
                have := ih r' (by simp at hl; omega) v' n' hu
                simp; omega
            · simp at h
        · split at h
          · cases hu : unq r with
            | none => rw [hu] at h; simp at h
            | some q =>
              obtain ⟨v', n'⟩ := q
              rw [hu] at h
              simp at h
              obtain ⟨rfl, rfl⟩ := h
              have := ih r (by simp at hl; omega) v' n' hu
              simp; omega
          · simp at h

/-- a token has at least one byte, and no more than there are -/
theorem next_len {c : UInt8} {r : List UInt8} (h : (next c r).1 = 0) : 1 ≤ (next c r).2.2 ∧ (next c r).2.2 ≤ r.length + 1 := by
  unfold next at *
  split
  · rename_i hl
    rw [if_pos hl] at h
    simp only at h ⊢
    split
    · exact ⟨takeWhile_pos (letter_inner hl), by have := takeWhile_length_le inner (c :: r); simpa using this⟩
    · rename_i hh; rw [if_neg hh] at h; simp at h
  · rename_i hl
    rw [if_neg hl] at h
    split
    · rename_i hd
      rw [if_pos hd] at h
      simp only at h ⊢
      split
      · exact ⟨takeWhile_pos hd, by have := takeWhile_length_le digit (c :: r); simpa using this⟩
      · rename_i hh; rw [if_neg hh] at h; simp at h
    · rename_i hd
      rw [if_neg hd] at h
      split
      · rename_i hq
        rw [if_pos hq] at h
        cases hu : unq r with
        | none => rw [hu] at h; simp at h
        | some q =>
          obtain ⟨v, n⟩ := q
          rw [hu] at h
          simp only at h ⊢
          have := unq_len _ r (Nat.le_refl _) v n hu
          split
          · simp; omega
          · rename_i hh; rw [if_neg hh] at h; simp at h
      · rename_i hq
        rw [if_neg hq] at h
        split
        · simp
        · rename_i hs; rw [if_neg hs] at h; simp at h

theorem scanF_fuel : ∀ (f : Nat) (cm : Bool) (l : List UInt8) (p : Nat), l.length ≤ f → ∀ g, f ≤ g → scanF g cm l p = scanF f cm l p := by
  intro f
  induction f with
  | zero =>
    intro cm l p hl g _
    have : l = [] := List.eq_nil_of_length_eq_zero (by omega)
    subst this
    cases g <;> rfl
  | succ f ih =>
    intro cm l p hl g hg
    match g, hg with
    | g + 1, hg =>
      match l, hl with
      | [], _ => rfl
      | c :: r, hl =>
        simp at hl
        unfold scanF
        split
        · exact ih _ _ _ (by omega) g (by omega)
        · split
          · exact ih _ _ _ (by omega) g (by omega)
          · simp only
            split
            · rename_i hx
              have := next_len hx
              rw [ih false _ _ (by simp; omega) g (by omega)]
            · rfl

theorem scan_nil (cm : Bool) (p : Nat) : scan cm [] p = done := rfl
theorem scan_skip {cm : Bool} {c : UInt8} {r : List UInt8} {p : Nat} (h : ((cm && c != 10) || blank c) = true) : scan cm (c :: r) p = scan (cm && c != 10) r (p + 1) := by
  show scanF (r.length + 1) cm (c :: r) p = _
  unfold scanF
  rw [if_pos h]; rfl
theorem scan_hash {cm : Bool} {c : UInt8} {r : List UInt8} {p : Nat} (h : ((cm && c != 10) || blank c) = false) (hc : c = 35) : scan cm (c :: r) p = scan true r (p + 1) := by
  show scanF (r.length + 1) cm (c :: r) p = _
  unfold scanF
  rw [if_neg (by simp [h]), if_pos (by simp [hc])]; rfl
theorem scan_tok {cm : Bool} {c : UInt8} {r : List UInt8} {p : Nat} (h : ((cm && c != 10) || blank c) = false) (hc : c ≠ 35) (hx : (next c r).1 = 0) :
    scan cm (c :: r) p = pre [(next c r).2.1.place p] (scan false ((c :: r).drop (next c r).2.2) (p + (next c r).2.2)) := by
  show scanF (r.length + 1) cm (c :: r) p = _
  unfold scanF
  have := next_len hx
  rw [if_neg (by simp [h]), if_neg (by simp [hc])]
  simp only
  rw [if_pos hx]
  unfold scan
  rw [scanF_fuel _ false _ _ (Nat.le_refl _) r.length (by simp; omega)]
theorem scan_err {cm : Bool} {c : UInt8} {r : List UInt8} {p : Nat} (h : ((cm && c != 10) || blank c) = false) (hc : c ≠ 35) (hx : (next c r).1 ≠ 0) :
    scan cm (c :: r) p = ⟨[], p, (next c r).1⟩ := by
  show scanF (r.length + 1) cm (c :: r) p = _
  unfold scanF
  rw [if_neg (by simp [h]), if_neg (by simp [hc])]
  simp only
  rw [if_neg hx]

theorem pre_nil (R : Res) : pre [] R = R := by
  unfold pre
  split
  · rename_i h; cases R; simp at h ⊢; exact h.symm
  · rfl
theorem pre_pre (a b : List Tok) (R : Res) : pre a (pre b R) = pre (a ++ b) R := by
  unfold pre
  by_cases h : R.err = 0
  · simp [h]
  · simp [h]

/-- how a text is read, step by step: a way to argue about all texts -/
theorem scan_induct {motive : Bool → List UInt8 → Nat → Prop} (hnil : ∀ cm p, motive cm [] p)
    (hskip : ∀ cm c r p, ((cm && c != 10) || blank c) = true → motive (cm && c != 10) r (p + 1) → motive cm (c :: r) p)
    (hhash : ∀ cm c r p, ((cm && c != 10) || blank c) = false → c = 35 → motive true r (p + 1) → motive cm (c :: r) p)
    (htok : ∀ cm c r p, ((cm && c != 10) || blank c) = false → c ≠ 35 → (next c r).1 = 0 → motive false ((c :: r).drop (next c r).2.2) (p + (next c r).2.2) → motive cm (c :: r) p)
    (herr : ∀ cm c r p, ((cm && c != 10) || blank c) = false → c ≠ 35 → (next c r).1 ≠ 0 → motive cm (c :: r) p) :
    ∀ cm l p, motive cm l p := by
  have key : ∀ (k : Nat) (cm : Bool) (l : List UInt8) (p : Nat), l.length ≤ k → motive cm l p := by
    intro k
    induction k with
    | zero =>
      intro cm l p hl
      have : l = [] := List.eq_nil_of_length_eq_zero (by omega)
      subst this; exact hnil cm p
    | succ k ih =>
      intro cm l p hl
      match l, hl with
      | [], _ => exact hnil cm p
      | c :: r, hl =>
        simp at hl
        cases h : ((cm && c != 10) || blank c) with
        | true => exact hskip cm c r p h (ih _ _ _ (by omega))
        | false =>
          by_cases hc : c = 35
          · exact hhash cm c r p h hc (ih _ _ _ (by omega))
          · by_cases hx : (next c r).1 = 0
            · have := next_len hx
              exact htok cm c r p h hc hx (ih _ _ _ (by simp; omega))
            · exact herr cm c r p h hc hx
  exact fun cm l p => key l.length cm l p (Nat.le_refl _)

end Go.Proofs.YtffffkfcbjobnaaGreat.Lx
