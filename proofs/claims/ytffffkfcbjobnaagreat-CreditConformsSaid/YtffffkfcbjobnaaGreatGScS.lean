/- Walks by the logic of calls, and plain laws. -/
import Derived.Test.YtffffkfcbjobnaaGreatGScO
namespace Go.Gh
open Go Go.Proofs
set_option maxRecDepth 1000000
set_option maxHeartbeats 2000000
set_option linter.unusedSimpArgs false
set_option linter.unusedVariables false
open Go.RowKit

/-! plain laws -/
theorem okB_ne {c : UInt8} (h : okB c = true) : c ≠ 32 := fun e => by subst e; simp [okB] at h
theorem valid_ne {s : ByteArray} (h : validS s = true) : ∀ c, c ∈ bs s → c ≠ 32 := fun c hc => by
  simp only [validS, Bool.and_eq_true, List.all_eq_true] at h
  exact okB_ne (h.2 c hc)
theorem valid_some {s : ByteArray} (h : validS s = true) : bs s ≠ [] := fun e => by
  simp only [validS, Bool.and_eq_true, Bool.not_eq_true', decide_eq_false_iff_not] at h
  refine h.1.1 ((empty_iff s).2 ?_)
  rw [← bs_size, e]; rfl
theorem split_join : ∀ (l : List (List UInt8)), l ≠ [] → (∀ x, x ∈ l → ∀ c, c ∈ x → c ≠ 32) → splitL (Lib.join l [32]) = l := by
  intro l
  match l with
  | [] => intro h; exact absurd rfl h
  | [x] =>
    intro _ h
    have e : Lib.join [x] [32] = x := by simp [Lib.join, List.intercalate, List.intersperse]
    rw [e]; exact splitL_end x (h x List.mem_cons_self)
  | x :: y :: l =>
    intro _ h
    have ih := split_join (y :: l) (by simp) fun z hz => h z (List.mem_cons_of_mem _ hz)
    have e : Lib.join (x :: y :: l) [32] = x ++ 32 :: Lib.join (y :: l) [32] := by simp [Lib.join, List.intercalate, List.intersperse]
    rw [e, splitL_seg _ x.length (fun j hj => ?_) (by simp) (by simp)]
    · simp [ih]
    · have hj' : (x ++ 32 :: Lib.join (y :: l) [32]).getD j 0 = x[j] := by
        rw [List.getD_eq_getElem?_getD, List.getElem?_append_left hj, List.getElem?_eq_getElem hj]; rfl
      rw [hj']; exact h x List.mem_cons_self _ (List.getElem_mem hj)
theorem join_split : ∀ (l : List UInt8), Lib.join (splitL l) [32] = l := by
  intro l
  induction l with
  | nil => rfl
  | cons c l ih =>
    have hp := splitL_pos l
    cases hs : splitL l with
    | nil => rw [hs] at hp; simp at hp
    | cons x r =>
      unfold splitL
      by_cases h : c = 32
      · rw [if_pos h, hs]
        have e : Lib.join ([] :: x :: r) [32] = 32 :: Lib.join (x :: r) [32] := by simp [Lib.join, List.intercalate, List.intersperse]
        rw [e, ← hs, ih, h]
      · rw [if_neg h, hs]
        show Lib.join ((c :: x) :: r) [32] = c :: l
        have e : Lib.join ((c :: x) :: r) [32] = c :: Lib.join (x :: r) [32] := by cases r <;> simp [Lib.join, List.intercalate, List.intersperse]
        rw [e, ← hs, ih]
theorem wordsF_join {l : List ByteArray} (h : ∀ s, s ∈ l → validS s = true) : wordsF (joinS l sp) = l := by
  cases l with
  | nil => rfl
  | cons x l =>
    have hs := split_join ((x :: l).map bs) (by simp) fun y hy => by
      obtain ⟨s, hs, rfl⟩ := List.mem_map.1 hy
      exact valid_ne (h s hs)
    have hb : bs (joinS (x :: l) sp) = Lib.join ((x :: l).map bs) [32] := rfl
    have hp : parts (joinS (x :: l) sp) = x :: l := by
      rw [parts, hb, hs, List.map_map]
      have : (ofL ∘ bs) = id := funext ofL_bs
      rw [this, List.map_id]
    unfold wordsF
    rw [if_neg fun e => ?_]
    · exact hp
    · rw [e] at hp
      have e2 : parts (⟨#[]⟩ : ByteArray) = [⟨#[]⟩] := rfl
      rw [e2] at hp
      injection hp with h1 h2
      exact valid_some (h x List.mem_cons_self) (by rw [← h1]; rfl)
theorem join_wordsF (t : ByteArray) : joinS (wordsF t) sp = t := by
  unfold wordsF
  split
  · rename_i h; rw [h]; rfl
  · have : (parts t).map bs = splitL (bs t) := by
      rw [parts, List.map_map]
      have : (bs ∘ ofL) = id := funext bs_ofL
      rw [this, List.map_id]
    show ofL (Lib.join ((parts t).map bs) [32]) = t
    rw [this, join_split, ofL_bs]
theorem wordsF_text {f : Fl} (hf : Good f) (i : Nat) : wordsF (textF f i) = wordsAt f.words i := wordsF_join fun s hs => wordsAt_mem hf.each hs
theorem dupW_no {l : List ByteArray} : ∀ (n k : Nat), l.length - k = n → dupW l k = false → ∀ i, k ≤ i → i < l.length → ∀ j, j < i → l.getD j default ≠ l.getD i default := by
  intro n
  induction n with
  | zero => intro k h _ i h1 h2; omega
  | succ n ih =>
    intro k h hd i h1 h2
    rw [dupW, if_pos (by omega)] at hd
    split at hd
    · cases hd
    · rename_i h3
      by_cases e : i = k
      · subst e
        intro j hj he
        refine h3 (List.any_eq_true.2 ⟨l.getD j default, ?_, decide_eq_true he⟩)
        rw [← getD_take hj]
        exact getD_mem (by rw [List.length_take]; omega)
      · exact ih (k + 1) (by omega) hd i (by omega) h2
theorem word_inj {w : List ByteArray} (h : wordE w = 0) {a b : Nat} (ha : a < w.length) (hb : b < w.length) (e : w.getD a default = w.getD b default) : a = b := by
  obtain ⟨_, _, _, hd⟩ := wordE_0 h
  have key := dupW_no _ 0 rfl hd
  rcases Nat.lt_trichotomy a b with h | h | h
  · exact absurd e (key b (Nat.zero_le _) hb a h)
  · exact h
  · exact absurd e.symm (key a (Nat.zero_le _) ha b h)
theorem wordsAt_mod : ∀ (ws : List (List ByteArray)) (i : Nat), wordsAt ws (i % sz ws) = wordsAt ws i := by
  intro ws
  induction ws with
  | nil => intro i; rfl
  | cons w ws ih =>
    intro i
    have e1 : i % (w.length * sz ws) / sz ws % w.length = i / sz ws % w.length := by rw [Nat.mod_mul_left_div_self, Nat.mod_mod]
    have e2 : wordsAt ws (i % (w.length * sz ws)) = wordsAt ws i := by rw [← ih (i % (w.length * sz ws)), Nat.mod_mul_left_mod, ih]
    show w.getD (i % (w.length * sz ws) / sz ws % w.length) default :: wordsAt ws (i % (w.length * sz ws)) = _
    rw [e1, e2]; rfl
theorem wordsAt_inj : ∀ {ws : List (List ByteArray)}, (∀ w, w ∈ ws → wordE w = 0) → ∀ {i j : Nat}, i < sz ws → j < sz ws → wordsAt ws i = wordsAt ws j → i = j := by
  intro ws
  induction ws with
  | nil => intro _ i j hi hj _; simp [sz] at hi hj; omega
  | cons w ws ih =>
    intro h i j hi hj e
    have hw := h w List.mem_cons_self
    have hws := fun x hx => h x (List.mem_cons_of_mem _ hx)
    have hp := (sz_range hws).1
    have h1 := (wordE_0 hw).1
    have hi' : i < w.length * sz ws := hi
    have hj' : j < w.length * sz ws := hj
    injection e with e1 e2
    have hdi : i / sz ws < w.length := (Nat.div_lt_iff_lt_mul hp).2 hi'
    have hdj : j / sz ws < w.length := (Nat.div_lt_iff_lt_mul hp).2 hj'
    rw [Nat.mod_eq_of_lt hdi, Nat.mod_eq_of_lt hdj] at e1
    have hd := word_inj hw hdi hdj e1
    rw [← wordsAt_mod ws i, ← wordsAt_mod ws j] at e2
    have hm := ih hws (Nat.mod_lt _ hp) (Nat.mod_lt _ hp) e2
    have a1 := Nat.div_add_mod i (sz ws)
    have a2 := Nat.div_add_mod j (sz ws)
    rw [hd] at a1
    omega
theorem text_inj {f : Fl} (hf : Good f) {i j : Nat} (hi : i < sz f.words) (hj : j < sz f.words) (e : textF f i = textF f j) : i = j := by
  have := congrArg wordsF e
  rw [wordsF_text hf, wordsF_text hf] at this
  exact wordsAt_inj hf.each hi hj this
theorem readT_mod : ∀ (fs : List Fl) (i : Nat), readT fs (i % tot fs) = readT fs i := by
  intro fs
  induction fs with
  | nil => intro i; rfl
  | cons f fs ih =>
    intro i
    have e1 : i % (sz f.words * tot fs) / tot fs % sz f.words = i / tot fs % sz f.words := by rw [Nat.mod_mul_left_div_self, Nat.mod_mod]
    have e2 : readT fs (i % (sz f.words * tot fs)) = readT fs i := by rw [← ih (i % (sz f.words * tot fs)), Nat.mod_mul_left_mod, ih]
    show textF f (i % (sz f.words * tot fs) / tot fs % sz f.words) :: readT fs (i % (sz f.words * tot fs)) = _
    rw [e1, e2]; rfl
theorem readT_inj : ∀ {fs : List Fl}, (∀ f, f ∈ fs → Good f) → ∀ {i j : Nat}, i < tot fs → j < tot fs → readT fs i = readT fs j → i = j := by
  intro fs
  induction fs with
  | nil => intro _ i j hi hj _; simp [tot] at hi hj; omega
  | cons f fs ih =>
    intro h i j hi hj e
    have hf := h f List.mem_cons_self
    have hfs := fun x hx => h x (List.mem_cons_of_mem _ hx)
    have hp := tot_pos hfs
    have h1 := hf.sz.1
    injection e with e1 e2
    have hdi : i / tot fs < sz f.words := (Nat.div_lt_iff_lt_mul hp).2 hi
    have hdj : j / tot fs < sz f.words := (Nat.div_lt_iff_lt_mul hp).2 hj
    rw [Nat.mod_eq_of_lt hdi, Nat.mod_eq_of_lt hdj] at e1
    have hd := text_inj hf hdi hdj e1
    rw [← readT_mod fs i, ← readT_mod fs j] at e2
    have hm := ih hfs (Nat.mod_lt _ hp) (Nat.mod_lt _ hp) e2
    have a1 := Nat.div_add_mod i (tot fs)
    have a2 := Nat.div_add_mod j (tot fs)
    rw [hd] at a1
    omega
theorem possF_iff {ws : List ByteArray} {ls : List (List ByteArray)} : ∀ (n k : Nat), ws.length - k = n → (possF ws ls k = true ↔ ∀ j, k ≤ j → j < ws.length → ws.getD j default ∈ ls.getD j default) := by
  intro n
  induction n with
  | zero => intro k h; rw [possF, if_neg (by omega)]; exact ⟨fun _ j h1 h2 => by omega, fun _ => rfl⟩
  | succ n ih =>
    intro k h
    rw [possF, if_pos (by omega)]
    have hm : ((ls.getD k default).any fun x => decide (x = ws.getD k default)) = true ↔ ws.getD k default ∈ ls.getD k default := by
      rw [List.any_eq_true]
      exact ⟨fun ⟨x, h1, h2⟩ => by rw [← of_decide_eq_true h2]; exact h1, fun h => ⟨_, h, decide_eq_true rfl⟩⟩
    by_cases hc : ws.getD k default ∈ ls.getD k default
    · rw [if_pos (hm.2 hc), ih (k + 1) (by omega)]
      exact ⟨fun h2 j h3 h4 => by
        by_cases e : j = k
        · subst e; exact hc
        · exact h2 j (by omega) h4, fun h2 j h3 h4 => h2 j (by omega) h4⟩
    · rw [if_neg (fun e => hc (hm.1 e))]
      exact ⟨fun e => (by cases e), fun h2 => absurd (h2 k (Nat.le_refl _) (by omega)) hc⟩
theorem possV_iff {d : Dc} {n : Int} {t : ByteArray} (h : hasB d n = true) : possV d n t = true ↔ (wordsF t).length = (fieldAt d n).words.length ∧ ∀ j, j < (wordsF t).length → (wordsF t).getD j default ∈ (fieldAt d n).words.getD j default := by
  rw [possV, if_pos h]
  split
  · rename_i h1
    rw [possF_iff _ 0 rfl]
    exact ⟨fun h2 => ⟨h1, fun j hj => h2 j (Nat.zero_le _) hj⟩, fun h2 j _ hj => h2.2 j hj⟩
  · rename_i h1; exact ⟨fun e => (by cases e), fun e => absurd e.1 h1⟩
theorem poss_text {d : Dc} {n : Int} (h : hasB d n = true) (i : Nat) : possV d n (textF (fieldAt d n) i) = true := by
  have hg := hasB_good h
  rw [possV_iff h, wordsF_text hg, wordsAt_length]
  refine ⟨rfl, fun j hj => ?_⟩
  rw [wordsAt_getD hj]
  exact getD_mem (Nat.mod_lt _ (wordE_0 (hg.at_ hj)).1)
/-! a right document is one that Check takes -/
theorem wordsE_all {ws : List (List ByteArray)} : ∀ (n k : Nat), ws.length - k = n → (∀ w, w ∈ ws → wordE w = 0) → wordsE ws k = 0 := by
  intro n
  induction n with
  | zero => intro k h _; rw [wordsE, if_neg (by omega)]
  | succ n ih => intro k h hw; rw [wordsE, if_pos (by omega), if_pos (hw _ (getD_mem (by omega)))]; exact ih (k + 1) (by omega) hw
theorem fieldsE_all {fs : List Fl} : ∀ (n k : Nat), fs.length - k = n → (∀ j, j < fs.length → fieldE fs j = 0) → fieldsE fs k = 0 := by
  intro n
  induction n with
  | zero => intro k h _; rw [fieldsE, if_neg (by omega)]
  | succ n ih => intro k h hw; rw [fieldsE, if_pos (by omega), if_pos (hw k (by omega))]; exact ih (k + 1) (by omega) hw
theorem check_right {d : Dc} (h : Right d) : checkE d = 0 := by
  rw [checkE, if_neg (by simp [h.kind]), if_neg (by have := h.len; omega)]
  refine fieldsE_all _ 0 rfl fun j hj => ?_
  have hm : d.fields.getD j default ∈ d.fields := getD_mem hj
  have hg := h.good _ hm
  have := hg.words
  rw [fieldE_w (h.name _ hm) (h.one j hj) (by omega)]
  exact wordsE_all _ 0 rfl hg.each
theorem hasB_of {d : Dc} (h : checkE d = 0) {i : Nat} (hi : i < d.fields.length) : hasB d (i : Int) = true := by
  simp only [hasB, Bool.and_eq_true, decide_eq_true_eq]; omega
end Go.Gh
