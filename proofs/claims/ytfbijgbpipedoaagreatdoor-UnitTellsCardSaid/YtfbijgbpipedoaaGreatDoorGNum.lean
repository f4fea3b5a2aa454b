/- Walks by the logic of calls, and plain laws. -/
import Derived.Test.YtfbijgbpipedoaaGreatDoorGUnitLaw
import Derived.Lib.ItoaNum
namespace Go.Gh
open Go Go.Proofs
set_option maxRecDepth 1000000
set_option maxHeartbeats 2000000
set_option linter.unusedSimpArgs false
set_option linter.unusedVariables false
open Go.Proofs.YtfbijgbpipedoaaGreatDoor Go.Proofs.YtfbijgbpipedoaaGreatDoor.Ra

/-! numbers and their digits -/
def ofL (l : List UInt8) : ByteArray := ⟨l.toArray⟩
theorem ofL_self (s : ByteArray) : ofL s.data.toList = s := by cases s; rfl
theorem ofL_list (l : List UInt8) : (ofL l).data.toList = l := rfl
theorem ofL_size (l : List UInt8) : (ofL l).size = l.length := by show l.toArray.size = _; simp
theorem ofL_at (l : List UInt8) (i : Nat) : byteAt (ofL l) i = ((l.getD i 0).toNat : Int) := rfl
theorem ofL_append (a b : List UInt8) : ofL (a ++ b) = ofL a ++ ofL b := by
  apply ByteArray.ext
  rw [ByteArray.data_append]
  simp [ofL]
theorem ofL_inj {a b : List UInt8} (h : ofL a = ofL b) : a = b := by
  have := congrArg (fun s : ByteArray => s.data.toList) h
  exact this
def isDg (c : UInt8) : Prop := 48 ≤ c.toNat ∧ c.toNat ≤ 57
def valL (l : List UInt8) (n : Int) : Int := l.foldl (fun a c => 10 * a + ((c.toNat : Int) - 48)) n
theorem span_all {p : Int → Bool} {s : ByteArray} : ∀ (k i : Nat), s.size - i = k → i ≤ s.size → (∀ j, i ≤ j → j < s.size → p (byteAt s j) = true) → span p s i = s.size := by
  intro k
  induction k with
  | zero => intro i h hi _; rw [span, if_neg (by omega)]; omega
  | succ k ih =>
    intro i h hi hp
    rw [span, if_pos (by omega), if_pos (hp i (Nat.le_refl _) (by omega))]
    exact ih (i + 1) (by omega) (by omega) fun j h1 h2 => hp j (by omega) h2
theorem numVal_val : ∀ (b a : List UInt8) (n : Int), numVal (ofL (a ++ b)) a.length n = valL b n := by
  intro b
  induction b with
  | nil => intro a n; rw [numVal, if_neg (by rw [ofL_size]; simp)]; rfl
  | cons c b ih =>
    intro a n
    rw [numVal, if_pos (by rw [ofL_size]; simp), ofL_at]
    have e : (a ++ c :: b).getD a.length 0 = c := by simp [List.getD]
    rw [e]
    have := ih (a ++ [c]) (10 * n + ((c.toNat : Int) - 48))
    rw [List.append_assoc, List.length_append] at this
    exact this
theorem numVal_of (l : List UInt8) (n : Int) : numVal (ofL l) 0 n = valL l n := numVal_val l [] n
theorem valL_app (a b : List UInt8) (n : Int) : valL (a ++ b) n = valL b (valL a n) := List.foldl_append
theorem valL_nonneg : ∀ (l : List UInt8) (n : Int), (∀ c, c ∈ l → isDg c) → 0 ≤ n → 0 ≤ valL l n := by
  intro l
  induction l with
  | nil => intro n _ h; exact h
  | cons c l ih =>
    intro n hd h
    have := hd c List.mem_cons_self
    unfold isDg at this
    exact ih (10 * n + ((c.toNat : Int) - 48)) (fun c hc => hd c (List.mem_cons_of_mem _ hc)) (by omega)
theorem valL_le : ∀ (l : List UInt8) (n : Int), (∀ c, c ∈ l → isDg c) → 0 ≤ n → n ≤ valL l n := by
  intro l
  induction l with
  | nil => intro n _ _; exact Int.le_refl _
  | cons c l ih =>
    intro n hd h
    have := hd c List.mem_cons_self
    unfold isDg at this
    have := ih (10 * n + ((c.toNat : Int) - 48)) (fun c hc => hd c (List.mem_cons_of_mem _ hc)) (by omega)
    show n ≤ valL l (10 * n + ((c.toNat : Int) - 48))
    omega
theorem dec_small {u : Nat} (h : u < 10) : Lib.decDigits u = [UInt8.ofNat (48 + u)] := by rw [Lib.decDigits, dif_pos h]
theorem dec_big {u : Nat} (h : ¬ u < 10) : Lib.decDigits u = Lib.decDigits (u / 10) ++ [UInt8.ofNat (48 + u % 10)] := by rw [Lib.decDigits, dif_neg h]
theorem dg_nat {d : Nat} (h : d < 10) : (UInt8.ofNat (48 + d)).toNat = 48 + d := by rw [UInt8.toNat_ofNat']; omega
theorem dec_digits : ∀ (u : Nat), (∀ c, c ∈ Lib.decDigits u → isDg c) ∧ valL (Lib.decDigits u) 0 = u ∧ Lib.decDigits u ≠ [] := by
  intro u
  induction u using Nat.strongRecOn with
  | _ u ih =>
    by_cases h : u < 10
    · rw [dec_small h]
      refine ⟨fun c hc => ?_, ?_, by simp⟩
      · rw [List.mem_singleton.1 hc]; unfold isDg; rw [dg_nat h]; omega
      · simp only [valL, List.foldl_cons, List.foldl_nil]; rw [dg_nat h]; omega
    · obtain ⟨h1, h2, h3⟩ := ih (u / 10) (by omega)
      rw [dec_big h]
      refine ⟨fun c hc => ?_, ?_, by simp⟩
      · rcases List.mem_append.1 hc with hc | hc
        · exact h1 c hc
        · rw [List.mem_singleton.1 hc]; unfold isDg; rw [dg_nat (by omega)]; omega
      · rw [valL_app, h2]
        simp only [valL, List.foldl_cons, List.foldl_nil]
        rw [dg_nat (by omega)]
        omega
theorem dec_length : ∀ (k u : Nat), u < 10 ^ (k + 1) → (Lib.decDigits u).length ≤ k + 1 := by
  intro k
  induction k with
  | zero => intro u h; rw [dec_small (by omega)]; simp
  | succ k ih =>
    intro u h
    by_cases hu : u < 10
    · rw [dec_small hu]; simp
    · rw [dec_big hu, List.length_append]
      have := ih (u / 10) (by rw [Nat.pow_succ] at h; omega)
      simp only [List.length_cons, List.length_nil]; omega
theorem dec_head {u : Nat} (hu : 0 < u) : (Lib.decDigits u).getD 0 0 ≠ 48 := by
  induction u using Nat.strongRecOn with
  | _ u ih =>
    by_cases h : u < 10
    · rw [dec_small h]
      intro e
      have e : UInt8.ofNat (48 + u) = 48 := e
      have := congrArg UInt8.toNat e
      rw [dg_nat h] at this
      have h48 : (48 : UInt8).toNat = 48 := rfl
      omega
    · have := ih (u / 10) (by omega) (by omega)
      rw [dec_big h]
      have hne := (dec_digits (u / 10)).2.2
      cases hl : Lib.decDigits (u / 10) with
      | nil => exact absurd hl hne
      | cons c l => rw [hl] at this; exact this
/-- what is a number -/
theorem numBad_list {l : List UInt8} : numBad (ofL l) = false ↔ l ≠ [] ∧ (∀ c, c ∈ l → isDg c) ∧ (l.getD 0 0 = 48 → l = [48]) ∧ l.length ≤ 13 := by
  have e0 : ofL l = ⟨#[]⟩ ↔ l = [] := ⟨fun h => ofL_inj (b := []) h, fun h => by rw [h]; rfl⟩
  have e48 : ofL l = ⟨#[48]⟩ ↔ l = [48] := ⟨fun h => ofL_inj (b := [48]) h, fun h => by rw [h]; rfl⟩
  have eh : byteAt (ofL l) 0 = 48 ↔ l.getD 0 0 = 48 := by
    rw [ofL_at]
    constructor
    · intro h
      have h : (l.getD 0 0).toNat = 48 := by omega
      exact UInt8.toNat_inj.1 (by rw [h]; rfl)
    · intro h; rw [h]; rfl
  have es : span digit (ofL l) 0 = (l.length : Int) ↔ ∀ c, c ∈ l → isDg c := by
    constructor
    · intro h c hc
      obtain ⟨i, hi⟩ := List.getElem?_of_mem hc
      have hlt := (List.getElem?_eq_some_iff.1 hi).1
      have := span_digit (ofL l) _ 0 rfl (h.trans (by rw [ofL_size])) i (Nat.zero_le _) (by rw [ofL_size]; exact hlt)
      rw [ofL_at] at this
      have e : l.getD i 0 = c := by simp [List.getD, hi]
      rw [e] at this
      simp only [digit, Bool.and_eq_true, decide_eq_true_eq] at this
      unfold isDg; omega
    · intro h
      rw [← ofL_size l]
      refine span_all _ 0 rfl (Nat.zero_le _) fun j _ hj => ?_
      rw [ofL_size] at hj
      rw [ofL_at]
      have := h (l.getD j 0) (by rw [List.getD_eq_getElem?_getD, List.getElem?_eq_getElem hj]; simp)
      unfold isDg at this
      simp only [digit, Bool.and_eq_true, decide_eq_true_eq]
      omega
  unfold numBad
  simp only [Bool.or_eq_false_iff, decide_eq_false_iff_not, Bool.not_eq_false', decide_eq_true_eq, Bool.and_eq_false_iff, e0, e48, eh, ofL_size, es]
  constructor
  · rintro ⟨⟨⟨h1, h2⟩, h3⟩, h4⟩
    refine ⟨h1, h2, fun h => ?_, by omega⟩
    rcases h3 with h3 | h3
    · exact absurd h h3
    · exact h3
  · rintro ⟨h1, h2, h3, h4⟩
    refine ⟨⟨⟨h1, h2⟩, ?_⟩, by omega⟩
    by_cases h : l.getD 0 0 = 48
    · exact .inr (h3 h)
    · exact .inl h
theorem numOk_list {l : List UInt8} (h : numOk (ofL l) = true) : numBad (ofL l) = false ∧ numV (ofL l) = valL l 0 := by
  unfold numOk at h
  simp only [Bool.and_eq_true, Bool.not_eq_true', decide_eq_false_iff_not] at h
  refine ⟨h.1, ?_⟩
  unfold numV
  rw [h.1, if_neg (by simp), if_neg h.2, numVal_of]
/-- printed and read -/
theorem dec_num {u : Nat} (hu : u ≤ 1099511627776) : numOk (ofL (Lib.decDigits u)) = true ∧ numV (ofL (Lib.decDigits u)) = u := by
  obtain ⟨h1, h2, h3⟩ := dec_digits u
  have hb : numBad (ofL (Lib.decDigits u)) = false := by
    refine numBad_list.2 ⟨h3, h1, fun h => ?_, dec_length 12 u (by omega)⟩
    rcases Nat.eq_zero_or_pos u with h0 | h0
    · subst h0; rw [dec_small (by omega)]; rfl
    · exact absurd h (dec_head h0)
  have hv : ¬ 1099511627776 < numVal (ofL (Lib.decDigits u)) 0 0 := by rw [numVal_of, h2]; omega
  refine ⟨?_, ?_⟩
  · unfold numOk; rw [hb]; simp [hv]
  · unfold numV
    rw [hb, if_neg (by simp), if_neg hv, numVal_of, h2]
/-- read and printed -/
theorem dec_back : ∀ (n : Nat) (l : List UInt8), l.length = n → l ≠ [] → (∀ c, c ∈ l → isDg c) → (l.getD 0 0 = 48 → l = [48]) → Lib.decDigits (valL l 0).toNat = l := by
  intro n
  induction n with
  | zero => intro l h hne; exact absurd (List.eq_nil_of_length_eq_zero h) hne
  | succ n ih =>
    intro l hl hne hd h48
    obtain ⟨a, c, rfl⟩ : ∃ a c, l = a ++ [c] := ⟨l.dropLast, l.getLast hne, (List.dropLast_concat_getLast hne).symm⟩
    have hc : isDg c := hd c (by simp)
    have hdc : UInt8.ofNat (48 + (c.toNat - 48)) = c := by
      unfold isDg at hc
      have : 48 + (c.toNat - 48) = c.toNat := by omega
      rw [this]; simp
    unfold isDg at hc
    rw [valL_app]
    have e1 : valL [c] (valL a 0) = 10 * valL a 0 + ((c.toNat : Int) - 48) := rfl
    rw [e1]
    by_cases ha : a = []
    · subst ha
      have e0 : valL [] 0 = 0 := rfl
      rw [e0]
      have : (10 * (0 : Int) + ((c.toNat : Int) - 48)).toNat = c.toNat - 48 := by omega
      rw [this, dec_small (by omega), hdc]; rfl
    · have hda : ∀ c, c ∈ a → isDg c := fun x hx => hd x (by simp [hx])
      obtain ⟨x, a', rfl⟩ := List.exists_cons_of_ne_nil ha
      have hx48 : x ≠ 48 := fun e => by
        have := h48 (by rw [e]; rfl)
        have := congrArg List.length this
        simp at this
      have hax := ih (x :: a') (by simp at hl ⊢; omega) (by simp) hda (fun h => absurd h hx48)
      have hnn := valL_nonneg (x :: a') 0 hda (by omega)
      have hpos : 1 ≤ valL (x :: a') 0 := by
        have hx := hda x List.mem_cons_self
        unfold isDg at hx
        have hxn : x.toNat ≠ 48 := fun e => hx48 (UInt8.toNat_inj.1 (by rw [e]; rfl))
        have := valL_le a' (10 * 0 + ((x.toNat : Int) - 48)) (fun c hc => hda c (List.mem_cons_of_mem _ hc)) (by omega)
        show 1 ≤ valL a' (10 * 0 + ((x.toNat : Int) - 48))
        omega
      generalize valL (x :: a') 0 = V at *
      have e2 : (10 * V + ((c.toNat : Int) - 48)).toNat = 10 * V.toNat + (c.toNat - 48) := by omega
      rw [e2, dec_big (by omega)]
      have e3 : (10 * V.toNat + (c.toNat - 48)) / 10 = V.toNat := by omega
      have e4 : (10 * V.toNat + (c.toNat - 48)) % 10 = c.toNat - 48 := by omega
      rw [e3, e4, hax, hdc]
theorem num_back {l : List UInt8} (h : numOk (ofL l) = true) : 0 ≤ numV (ofL l) ∧ Lib.decDigits (numV (ofL l)).toNat = l := by
  obtain ⟨h1, h2⟩ := numOk_list h
  obtain ⟨q1, q2, q3, q4⟩ := numBad_list.1 h1
  rw [h2]
  exact ⟨valL_nonneg l 0 q2 (by omega), dec_back _ l rfl q1 q2 q3⟩
/-! the first blank -/
theorem index_split : ∀ (l : List UInt8) (c : UInt8), 0 ≤ Lib.indexByte l c → c ∉ l.take (Lib.indexByte l c).toNat ∧ l = l.take (Lib.indexByte l c).toNat ++ c :: l.drop ((Lib.indexByte l c).toNat + 1) := by
  intro l c
  induction l with
  | nil => intro h; simp [Lib.indexByte] at h
  | cons b l ih =>
    intro h
    unfold Lib.indexByte at h ⊢
    by_cases hb : (b == c) = true
    · rw [if_pos hb] at h ⊢
      have : b = c := by simpa using hb
      subst this
      simp
    · rw [if_neg hb] at h ⊢
      by_cases hn : (Lib.indexByte l c == -1) = true
      · rw [if_pos hn] at h; omega
      · rw [if_neg hn] at h ⊢
        have hr := indexByte_lt l c
        have hnn : Lib.indexByte l c ≠ -1 := by simpa using hn
        obtain ⟨h1, h2⟩ := ih (by omega)
        have e : (Lib.indexByte l c + 1).toNat = (Lib.indexByte l c).toNat + 1 := by omega
        rw [e]
        refine ⟨?_, ?_⟩
        · simp only [List.take_succ_cons, List.mem_cons, not_or]
          exact ⟨fun e => hb (by simp [e]), h1⟩
        · simp only [List.take_succ_cons, List.drop_succ_cons, List.cons_append]
          exact congrArg (b :: ·) h2
theorem index_of : ∀ (a b : List UInt8) (c : UInt8), c ∉ a → Lib.indexByte (a ++ c :: b) c = a.length := by
  intro a b c
  induction a with
  | nil => intro _; simp [Lib.indexByte]
  | cons x a ih =>
    intro h
    simp only [List.mem_cons, not_or] at h
    have := ih h.2
    simp only [List.cons_append, Lib.indexByte]
    rw [if_neg (by simp; exact fun e => h.1 e.symm), this]
    rw [if_neg (by simp)]
    simp
theorem extract_of (l : List UInt8) (i j : Nat) : (ofL l).extract i j = ofL ((l.take j).drop i) := by
  apply ByteArray.ext
  rw [ByteArray.data_extract]
  apply Array.ext'
  simp [ofL, List.extract_eq_take_drop, List.drop_take]
theorem cut_split {l : List UInt8} {c : UInt8} (h : 0 ≤ idx1 (ofL l) c) : ∃ a b, l = a ++ c :: b ∧ c ∉ a ∧ cutA (ofL l) c = ofL a ∧ cutB (ofL l) c = ofL b := by
  have hi : idx1 (ofL l) c = Lib.indexByte l c := rfl
  rw [hi] at h
  obtain ⟨h1, h2⟩ := index_split l c h
  have hlt := (indexByte_lt l c).2
  refine ⟨_, _, h2, h1, ?_, ?_⟩
  · unfold cutA; rw [hi, if_pos h, extract_of]; simp
  · unfold cutB
    rw [hi, if_pos h, extract_of, ofL_size]
    have : (Lib.indexByte l c + 1).toNat = (Lib.indexByte l c).toNat + 1 := by omega
    rw [this, List.take_of_length_le (Nat.le_refl _)]
theorem cut_of {a b : List UInt8} {c : UInt8} (h : c ∉ a) : 0 ≤ idx1 (ofL (a ++ c :: b)) c ∧ cutA (ofL (a ++ c :: b)) c = ofL a ∧ cutB (ofL (a ++ c :: b)) c = ofL b := by
  have hi : idx1 (ofL (a ++ c :: b)) c = a.length := index_of a b c h
  refine ⟨by rw [hi]; omega, ?_, ?_⟩
  · unfold cutA; rw [hi, if_pos (by omega), extract_of]; simp
  · unfold cutB
    rw [hi, if_pos (by omega), extract_of, ofL_size]
    have : ((a.length : Int) + 1).toNat = a.length + 1 := by omega
    rw [this, List.take_of_length_le (Nat.le_refl _)]
    simp
end Go.Gh
