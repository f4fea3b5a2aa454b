/- next: names and numbers, walked. -/
import Derived.Test.YtmkeajeohkdieaaDoorLxK
import Derived.Outline
namespace Go.Proofs.YtmkeajeohkdieaaDoor
open Go.RowKit Lx
set_option linter.unusedSimpArgs false
set_option linter.unusedVariables false

/-- a token, as a value -/
def tokV (t : Tok) : Value := .agg #[.int .i64 t.kind, .string ⟨t.text.toArray⟩, .int .i64 t.n, .int .i64 (t.pos : Nat)]
def NextEnd (W : World) (x : Int × Tok × Nat) (e : Ending) (w' : World) : Prop :=
  e = .returned (.tuple #[tokV x.2.1, .int .i64 (x.2.2 : Nat), .int .i64 x.1]) ∧ Below W.heap.size W w'

theorem bs_upto (s : ByteArray) (k : Nat) : bs (s.extract 0 k) = (bs s).take k := by unfold bs; rw [Lib.extract_data]; simp
theorem take_span {p : UInt8 → Bool} (l : List UInt8) : l.take (l.takeWhile p).length = l.takeWhile p := by
  induction l with
  | nil => rfl
  | cons a l ih =>
    rw [List.takeWhile_cons]
    split
    · rw [List.length_cons, List.take_succ_cons, ih]
    · rfl
theorem str_of_bs (s : ByteArray) : (⟨(bs s).toArray⟩ : ByteArray) = s := by
  unfold bs; simp
theorem upto_span {p : UInt8 → Bool} (s : ByteArray) : s.extract 0 ((bs s).takeWhile p).length = ⟨((bs s).takeWhile p).toArray⟩ := by
  rw [← str_of_bs (s.extract 0 _), bs_upto, take_span]

set_option maxHeartbeats 4000000 in
theorem next_letter (s : ByteArray) (c : UInt8) (r : List UInt8) (w : World) (hs : s.size ≤ 100000) (hb : bs s = c :: r) (hl : letter c = true) :
    Calls Tryd.prog 26 #[.string s] w (NextEnd w (next c r)) := by
  have hlen := bs_len s
  have hpos : 0 < s.size := by rw [← hlen, hb]; simp
  have hc : s[0] = c := by
    have := bs_get s 0 hpos
    rw [hb] at this
    simpa using this.symm
  subst hc
  have hspan := fun w => span_inner s w (by omega)
  have hu := upto_span (p := inner) s
  have hm : ((bs s).takeWhile inner).length ≤ s.size := by rw [← hlen]; exact span_le _ _
  have hn : nameOk ((bs s).takeWhile inner) = decide (((bs s).takeWhile inner).length ≤ 20) := by
    rw [hb, List.takeWhile_cons, if_pos (letter_inner hl)]
    have ha := takeWhile_all inner (s[0] :: r)
    rw [List.takeWhile_cons, if_pos (letter_inner hl)] at ha
    show (letter s[0] && (s[0] :: r.takeWhile inner).all inner && decide ((s[0] :: r.takeWhile inner).length ≤ 20)) = _
    rw [hl, ha]; rfl
  have hx : next s[0] r = if ((bs s).takeWhile inner).length ≤ 20 then (0, ⟨0, (bs s).takeWhile inner, 0, 0⟩, ((bs s).takeWhile inner).length) else (3, ⟨0, [], 0, 0⟩, 0) := by
    unfold next
    rw [if_pos hl, hb]
  rw [hx]
  clear hx hb
  generalize hg : (bs s).takeWhile inner = t at *
  have hname := fun w => name_any (s.extract 0 t.length) w (by rw [← bs_len, bs_upto, List.length_take]; omega)
  have hbt : bs (s.extract 0 t.length) = t := by rw [hu]; rfl
  rw [hbt, hn] at hname
  have hsz : (s.extract 0 t.length).size = t.length := by rw [← bs_len, hbt]
  have HS := Lib.hid hspan
  have HN := Lib.hid hname
  have HU := Lib.hid hu
  have HZ := Lib.hid hsz
  clear hspan hname hu hsz hn hbt hg hlen
  by_cases h20 : t.length ≤ 20
  · rw [decide_eq_true h20] at HN
    rw [if_pos h20]
    go_enter Tryd.func26, Tryd.ntmps26
    go_wp2_with (first | (go_at_call 36; refine (letter_any _ _).mono ?_; rintro e w' ⟨rfl, rfl⟩) | (go_at_call 31; refine (HS.out _).mono ?_; rintro e w' ⟨rfl, rfl⟩) | (go_at_call 22; refine (HN.out _).mono ?_; rintro e w' ⟨rfl, rfl⟩))
    refine bodyPost_ret (v := .tuple #[.agg #[.int .i64 0, .string (s.extract 0 t.length), .int .i64 0, .int .i64 0], .int .i64 t.length, .int .i64 0]) (by simp [results, Tryd.results26, go_sem]) rfl ⟨?_, ?_⟩
    · rw [HU.out]; rfl
    · exact (Below.refl _ _).alloc (Nat.le_refl _) _
  · rw [decide_eq_false h20] at HN
    rw [if_neg h20]
    go_enter Tryd.func26, Tryd.ntmps26
    go_wp2_with (first | (go_at_call 36; refine (letter_any _ _).mono ?_; rintro e w' ⟨rfl, rfl⟩) | (go_at_call 31; refine (HS.out _).mono ?_; rintro e w' ⟨rfl, rfl⟩) | (go_at_call 22; refine (HN.out _).mono ?_; rintro e w' ⟨rfl, rfl⟩))
    refine bodyPost_ret (v := .tuple #[.agg #[.int .i64 0, .string ⟨#[]⟩, .int .i64 0, .int .i64 0], .int .i64 0, .int .i64 3]) (by simp [results, Tryd.results26, go_sem]) rfl ⟨?_, ?_⟩
    · rfl
    · exact (Below.refl _ _).alloc (Nat.le_refl _) _

set_option maxHeartbeats 4000000 in
theorem next_digit (s : ByteArray) (c : UInt8) (r : List UInt8) (w : World) (hs : s.size ≤ 100000) (hb : bs s = c :: r) (hd : digit c = true) :
    Calls Tryd.prog 26 #[.string s] w (NextEnd w (next c r)) := by
  have hl : letter c = false := by
    cases h : letter c with
    | false => rfl
    | true => rw [letter_not_digit h] at hd; cases hd
  have hlen := bs_len s
  have hpos : 0 < s.size := by rw [← hlen, hb]; simp
  have hc : s[0] = c := by
    have := bs_get s 0 hpos
    rw [hb] at this
    simpa using this.symm
  subst hc
  have hspan := fun w => span_digit s w (by omega)
  have hu := upto_span (p := digit) s
  have hm : ((bs s).takeWhile digit).length ≤ s.size := by rw [← hlen]; exact span_le _ _
  have hx : next s[0] r = if numOk ((bs s).takeWhile digit) = true then (0, ⟨1, (bs s).takeWhile digit, val ((bs s).takeWhile digit), 0⟩, ((bs s).takeWhile digit).length) else (3, ⟨0, [], 0, 0⟩, 0) := by
    unfold next
    rw [if_neg (by rw [hl]; decide), if_pos hd, hb]
  rw [hx]
  clear hx hb
  generalize hg : (bs s).takeWhile digit = t at *
  have hnum := fun w => number_any (s.extract 0 t.length) w (by rw [← bs_len, bs_upto, List.length_take]; omega)
  have hbt : bs (s.extract 0 t.length) = t := by rw [hu]; rfl
  rw [hbt] at hnum
  have hsz : (s.extract 0 t.length).size = t.length := by rw [← bs_len, hbt]
  cases hok : numOk t with
  | true =>
    have hv := numV_yes hok
    rw [hok, hv] at hnum
    rw [if_pos rfl]
    have HS := Lib.hid hspan
    have HN := Lib.hid hnum
    have HU := Lib.hid hu
    have HZ := Lib.hid hsz
    clear hspan hnum hu hsz hv hok hbt hg hlen
    generalize hvv : val t = nv at *
    have HVV := Lib.hid hvv
    clear hvv
    go_enter Tryd.func26, Tryd.ntmps26
    go_wp2_with (first | (go_at_call 36; refine (letter_any _ _).mono ?_; rintro e w' ⟨rfl, rfl⟩) | (go_at_call 32; refine (digit_any _ _).mono ?_; rintro e w' ⟨rfl, rfl⟩) | (go_at_call 31; refine (HS.out _).mono ?_; rintro e w' ⟨rfl, rfl⟩) | (go_at_call 17; refine (HN.out _).mono ?_; rintro e w' ⟨rfl, rfl⟩))
    refine bodyPost_ret (v := .tuple #[.agg #[.int .i64 1, .string (s.extract 0 t.length), .int .i64 (nv : Nat), .int .i64 0], .int .i64 t.length, .int .i64 0]) (by simp [results, Tryd.results26, go_sem]) rfl ⟨?_, ?_⟩
    · rw [HU.out]; rfl
    · exact (Below.refl _ _).alloc (Nat.le_refl _) _
  | false =>
    have hv := numV_no hok
    rw [hok, hv] at hnum
    rw [if_neg (by decide)]
    have HS := Lib.hid hspan
    have HN := Lib.hid hnum
    have HU := Lib.hid hu
    have HZ := Lib.hid hsz
    clear hspan hnum hu hsz hv hok hbt hg hlen
    go_enter Tryd.func26, Tryd.ntmps26
    go_wp2_with (first | (go_at_call 36; refine (letter_any _ _).mono ?_; rintro e w' ⟨rfl, rfl⟩) | (go_at_call 32; refine (digit_any _ _).mono ?_; rintro e w' ⟨rfl, rfl⟩) | (go_at_call 31; refine (HS.out _).mono ?_; rintro e w' ⟨rfl, rfl⟩) | (go_at_call 17; refine (HN.out _).mono ?_; rintro e w' ⟨rfl, rfl⟩))
    refine bodyPost_ret (v := .tuple #[.agg #[.int .i64 0, .string ⟨#[]⟩, .int .i64 0, .int .i64 0], .int .i64 0, .int .i64 3]) (by simp [results, Tryd.results26, go_sem]) rfl ⟨?_, ?_⟩
    · rfl
    · exact (Below.refl _ _).alloc (Nat.le_refl _) _

/-- what is known of a box of four cells behind a call that has left it as it was -/
theorem box4 {w w1 : World} {a b c d : Value} {T : TypeId} (h : Below (w.alloc (.cells #[a, b, c, d] T)).heap.size (w.alloc (.cells #[a, b, c, d] T)) w1) :
    (w1.cell? ⟨w.heap.size, 0, none⟩ = some a ∧ w1.cell? ⟨w.heap.size, 1, none⟩ = some b ∧ w1.cell? ⟨w.heap.size, 2, none⟩ = some c ∧ w1.cell? ⟨w.heap.size, 3, none⟩ = some d) ∧
    (w1.frozen? ⟨w.heap.size, 0, none⟩ = false ∧ w1.frozen? ⟨w.heap.size, 1, none⟩ = false ∧ w1.frozen? ⟨w.heap.size, 2, none⟩ = false ∧ w1.frozen? ⟨w.heap.size, 3, none⟩ = false) ∧ w.heap.size < w1.heap.size ∧ Below w.heap.size w w1 := by
  have hs := h.size
  simp at hs
  have hlt : w.heap.size < (w.alloc (.cells #[a, b, c, d] T)).heap.size := by simp
  refine ⟨⟨?_, ?_, ?_, ?_⟩, ⟨?_, ?_, ?_, ?_⟩, by omega, ((Below.refl w.heap.size w).alloc (Nat.le_refl _) _).trans (h.mono (by simp))⟩
  · rw [h.cell (p := ⟨w.heap.size, 0, none⟩) hlt]; simp
  · rw [h.cell (p := ⟨w.heap.size, 1, none⟩) hlt]; simp
  · rw [h.cell (p := ⟨w.heap.size, 2, none⟩) hlt]; simp
  · rw [h.cell (p := ⟨w.heap.size, 3, none⟩) hlt]; simp
  · rw [h.frozen (p := ⟨w.heap.size, 0, none⟩) hlt]; simp
  · rw [h.frozen (p := ⟨w.heap.size, 1, none⟩) hlt]; simp
  · rw [h.frozen (p := ⟨w.heap.size, 2, none⟩) hlt]; simp
  · rw [h.frozen (p := ⟨w.heap.size, 3, none⟩) hlt]; simp

theorem next_quote_eq {c : UInt8} {r : List UInt8} (h : c = 34) : next c r = if quoN (c :: r) = 0 then (21, ⟨0, [], 0, 0⟩, 0) else (0, ⟨2, quoV (c :: r), 0, 0⟩, quoN (c :: r)) := by
  subst h
  unfold next quoN quoV
  rw [if_neg (by decide), if_neg (by decide), if_pos (by decide), List.drop_succ_cons, List.drop_zero]
  cases hu : unq r with
  | none => rfl
  | some q =>
    obtain ⟨v, n⟩ := q
    simp only
    split
    · rw [if_neg (by omega)]
    · rfl
theorem quoN_le (l : List UInt8) : quoN l ≤ l.length + 1 := by
  unfold quoN
  cases hu : unq (l.drop 1) with
  | none => simp
  | some q =>
    obtain ⟨v, n⟩ := q
    have := (unq_len _ _ (Nat.le_refl _) v n hu).2.1
    simp at this
    simp only
    split <;> omega

set_option maxHeartbeats 4000000 in
theorem next_quote (s : ByteArray) (c : UInt8) (r : List UInt8) (w : World) (hs : s.size ≤ 100000) (hb : bs s = c :: r) (hq : c = 34) :
    Calls Tryd.prog 26 #[.string s] w (NextEnd w (next c r)) := by
  have hl : letter c = false := by subst hq; decide
  have hd : digit c = false := by subst hq; decide
  have hlen := bs_len s
  have hpos : 0 < s.size := by rw [← hlen, hb]; simp
  have hc : s[0] = c := by
    have := bs_get s 0 hpos
    rw [hb] at this
    simpa using this.symm
  subst hc
  have hquo := fun w => quoted_any s w hs hpos
  have hx := next_quote_eq (r := r) hq
  have hle := quoN_le (s[0] :: r)
  have hb34 : ((s[0].toNat : Int) == 34) = true := by rw [is_byte s[0] 34 34 rfl, hq]; rfl
  rw [← hb] at hx hle
  rw [hx]
  unfold QuoEnd at hquo
  rw [hlen] at hle
  clear hx hb hlen hq
  generalize quoN (bs s) = m at *
  generalize quoV (bs s) = t at *
  have HQ := Lib.hid hquo
  clear hquo
  by_cases hm : m = 0
  · subst hm
    rw [if_pos rfl]
    go_enter Tryd.func26, Tryd.ntmps26
    go_wp2_with (first | (go_at_call 36; refine (letter_any _ _).mono ?_; rintro e w' ⟨rfl, rfl⟩) | (go_at_call 32; refine (digit_any _ _).mono ?_; rintro e w' ⟨rfl, rfl⟩))
    refine (HQ.out _).mono ?_
    rintro e w1 ⟨rfl, hb⟩
    obtain ⟨⟨c0, c1, c2, c3⟩, ⟨f0, f1, f2, f3⟩, hz, hbel⟩ := box4 hb
    have HBL := Lib.hid hbel
    clear hb hbel
    go_wp2
    refine bodyPost_ret (v := .tuple #[.agg #[.int .i64 0, .string ⟨#[]⟩, .int .i64 0, .int .i64 0], .int .i64 0, .int .i64 21]) (by simp [results, Tryd.results26, go_sem, c0, c1, c2, c3, hz]) rfl ⟨?_, ?_⟩
    · rfl
    · exact (((HBL.out.setCell (Nat.le_refl _) _).setCell (Nat.le_refl _) _).setCell (Nat.le_refl _) _).setCell (Nat.le_refl _) _
  · rw [if_neg hm]
    have hm' : ((m : Int) == 0) = false := by simp; omega
    go_enter Tryd.func26, Tryd.ntmps26
    go_wp2_with (first | (go_at_call 36; refine (letter_any _ _).mono ?_; rintro e w' ⟨rfl, rfl⟩) | (go_at_call 32; refine (digit_any _ _).mono ?_; rintro e w' ⟨rfl, rfl⟩))
    refine (HQ.out _).mono ?_
    rintro e w1 ⟨rfl, hb⟩
    obtain ⟨⟨c0, c1, c2, c3⟩, ⟨f0, f1, f2, f3⟩, hz, hbel⟩ := box4 hb
    have HBL := Lib.hid hbel
    clear hb hbel
    go_wp2
    refine bodyPost_ret (v := .tuple #[.agg #[.int .i64 2, .string ⟨t.toArray⟩, .int .i64 0, .int .i64 0], .int .i64 m, .int .i64 0]) (by simp [results, Tryd.results26, go_sem, c0, c1, c2, c3, hz]) rfl ⟨?_, ?_⟩
    · rfl
    · exact (((HBL.out.setCell (Nat.le_refl _) _).setCell (Nat.le_refl _) _).setCell (Nat.le_refl _) _).setCell (Nat.le_refl _) _

end Go.Proofs.YtmkeajeohkdieaaDoor
