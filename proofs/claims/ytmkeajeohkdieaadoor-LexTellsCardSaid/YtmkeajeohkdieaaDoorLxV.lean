/- The reference's token: names and numbers. -/
import Derived.Test.YtmkeajeohkdieaaDoorLxU
import Derived.Outline
namespace Go.Proofs.YtmkeajeohkdieaaDoor
open Go.RowKit Lx
set_option linter.unusedSimpArgs false
set_option linter.unusedVariables false

/-- the token at an offset: its place, the offset behind it -/
def nextAt (x : Int × Tok × Nat) (a : Nat) : Int × Tok × Nat := if x.1 = 0 then (0, x.2.1.place a, a + x.2.2) else (x.1, ⟨0, [], 0, 0⟩, 0)
def TokEnd (W : World) (y : Int × Tok × Nat) (e : Ending) (w' : World) : Prop := NextEnd W y e w'

/-- the bytes from a to n are of the kind -/
def SpanTo (p : UInt8 → Bool) (l : List UInt8) (a n : Nat) : Prop := a ≤ n ∧ n - a ≤ ((l.drop a).takeWhile p).length
theorem spanTo_start {p : UInt8 → Bool} {l : List UInt8} {a : Nat} {c : UInt8} {r : List UInt8} (h : l.drop a = c :: r) (hp : p c = true) : SpanTo p l a (a + 1) := by
  refine ⟨by omega, ?_⟩
  rw [h, show a + 1 - a = 1 by omega]
  exact takeWhile_pos hp
theorem spanTo_next {p : UInt8 → Bool} {l : List UInt8} {a n : Nat} {c : UInt8} (h : SpanTo p l a n) (hc : l[n]? = some c) (hp : p c = true) : SpanTo p l a (n + 1) := by
  obtain ⟨h1, h2⟩ := h
  refine ⟨by omega, ?_⟩
  rw [show n + 1 - a = n - a + 1 by omega]
  exact span_next h2 (by rw [List.getElem?_drop, show a + (n - a) = n by omega]; exact hc) hp
theorem spanTo_stop {p : UInt8 → Bool} {l : List UInt8} {a n : Nat} {c : UInt8} (h : SpanTo p l a n) (hc : l[n]? = some c) (hp : p c = false) : ((l.drop a).takeWhile p).length = n - a :=
  span_stop h.2 (by rw [List.getElem?_drop]; rw [show a + (n - a) = n by have := h.1; omega]; exact hc) hp
theorem spanTo_out {p : UInt8 → Bool} {l : List UInt8} {a n : Nat} (h : SpanTo p l a n) (hn : l.length ≤ n) : ((l.drop a).takeWhile p).length = n - a := by
  have h1 := span_le p (l.drop a)
  rw [List.length_drop] at h1
  have := h.2; omega
/-- the token's text -/
theorem span_text {p : UInt8 → Bool} {s : ByteArray} {a n : Nat} (h : (((bs s).drop a).takeWhile p).length = n - a) : s.extract a n = ⟨(((bs s).drop a).takeWhile p).toArray⟩ := by
  apply bs_inj
  rw [bs_cut, ← h, take_span]; rfl

theorem tok_good {W w' : World} {q : ByteArray} {t : List UInt8} {x : Int × Tok × Nat} {a n : Nat} {k v : Int} (hx : x = (0, ⟨k, t, v, 0⟩, n - a)) (han : a ≤ n) (hq : q = ⟨t.toArray⟩) (hb : Below W.heap.size W w') :
    TokEnd W (nextAt x a) (.returned (.tuple #[.agg #[.int .i64 k, .string q, .int .i64 v, .int .i64 a], .int .i64 n, .int .i64 0])) w' := by
  subst hx; subst hq
  refine ⟨?_, hb⟩
  unfold nextAt
  rw [if_pos rfl]
  show _ = Ending.returned (.tuple #[.agg #[.int .i64 k, .string ⟨_⟩, .int .i64 v, .int .i64 (a : Nat)], .int .i64 ((a + (n - a) : Nat) : Int), .int .i64 0])
  rw [show a + (n - a) = n by omega]
  rfl
theorem tok_bad {W w' : World} {x : Int × Tok × Nat} {a : Nat} {k : Int} (hx : x = (k, ⟨0, [], 0, 0⟩, 0)) (hk : k ≠ 0) (hb : Below W.heap.size W w') :
    TokEnd W (nextAt x a) (.returned (.tuple #[.agg #[.int .i64 0, .string ⟨#[]⟩, .int .i64 0, .int .i64 0], .int .i64 0, .int .i64 k])) w' := by
  subst hx
  refine ⟨?_, hb⟩
  unfold nextAt
  rw [if_neg hk]; rfl

set_option maxHeartbeats 8000000 in
theorem refToken_letter (s : ByteArray) (a : Nat) (c : UInt8) (r : List UInt8) (w : World) (hs : s.size ≤ 100000) (ha : a < s.size) (hb : (bs s).drop a = c :: r) (hl : letter c = true) :
    Calls Tryd.prog 30 #[.string s, .int .i64 a] w (TokEnd w (nextAt (next c r) a)) := by
  have hg := bs_get s a ha
  have hc : s[a] = c := by
    have := drop_at hg
    rw [hb] at this; injection this with h1 _; exact h1.symm
  subst hc
  have HL := Lib.hid (bs_len s)
  have hst := spanTo_start (p := inner) hb (letter_inner hl)
  have hx : next s[a] r = if (((bs s).drop a).takeWhile inner).length ≤ 20 then (0, ⟨0, ((bs s).drop a).takeWhile inner, 0, 0⟩, (((bs s).drop a).takeWhile inner).length) else (3, ⟨0, [], 0, 0⟩, 0) := by
    unfold next
    rw [if_pos hl, hb]
  have hn : nameOk (((bs s).drop a).takeWhile inner) = decide ((((bs s).drop a).takeWhile inner).length ≤ 20) := by
    rw [hb, List.takeWhile_cons, if_pos (letter_inner hl)]
    have ha := takeWhile_all inner (s[a] :: r)
    rw [List.takeWhile_cons, if_pos (letter_inner hl)] at ha
    show (letter s[a] && (s[a] :: r.takeWhile inner).all inner && decide ((s[a] :: r.takeWhile inner).length ≤ 20)) = _
    rw [hl, ha]; rfl
  generalize next s[a] r = x at *
  have hname : ∀ n, (((bs s).drop a).takeWhile inner).length = n - a → n ≤ s.size → ∀ wx, Calls Tryd.prog 23 #[.string (s.extract a n)] wx fun e w' => e = .returned (.bool (decide (n - a ≤ 20))) ∧ wx = w' := by
    intro n h hns wx
    have := refName_any (s.extract a n) wx (by rw [← bs_len, bs_cut, List.length_take, List.length_drop, HL.out]; omega)
    have e1 : bs (s.extract a n) = ((bs s).drop a).takeWhile inner := by rw [span_text h]; rfl
    rw [e1, hn, h] at this
    exact this
  have htext := fun n => span_text (p := inner) (s := s) (a := a) (n := n)
  have HX := Lib.hid hx
  have HNAME := Lib.hid hname
  have HT := Lib.hid htext
  have HST := Lib.hid hst
  clear hx hn hname htext hst hg hb
  go_enter Tryd.func30, Tryd.ntmps30
  go_wp2_with (go_at_call 38; refine (rletter_any _ _).mono ?_; rintro e w' ⟨rfl, rfl⟩)
  go_loop [7] (fun i => ∃ n : Nat, i = .int .i64 n ∧ n ≤ s.size ∧ a + 1 ≤ n ∧ Hid (SpanTo inner (bs s) a n)) (fun i => s.size - (intOf i).toNat)
  case atStart => exact ⟨a + 1, by go_num, by omega, by omega, HST.out⟩
  case round =>
    obtain ⟨n, rfl, hn, han, HA⟩ := hrel
    by_cases hlt : n < s.size
    · have hg := bs_get s n hlt
      have HNX := Lib.hid (fun h => spanTo_next (p := inner) HA.out hg h)
      have HSP := Lib.hid (fun h => spanTo_stop (p := inner) HA.out hg h)
      have h95 : (s[n] == 95) = ((s[n].toNat : Int) == 95) := (is_byte s[n] 95 95 rfl).symm
      have hi : inner s[n] = (letter s[n] || digit s[n] || ((s[n].toNat : Int) == 95)) := by rw [← h95]; rfl
      have HIN := Lib.hid hi
      clear hg h95 hi
      cases hl1 : letter s[n] with
      | true =>
        rw [hl1] at HIN
        go_wp2_with (first | (go_at_call 38; refine (rletter_any _ _).mono ?_; rintro e w' ⟨rfl, rfl⟩) | (go_at_call 33; refine (rdigit_any _ _).mono ?_; rintro e w' ⟨rfl, rfl⟩))
        go_round
        case rel => exact ⟨n + 1, by go_num, by omega, by omega, HNX.out (by rw [HIN.out]; rfl)⟩
        case measure => simp [intOf]; omega
      | false =>
        cases hd1 : digit s[n] with
        | true =>
          rw [hl1, hd1] at HIN
          go_wp2_with (first | (go_at_call 38; refine (rletter_any _ _).mono ?_; rintro e w' ⟨rfl, rfl⟩) | (go_at_call 33; refine (rdigit_any _ _).mono ?_; rintro e w' ⟨rfl, rfl⟩))
          go_round
          case rel => exact ⟨n + 1, by go_num, by omega, by omega, HNX.out (by rw [HIN.out]; rfl)⟩
          case measure => simp [intOf]; omega
        | false =>
          cases h9 : ((s[n].toNat : Int) == 95) with
          | true =>
            rw [hl1, hd1, h9] at HIN
            go_wp2_with (first | (go_at_call 38; refine (rletter_any _ _).mono ?_; rintro e w' ⟨rfl, rfl⟩) | (go_at_call 33; refine (rdigit_any _ _).mono ?_; rintro e w' ⟨rfl, rfl⟩))
            go_round
            case rel => exact ⟨n + 1, by go_num, by omega, by omega, HNX.out (by rw [HIN.out]; rfl)⟩
            case measure => simp [intOf]; omega
          | false =>
            rw [hl1, hd1, h9] at HIN
            have hlen := HSP.out (by rw [HIN.out]; rfl)
            have hnm := HNAME.out n hlen hn
            have hxx := HX.out
            rw [hlen] at hxx
            have htt := HT.out n hlen
            have HTT := Lib.hid htt
            clear hlen htt
            by_cases h20 : n - a ≤ 20
            · rw [decide_eq_true h20] at hnm
              rw [if_pos h20] at hxx
              have HNM := Lib.hid hnm
              have HXX := Lib.hid hxx
              clear hnm hxx
              go_wp2_with (first | (go_at_call 38; refine (rletter_any _ _).mono ?_; rintro e w' ⟨rfl, rfl⟩) | (go_at_call 33; refine (rdigit_any _ _).mono ?_; rintro e w' ⟨rfl, rfl⟩) | (go_at_call 23; refine (HNM.out _).mono ?_; rintro e w' ⟨rfl, rfl⟩))
              exact bodyPost_ret (v := .tuple #[.agg #[.int .i64 0, .string (s.extract a n), .int .i64 0, .int .i64 a], .int .i64 n, .int .i64 0]) (by simp [results, Tryd.results30, go_sem]) rfl (tok_good HXX.out (by omega) HTT.out ((Below.refl _ _).alloc (Nat.le_refl _) _))
            · rw [decide_eq_false h20] at hnm
              rw [if_neg h20] at hxx
              have HNM := Lib.hid hnm
              have HXX := Lib.hid hxx
              clear hnm hxx
              go_wp2_with (first | (go_at_call 38; refine (rletter_any _ _).mono ?_; rintro e w' ⟨rfl, rfl⟩) | (go_at_call 33; refine (rdigit_any _ _).mono ?_; rintro e w' ⟨rfl, rfl⟩) | (go_at_call 23; refine (HNM.out _).mono ?_; rintro e w' ⟨rfl, rfl⟩))
              exact bodyPost_ret (v := .tuple #[.agg #[.int .i64 0, .string ⟨#[]⟩, .int .i64 0, .int .i64 0], .int .i64 0, .int .i64 3]) (by simp [results, Tryd.results30, go_sem]) rfl (tok_bad HXX.out (by decide) ((Below.refl _ _).alloc (Nat.le_refl _) _))
    · obtain rfl : n = s.size := by omega
      have hlen := spanTo_out HA.out (by rw [HL.out]; exact Nat.le_refl _)
      have hnm := HNAME.out s.size hlen (Nat.le_refl _)
      have hxx := HX.out
      rw [hlen] at hxx
      have htt := HT.out s.size hlen
      have HTT := Lib.hid htt
      clear hlen htt
      by_cases h20 : s.size - a ≤ 20
      · rw [decide_eq_true h20] at hnm
        rw [if_pos h20] at hxx
        have HNM := Lib.hid hnm
        have HXX := Lib.hid hxx
        clear hnm hxx
        go_wp2_with (first | (go_at_call 38; refine (rletter_any _ _).mono ?_; rintro e w' ⟨rfl, rfl⟩) | (go_at_call 33; refine (rdigit_any _ _).mono ?_; rintro e w' ⟨rfl, rfl⟩) | (go_at_call 23; refine (HNM.out _).mono ?_; rintro e w' ⟨rfl, rfl⟩))
        exact bodyPost_ret (v := .tuple #[.agg #[.int .i64 0, .string (s.extract a s.size), .int .i64 0, .int .i64 a], .int .i64 s.size, .int .i64 0]) (by simp [results, Tryd.results30, go_sem]) rfl (tok_good HXX.out (by omega) HTT.out ((Below.refl _ _).alloc (Nat.le_refl _) _))
      · rw [decide_eq_false h20] at hnm
        rw [if_neg h20] at hxx
        have HNM := Lib.hid hnm
        have HXX := Lib.hid hxx
        clear hnm hxx
        go_wp2_with (first | (go_at_call 38; refine (rletter_any _ _).mono ?_; rintro e w' ⟨rfl, rfl⟩) | (go_at_call 33; refine (rdigit_any _ _).mono ?_; rintro e w' ⟨rfl, rfl⟩) | (go_at_call 23; refine (HNM.out _).mono ?_; rintro e w' ⟨rfl, rfl⟩))
        exact bodyPost_ret (v := .tuple #[.agg #[.int .i64 0, .string ⟨#[]⟩, .int .i64 0, .int .i64 0], .int .i64 0, .int .i64 3]) (by simp [results, Tryd.results30, go_sem]) rfl (tok_bad HXX.out (by decide) ((Below.refl _ _).alloc (Nat.le_refl _) _))

set_option maxHeartbeats 8000000 in
theorem refToken_digit (s : ByteArray) (a : Nat) (c : UInt8) (r : List UInt8) (w : World) (hs : s.size ≤ 100000) (ha : a < s.size) (hb : (bs s).drop a = c :: r) (hd : digit c = true) :
    Calls Tryd.prog 30 #[.string s, .int .i64 a] w (TokEnd w (nextAt (next c r) a)) := by
  have hl : letter c = false := by
    cases h : letter c with
    | false => rfl
    | true => rw [letter_not_digit h] at hd; cases hd
  have hg := bs_get s a ha
  have hc : s[a] = c := by
    have := drop_at hg
    rw [hb] at this; injection this with h1 _; exact h1.symm
  subst hc
  have HL := Lib.hid (bs_len s)
  have hst := spanTo_start (p := digit) hb hd
  have hx : next s[a] r = if numOk (((bs s).drop a).takeWhile digit) = true then (0, ⟨1, ((bs s).drop a).takeWhile digit, val (((bs s).drop a).takeWhile digit), 0⟩, (((bs s).drop a).takeWhile digit).length) else (3, ⟨0, [], 0, 0⟩, 0) := by
    unfold next
    rw [if_neg (by rw [hl]; decide), if_pos hd, hb]
  generalize next s[a] r = x at *
  have hnum : ∀ n, (((bs s).drop a).takeWhile digit).length = n - a → n ≤ s.size → ∀ wx, Calls Tryd.prog 18 #[.string (s.extract a n)] wx fun e w' => e = .returned (.tuple #[.int .i64 (numV (((bs s).drop a).takeWhile digit)), .bool (numOk (((bs s).drop a).takeWhile digit))]) ∧ wx = w' := by
    intro n h hns wx
    have := refNumber_any (s.extract a n) wx (by rw [← bs_len, bs_cut, List.length_take, List.length_drop, HL.out]; omega)
    have e1 : bs (s.extract a n) = ((bs s).drop a).takeWhile digit := by rw [span_text h]; rfl
    rw [e1] at this
    exact this
  have htext := fun n => span_text (p := digit) (s := s) (a := a) (n := n)
  have HX := Lib.hid hx
  have HNUM := Lib.hid hnum
  have HT := Lib.hid htext
  have HST := Lib.hid hst
  clear hx hnum htext hst hg hb
  go_enter Tryd.func30, Tryd.ntmps30
  go_wp2_with (first | (go_at_call 38; refine (rletter_any _ _).mono ?_; rintro e w' ⟨rfl, rfl⟩) | (go_at_call 33; refine (rdigit_any _ _).mono ?_; rintro e w' ⟨rfl, rfl⟩))
  go_loop [7] (fun i => ∃ n : Nat, i = .int .i64 n ∧ n ≤ s.size ∧ a + 1 ≤ n ∧ Hid (SpanTo digit (bs s) a n)) (fun i => s.size - (intOf i).toNat)
  case atStart => exact ⟨a + 1, by go_num, by omega, by omega, HST.out⟩
  case round =>
    obtain ⟨n, rfl, hn, han, HA⟩ := hrel
    by_cases hlt : n < s.size
    · have hg := bs_get s n hlt
      have HNX := Lib.hid (fun h => spanTo_next (p := digit) HA.out hg h)
      have HSP := Lib.hid (fun h => spanTo_stop (p := digit) HA.out hg h)
      clear hg
      cases hd1 : digit s[n] with
      | true =>
        go_wp2_with (go_at_call 33; refine (rdigit_any _ _).mono ?_; rintro e w' ⟨rfl, rfl⟩)
        go_round
        case rel => exact ⟨n + 1, by go_num, by omega, by omega, HNX.out hd1⟩
        case measure => simp [intOf]; omega
      | false =>
        have hlen := HSP.out hd1
        have hnm := HNUM.out n hlen hn
        have hxx := HX.out
        rw [hlen] at hxx
        have htt := HT.out n hlen
        have HTT := Lib.hid htt
        clear hlen htt
        cases hok : numOk (((bs s).drop a).takeWhile digit) with
        | true =>
          rw [numV_yes hok, hok] at hnm
          rw [if_pos hok] at hxx
          generalize hvv : val (((bs s).drop a).takeWhile digit) = nv at *
          have HNM := Lib.hid hnm
          have HXX := Lib.hid hxx
          clear hnm hxx hok hvv
          go_wp2_with (first | (go_at_call 33; refine (rdigit_any _ _).mono ?_; rintro e w' ⟨rfl, rfl⟩) | (go_at_call 18; refine (HNM.out _).mono ?_; rintro e w' ⟨rfl, rfl⟩))
          exact bodyPost_ret (v := .tuple #[.agg #[.int .i64 1, .string (s.extract a n), .int .i64 (nv : Nat), .int .i64 a], .int .i64 n, .int .i64 0]) (by simp [results, Tryd.results30, go_sem]) rfl (tok_good HXX.out (by omega) HTT.out ((Below.refl _ _).alloc (Nat.le_refl _) _))
        | false =>
          rw [numV_no hok, hok] at hnm
          rw [if_neg (by rw [hok]; decide)] at hxx
          have HNM := Lib.hid hnm
          have HXX := Lib.hid hxx
          clear hnm hxx hok
          go_wp2_with (first | (go_at_call 33; refine (rdigit_any _ _).mono ?_; rintro e w' ⟨rfl, rfl⟩) | (go_at_call 18; refine (HNM.out _).mono ?_; rintro e w' ⟨rfl, rfl⟩))
          exact bodyPost_ret (v := .tuple #[.agg #[.int .i64 0, .string ⟨#[]⟩, .int .i64 0, .int .i64 0], .int .i64 0, .int .i64 3]) (by simp [results, Tryd.results30, go_sem]) rfl (tok_bad HXX.out (by decide) ((Below.refl _ _).alloc (Nat.le_refl _) _))
    · obtain rfl : n = s.size := by omega
      have hlen := spanTo_out HA.out (by rw [HL.out]; exact Nat.le_refl _)
      have hnm := HNUM.out s.size hlen (Nat.le_refl _)
      have hxx := HX.out
      rw [hlen] at hxx
      have htt := HT.out s.size hlen
      have HTT := Lib.hid htt
      clear hlen htt
      cases hok : numOk (((bs s).drop a).takeWhile digit) with
      | true =>
        rw [numV_yes hok, hok] at hnm
        rw [if_pos hok] at hxx
        generalize hvv : val (((bs s).drop a).takeWhile digit) = nv at *
        have HNM := Lib.hid hnm
        have HXX := Lib.hid hxx
        clear hnm hxx hok hvv
        go_wp2_with (first | (go_at_call 33; refine (rdigit_any _ _).mono ?_; rintro e w' ⟨rfl, rfl⟩) | (go_at_call 18; refine (HNM.out _).mono ?_; rintro e w' ⟨rfl, rfl⟩))
        exact bodyPost_ret (v := .tuple #[.agg #[.int .i64 1, .string (s.extract a s.size), .int .i64 (nv : Nat), .int .i64 a], .int .i64 s.size, .int .i64 0]) (by simp [results, Tryd.results30, go_sem]) rfl (tok_good HXX.out (by omega) HTT.out ((Below.refl _ _).alloc (Nat.le_refl _) _))
      | false =>
        rw [numV_no hok, hok] at hnm
        rw [if_neg (by rw [hok]; decide)] at hxx
        have HNM := Lib.hid hnm
        have HXX := Lib.hid hxx
        clear hnm hxx hok
        go_wp2_with (first | (go_at_call 33; refine (rdigit_any _ _).mono ?_; rintro e w' ⟨rfl, rfl⟩) | (go_at_call 18; refine (HNM.out _).mono ?_; rintro e w' ⟨rfl, rfl⟩))
        exact bodyPost_ret (v := .tuple #[.agg #[.int .i64 0, .string ⟨#[]⟩, .int .i64 0, .int .i64 0], .int .i64 0, .int .i64 3]) (by simp [results, Tryd.results30, go_sem]) rfl (tok_bad HXX.out (by decide) ((Below.refl _ _).alloc (Nat.le_refl _) _))

theorem next_quote_at {l : List UInt8} {a : Nat} {r : List UInt8} (h : l.drop a = 34 :: r) :
    nextAt (next 34 r) a = if rqOk l a = true then (0, ⟨2, rqV l a, 0, a⟩, rqN l a) else (21, ⟨0, [], 0, 0⟩, 0) := by
  have hd : l.drop (a + 1) = r := by
    have : l.drop (a + 1) = (l.drop a).drop 1 := by rw [List.drop_drop]
    rw [this, h]; rfl
  unfold next rqOk rqV rqN
  rw [if_neg (by decide), if_neg (by decide), if_pos (by decide), unq_eq _ r (Nat.le_refl _), hd]
  cases hu : unqR r with
  | none => rfl
  | some q =>
    obtain ⟨v, n⟩ := q
    simp only [Option.bind_some, okP]
    cases hp : v.all plain with
    | true =>
      rw [if_pos rfl]
      simp only
      by_cases h4 : v.length ≤ 400
      · have hv : valueOk v = true := by unfold valueOk; rw [hp, decide_eq_true h4]; rfl
        rw [if_pos h4, hv]
        simp only [if_true]
        unfold nextAt
        rw [if_pos rfl]
        simp only [Tok.place]
        rw [show a + (n + 1) = a + 1 + n by omega]
      · have hv : valueOk v = false := by unfold valueOk; rw [hp, decide_eq_false h4]; rfl
        rw [if_neg h4, hv]; rfl
    | false =>
      have hv : valueOk v = false := by unfold valueOk; rw [hp]; rfl
      rw [if_neg (by decide), hv]; rfl

set_option maxHeartbeats 8000000 in
theorem refToken_quote (s : ByteArray) (a : Nat) (c : UInt8) (r : List UInt8) (w : World) (hs : s.size ≤ 100000) (ha : a < s.size) (hb : (bs s).drop a = c :: r) (hq : c = 34) :
    Calls Tryd.prog 30 #[.string s, .int .i64 a] w (TokEnd w (nextAt (next c r) a)) := by
  have hl : letter c = false := by subst hq; decide
  have hd : digit c = false := by subst hq; decide
  have hg := bs_get s a ha
  have hc : s[a] = c := by
    have := drop_at hg
    rw [hb] at this; injection this with h1 _; exact h1.symm
  have hx : nextAt (next c r) a = if rqOk (bs s) a = true then (0, ⟨2, rqV (bs s) a, 0, a⟩, rqN (bs s) a) else (21, ⟨0, [], 0, 0⟩, 0) := by
    rw [hq] at hb ⊢
    exact next_quote_at hb
  subst hc
  have b34 : ((s[a].toNat : Int) == 34) = true := by rw [is_byte s[a] 34 34 rfl, hq]; rfl
  have hquo := fun wx => refQuoted_any s a wx hs ha
  unfold RqEnd at hquo
  generalize nextAt (next s[a] r) a = x at *
  generalize rqN (bs s) a = m at *
  generalize rqV (bs s) a = t at *
  cases hok : rqOk (bs s) a with
  | true =>
    rw [hok] at hquo hx
    rw [if_pos rfl] at hx
    have HQ := Lib.hid hquo
    have HX := Lib.hid hx
    clear hquo hx hg hb hq hok
    go_enter Tryd.func30, Tryd.ntmps30
    go_wp2_with (first | (go_at_call 38; refine (rletter_any _ _).mono ?_; rintro e w' ⟨rfl, rfl⟩) | (go_at_call 33; refine (rdigit_any _ _).mono ?_; rintro e w' ⟨rfl, rfl⟩) | (go_at_call 45; refine (HQ.out _).mono ?_; rintro e w' ⟨rfl, rfl⟩))
    exact bodyPost_ret (v := .tuple #[.agg #[.int .i64 2, .string ⟨t.toArray⟩, .int .i64 0, .int .i64 a], .int .i64 m, .int .i64 0]) (by simp [results, Tryd.results30, go_sem]) rfl ⟨by rw [HX.out]; rfl, (Below.refl _ _).alloc (Nat.le_refl _) _⟩
  | false =>
    rw [hok] at hquo hx
    rw [if_neg (by decide)] at hx
    have HQ := Lib.hid hquo
    have HX := Lib.hid hx
    clear hquo hx hg hb hq hok
    go_enter Tryd.func30, Tryd.ntmps30
    go_wp2_with (first | (go_at_call 38; refine (rletter_any _ _).mono ?_; rintro e w' ⟨rfl, rfl⟩) | (go_at_call 33; refine (rdigit_any _ _).mono ?_; rintro e w' ⟨rfl, rfl⟩) | (go_at_call 45; refine (HQ.out _).mono ?_; rintro e w' ⟨rfl, rfl⟩))
    exact bodyPost_ret (v := .tuple #[.agg #[.int .i64 0, .string ⟨#[]⟩, .int .i64 0, .int .i64 0], .int .i64 0, .int .i64 21]) (by simp [results, Tryd.results30, go_sem]) rfl ⟨by rw [HX.out]; rfl, (Below.refl _ _).alloc (Nat.le_refl _) _⟩

set_option maxHeartbeats 8000000 in
theorem refToken_other (s : ByteArray) (a : Nat) (c : UInt8) (r : List UInt8) (w : World) (hs : s.size ≤ 100000) (ha : a < s.size) (hb : (bs s).drop a = c :: r) (hl : letter c = false) (hd : digit c = false) (hq : ¬ c = 34) :
    Calls Tryd.prog 30 #[.string s, .int .i64 a] w (TokEnd w (nextAt (next c r) a)) := by
  have hg := bs_get s a ha
  have hc : s[a] = c := by
    have := drop_at hg
    rw [hb] at this; injection this with h1 _; exact h1.symm
  subst hc
  have hx : next s[a] r = if sign s[a] then (0, ⟨3, [s[a]], 0, 0⟩, 1) else (20, ⟨0, [], 0, 0⟩, 0) := by
    unfold next
    rw [if_neg (by rw [hl]; decide), if_neg (by rw [hd]; decide), if_neg (by simpa using hq)]
  have b34 : ((s[a].toNat : Int) == 34) = false := by rw [is_byte s[a] 34 34 rfl]; simpa using hq
  have ho := bs_one s a ha
  generalize next s[a] r = x at *
  have HO := Lib.hid ho
  cases hsg : sign s[a] with
  | true =>
    rw [hsg, if_pos rfl] at hx
    have HX := Lib.hid hx
    clear hx hg hb hq ho
    go_enter Tryd.func30, Tryd.ntmps30
    go_wp2_with (first | (go_at_call 38; refine (rletter_any _ _).mono ?_; rintro e w' ⟨rfl, rfl⟩) | (go_at_call 33; refine (rdigit_any _ _).mono ?_; rintro e w' ⟨rfl, rfl⟩) | (go_at_call 46; refine (refSign_any _ _).mono ?_; rintro e w' ⟨rfl, rfl⟩))
    refine bodyPost_ret (v := .tuple #[.agg #[.int .i64 3, .string (s.extract a (a + 1)), .int .i64 0, .int .i64 a], .int .i64 ((a : Int) + 1), .int .i64 0]) (by simp [results, Tryd.results30, go_sem]) rfl ⟨?_, (Below.refl _ _).alloc (Nat.le_refl _) _⟩
    rw [HX.out, HO.out]; rfl
  | false =>
    rw [hsg, if_neg (by decide)] at hx
    have HX := Lib.hid hx
    clear hx hg hb hq ho
    go_enter Tryd.func30, Tryd.ntmps30
    go_wp2_with (first | (go_at_call 38; refine (rletter_any _ _).mono ?_; rintro e w' ⟨rfl, rfl⟩) | (go_at_call 33; refine (rdigit_any _ _).mono ?_; rintro e w' ⟨rfl, rfl⟩) | (go_at_call 46; refine (refSign_any _ _).mono ?_; rintro e w' ⟨rfl, rfl⟩))
    exact bodyPost_ret (v := .tuple #[.agg #[.int .i64 0, .string ⟨#[]⟩, .int .i64 0, .int .i64 0], .int .i64 0, .int .i64 20]) (by simp [results, Tryd.results30, go_sem]) rfl ⟨by rw [HX.out]; rfl, (Below.refl _ _).alloc (Nat.le_refl _) _⟩

theorem refToken_any (s : ByteArray) (a : Nat) (c : UInt8) (r : List UInt8) (w : World) (hs : s.size ≤ 100000) (ha : a < s.size) (hb : (bs s).drop a = c :: r) :
    Calls Tryd.prog 30 #[.string s, .int .i64 a] w (TokEnd w (nextAt (next c r) a)) := by
  cases hl : letter c with
  | true => exact refToken_letter s a c r w hs ha hb hl
  | false =>
    cases hd : digit c with
    | true => exact refToken_digit s a c r w hs ha hb hd
    | false =>
      by_cases hq : c = 34
      · exact refToken_quote s a c r w hs ha hb hq
      · exact refToken_other s a c r w hs ha hb hl hd hq

end Go.Proofs.YtmkeajeohkdieaaDoor
