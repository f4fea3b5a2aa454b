/- The reference's Name and Number. -/
import Derived.Test.YtmkeajeohkdieaaDoorLxS
import Derived.Outline
namespace Go.Proofs.YtmkeajeohkdieaaDoor
open Go.RowKit Lx
set_option linter.unusedSimpArgs false
set_option linter.unusedVariables false

set_option maxHeartbeats 2000000 in
theorem refName_any (s : ByteArray) (w : World) (hs : s.size ≤ 9223372036854775807) :
    Calls Tryd.prog 23 #[.string s] w fun e w' => e = .returned (.bool (nameOk (bs s))) ∧ w = w' := by
  have hlen := bs_len s
  by_cases h0 : s.size < 1
  · have hb : bs s = [] := List.eq_nil_of_length_eq_zero (by omega)
    have HN := Lib.hid (show nameOk (bs s) = false by rw [hb]; rfl)
    have e0 : decide ((s.size : Int) < 1) = true := decide_eq_true (by omega)
    clear hb hlen
    go_enter Tryd.func23, Tryd.ntmps23
    go_wp2
    go_ret
    exact ⟨ret_bool HN.out.symm, rfl⟩
  · have e0 : decide ((s.size : Int) < 1) = false := decide_eq_false (by omega)
    have hpos : 0 < s.size := by omega
    have hg0 := bs_get s 0 hpos
    by_cases h20 : 20 < s.size
    · have HN := Lib.hid (show nameOk (bs s) = false by
        cases hn : nameOk (bs s) with
        | false => rfl
        | true => cases hb : bs s with
          | nil => rw [hb] at hlen; simp at hlen; omega
          | cons c r => rw [hb] at hn hlen; rw [nameOk_eq] at hn; simp only [Bool.and_eq_true, decide_eq_true_eq] at hn; omega)
      have e20 : decide ((20 : Int) < (s.size : Int)) = true := decide_eq_true (by omega)
      clear hlen hg0
      go_enter Tryd.func23, Tryd.ntmps23
      go_wp2
      go_ret
      exact ⟨ret_bool HN.out.symm, rfl⟩
    · have e20 : decide ((20 : Int) < (s.size : Int)) = false := decide_eq_false (by omega)
      cases hl : letter s[0] with
      | false =>
        have HN := Lib.hid (show nameOk (bs s) = false by
          cases hb : bs s with
          | nil => rfl
          | cons c r => rw [hb] at hg0; simp at hg0; subst hg0; rw [nameOk_eq, hl]; rfl)
        clear hlen hg0
        go_enter Tryd.func23, Tryd.ntmps23
        go_wp2_with (go_at_call 38; refine (rletter_any _ _).mono ?_; rintro e w' ⟨rfl, rfl⟩)
        go_ret
        exact ⟨ret_bool HN.out.symm, rfl⟩
      | true =>
        have HI := Lib.hid (show ((bs s).take 1).all inner = true by
          rw [show (1 : Nat) = 0 + 1 from rfl, all_at hg0, letter_inner hl]; rfl)
        have hall : nameOk (bs s) = (bs s).all inner := by
          cases hb : bs s with
          | nil => rw [hb] at hlen; simp at hlen; omega
          | cons c r =>
            rw [hb] at hg0 hlen; simp at hg0; subst hg0
            show (letter s[0] && (s[0] :: r).all inner && decide ((s[0] :: r).length ≤ 20)) = _
            rw [hl, decide_eq_true (show (s[0] :: r).length ≤ 20 by omega)]; simp
        have HALL := Lib.hid hall
        have HL := Lib.hid hlen
        clear hlen hg0 hall
        go_enter Tryd.func23, Tryd.ntmps23
        go_wp2_with (go_at_call 38; refine (rletter_any _ _).mono ?_; rintro e w' ⟨rfl, rfl⟩)
        go_loop [3] (fun i => ∃ k : Nat, i = .int .i64 k ∧ k ≤ s.size ∧ Hid (((bs s).take k).all inner = true)) (fun i => s.size - (intOf i).toNat)
        case atStart => exact ⟨1, rfl, by omega, HI.out⟩
        case round =>
          obtain ⟨k, rfl, hk, HA⟩ := hrel
          by_cases hlt : k < s.size
          · have hg := bs_get s k hlt
            have HN := Lib.hid (all_at (p := inner) hg)
            have HNO := Lib.hid (all_not (p := inner) hg)
            have h95 : (s[k] == 95) = ((s[k].toNat : Int) == 95) := (is_byte s[k] 95 95 rfl).symm
            have hi : inner s[k] = (letter s[k] || digit s[k] || ((s[k].toNat : Int) == 95)) := by rw [← h95]; rfl
            have HIN := Lib.hid hi
            clear hg h95 hi
            cases hl1 : letter s[k] with
            | true =>
              rw [hl1] at HIN
              go_wp2_with (first | (go_at_call 38; refine (rletter_any _ _).mono ?_; rintro e w' ⟨rfl, rfl⟩) | (go_at_call 33; refine (rdigit_any _ _).mono ?_; rintro e w' ⟨rfl, rfl⟩))
              go_round
              case rel => exact ⟨k + 1, by go_num, by omega, by rw [HN.out, HA.out, HIN.out]; rfl⟩
              case measure => simp [intOf]; omega
            | false =>
              cases hd1 : digit s[k] with
              | true =>
                rw [hl1, hd1] at HIN
                go_wp2_with (first | (go_at_call 38; refine (rletter_any _ _).mono ?_; rintro e w' ⟨rfl, rfl⟩) | (go_at_call 33; refine (rdigit_any _ _).mono ?_; rintro e w' ⟨rfl, rfl⟩))
                go_round
                case rel => exact ⟨k + 1, by go_num, by omega, by rw [HN.out, HA.out, HIN.out]; rfl⟩
                case measure => simp [intOf]; omega
              | false =>
                cases h9 : ((s[k].toNat : Int) == 95) with
                | true =>
                  rw [hl1, hd1, h9] at HIN
                  have h9' : ((s[k].toNat : Int) != 95) = false := by simp at h9 ⊢; exact h9
                  go_wp2_with (first | (go_at_call 38; refine (rletter_any _ _).mono ?_; rintro e w' ⟨rfl, rfl⟩) | (go_at_call 33; refine (rdigit_any _ _).mono ?_; rintro e w' ⟨rfl, rfl⟩))
                  go_round
                  case rel => exact ⟨k + 1, by go_num, by omega, by rw [HN.out, HA.out, HIN.out]; rfl⟩
                  case measure => simp [intOf]; omega
                | false =>
                  rw [hl1, hd1, h9] at HIN
                  have h9' : ((s[k].toNat : Int) != 95) = true := by simp at h9 ⊢; exact h9
                  have HX := Lib.hid (show nameOk (bs s) = false by rw [HALL.out]; exact HNO.out HIN.out)
                  go_wp2_with (first | (go_at_call 38; refine (rletter_any _ _).mono ?_; rintro e w' ⟨rfl, rfl⟩) | (go_at_call 33; refine (rdigit_any _ _).mono ?_; rintro e w' ⟨rfl, rfl⟩))
                  go_ret
                  exact ⟨ret_bool HX.out.symm, rfl⟩
          · obtain rfl : k = s.size := by omega
            have HX := Lib.hid (show nameOk (bs s) = true by
              have h := HA.out
              rw [← HL.out, List.take_length] at h
              rw [HALL.out]; exact h)
            go_wp2
            go_ret
            exact ⟨ret_bool HX.out.symm, rfl⟩

theorem valFrom_ge (l : List UInt8) (a : Nat) : a ≤ valFrom a l := by
  induction l generalizing a with
  | nil => exact Nat.le_refl _
  | cons c l ih =>
    show a ≤ valFrom (10 * a + (c.toNat - 48)) l
    exact Nat.le_trans (by omega) (ih _)
theorem val_take_le (l : List UInt8) (k : Nat) : val (l.take k) ≤ val l := by
  have h : val l = valFrom (val (l.take k)) (l.drop k) := by
    unfold val valFrom
    rw [← List.foldl_append, List.take_append_drop]
  rw [h]; exact valFrom_ge _ _
theorem numOk_of (l : List UInt8) (hd : l.all digit = true) (h0 : l ≠ []) (h1 : l.length ≤ 1 ∨ l[0]? ≠ some 48) : numOk l = decide (val l ≤ 1099511627776) := by
  match l, h0 with
  | c :: r, _ =>
    have : (c != 48 || r.isEmpty) = true := by
      rcases h1 with h1 | h1
      · have : r = [] := by simpa using h1
        subst this; simp
      · simp at h1; simp [h1]
    show ((c :: r).all digit && (c != 48 || r.isEmpty) && decide (val (c :: r) ≤ 1099511627776)) = _
    rw [hd, this]; rfl
theorem numOk_not (l : List UInt8) (h : l = [] ∨ l.all digit = false ∨ 1099511627776 < val l ∨ (2 ≤ l.length ∧ l[0]? = some 48)) : numOk l = false := by
  cases hn : numOk l with
  | false => rfl
  | true =>
    exfalso
    match l, hn with
    | c :: r, hn =>
      unfold numOk at hn
      simp only [Bool.and_eq_true, decide_eq_true_eq, Bool.or_eq_true, bne_iff_ne, ne_eq] at hn
      obtain ⟨⟨a, b⟩, d⟩ := hn
      rcases h with h | h | h | ⟨h, h'⟩
      · cases h
      · rw [a] at h; cases h
      · omega
      · simp at h'
        rcases b with b | b
        · exact b h'
        · have : r = [] := by cases r with | nil => rfl | cons _ _ => simp at b
          subst this; simp at h

set_option maxHeartbeats 4000000 in
theorem refNumber_any (s : ByteArray) (w : World) (hs : s.size ≤ 9223372036854775807) :
    Calls Tryd.prog 18 #[.string s] w fun e w' => e = .returned (.tuple #[.int .i64 (numV (bs s)), .bool (numOk (bs s))]) ∧ w = w' := by
  have HL := Lib.hid (bs_len s)
  have fin0 : numOk (bs s) = false → (∀ (v : Value), v = .tuple #[.int .i64 0, .bool false] → Ending.returned v = .returned (.tuple #[.int .i64 (numV (bs s)), .bool (numOk (bs s))])) := fun h v hv => by rw [hv, h, numV_no h]
  have FIN0 := Lib.hid fin0
  clear fin0
  go_enter Tryd.func18, Tryd.ntmps18
  go_wp2_with fail
  go_loop [4, 5] (fun v i => ∃ k n : Nat, v = .int .i64 n ∧ i = .int .i64 k ∧ k ≤ s.size ∧ n ≤ 10995116277769 ∧ Hid (n = val ((bs s).take k)) ∧ Hid (((bs s).take k).all digit = true)) (fun _ i => s.size - (intOf i).toNat)
  case atStart => exact ⟨0, 0, rfl, rfl, by omega, by omega, rfl, rfl⟩
  case round =>
    obtain ⟨k, n, rfl, rfl, hk, hn, HV, HA⟩ := hrel
    by_cases hlt : k < s.size
    · have hg := bs_get s k hlt
      have HNX := Lib.hid (all_at (p := digit) hg)
      have HNO := Lib.hid (all_not (p := digit) hg)
      have HVX := Lib.hid (take_val s k hlt)
      have hc := byte_lt s[k]
      clear hg
      cases hd : digit s[k] with
      | false =>
        have HX := Lib.hid (numOk_not (bs s) (.inr (.inl (HNO.out hd))))
        go_wp2_with (go_at_call 33; refine (rdigit_any _ _).mono ?_; rintro e w' ⟨rfl, rfl⟩)
        go_ret2
        exact ⟨FIN0.out HX.out _ rfl, rfl⟩
      | true =>
        have hb := digit_bd hd
        by_cases hm : (1099511627776 : Int) < (n : Int)
        · have HX := Lib.hid (numOk_not (bs s) (.inr (.inr (.inl (by have := val_take_le (bs s) k; rw [← HV.out] at this; omega)))))
          have em : decide ((1099511627776 : Int) < (n : Int)) = true := decide_eq_true hm
          go_wp2_with (go_at_call 33; refine (rdigit_any _ _).mono ?_; rintro e w' ⟨rfl, rfl⟩)
          go_ret2
          exact ⟨FIN0.out HX.out _ rfl, rfl⟩
        · have em : decide ((1099511627776 : Int) < (n : Int)) = false := decide_eq_false hm
          have hb1 : (48 : Int) ≤ (s[k].toNat : Int) := by omega
          have hb2 : (s[k].toNat : Int) ≤ 57 := by omega
          have hm2 : (n : Int) ≤ 1099511627776 := by omega
          go_wp2_with (go_at_call 33; refine (rdigit_any _ _).mono ?_; rintro e w' ⟨rfl, rfl⟩)
          go_round
          case rel => exact ⟨k + 1, 10 * n + (s[k].toNat - 48), congrArg (Value.int .i64) (by omega), by go_num, by omega, by omega, by rw [HVX.out, ← HV.out]; exact Lib.hid rfl, by rw [HNX.out, HA.out, hd]; rfl⟩
          case measure => simp [intOf]; omega
    · obtain rfl : k = s.size := by omega
      have hv := HV.out
      have ha := HA.out
      rw [← HL.out, List.take_length] at hv ha
      have HV2 := Lib.hid hv
      have HA2 := Lib.hid ha
      clear hv ha HV HA
      by_cases h1 : (s.size : Int) < 1
      · have HX := Lib.hid (numOk_not (bs s) (.inl (List.eq_nil_of_length_eq_zero (by rw [HL.out]; omega))))
        have e1 : decide ((s.size : Int) < 1) = true := decide_eq_true h1
        go_wp2_with fail
        go_ret2
        exact ⟨FIN0.out HX.out _ rfl, rfl⟩
      · have e1 : decide ((s.size : Int) < 1) = false := decide_eq_false h1
        have hpos : 0 < s.size := by omega
        have hg0 := bs_get s 0 hpos
        have HG0 := Lib.hid hg0
        clear hg0
        have key : ∀ (b : Bool), ((s[0].toNat : Int) == 48) = b → ((bs s)[0]? = some 48 ↔ b = true) := by
          intro b hb
          rw [is_byte s[0] 48 48 rfl] at hb
          rw [HG0.out, ← hb]; simp
        have KEY := Lib.hid key
        clear key
        by_cases h2 : (1 : Int) < (s.size : Int)
        · have e2 : decide ((1 : Int) < (s.size : Int)) = true := decide_eq_true h2
          cases h48 : ((s[0].toNat : Int) == 48) with
          | true =>
            have HX := Lib.hid (numOk_not (bs s) (.inr (.inr (.inr ⟨by rw [HL.out]; omega, (KEY.out _ h48).2 rfl⟩))))
            go_wp2_with fail
            go_ret2
            exact ⟨FIN0.out HX.out _ rfl, rfl⟩
          | false =>
            have hno := numOk_of (bs s) HA2.out (by intro e; have := HL.out; rw [e] at this; simp at this; omega) (.inr (fun h => by have := (KEY.out _ h48).1 h; cases this))
            rw [← HV2.out] at hno
            by_cases hm : (1099511627776 : Int) < (n : Int)
            · have em : decide ((1099511627776 : Int) < (n : Int)) = true := decide_eq_true hm
              have HX := Lib.hid (show numOk (bs s) = false by rw [hno]; exact decide_eq_false (by omega))
              clear hno
              go_wp2_with fail
              go_ret2
              exact ⟨FIN0.out HX.out _ rfl, rfl⟩
            · have em : decide ((1099511627776 : Int) < (n : Int)) = false := decide_eq_false hm
              have HX := Lib.hid (show numOk (bs s) = true by rw [hno]; exact decide_eq_true (by omega))
              clear hno
              go_wp2_with fail
              go_ret2
              exact ⟨by rw [numV_yes HX.out, HX.out, ← HV2.out]; rfl, rfl⟩
        · have e2 : decide ((1 : Int) < (s.size : Int)) = false := decide_eq_false h2
          have hno := numOk_of (bs s) HA2.out (by intro e; have := HL.out; rw [e] at this; simp at this; omega) (.inl (by rw [HL.out]; omega))
          rw [← HV2.out] at hno
          by_cases hm : (1099511627776 : Int) < (n : Int)
          · have em : decide ((1099511627776 : Int) < (n : Int)) = true := decide_eq_true hm
            have HX := Lib.hid (show numOk (bs s) = false by rw [hno]; exact decide_eq_false (by omega))
            clear hno
            go_wp2_with fail
            go_ret2
            exact ⟨FIN0.out HX.out _ rfl, rfl⟩
          · have em : decide ((1099511627776 : Int) < (n : Int)) = false := decide_eq_false hm
            have HX := Lib.hid (show numOk (bs s) = true by rw [hno]; exact decide_eq_true (by omega))
            clear hno
            go_wp2_with fail
            go_ret2
            exact ⟨by rw [numV_yes HX.out, HX.out, ← HV2.out]; rfl, rfl⟩

end Go.Proofs.YtmkeajeohkdieaaDoor
