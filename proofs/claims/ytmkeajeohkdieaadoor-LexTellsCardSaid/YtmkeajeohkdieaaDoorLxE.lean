/- Number of the program, for all strings. -/
import Derived.Test.YtmkeajeohkdieaaDoorLxD
namespace Go.Proofs.YtmkeajeohkdieaaDoor
open Go.RowKit Lx
set_option linter.unusedSimpArgs false
set_option linter.unusedVariables false

theorem num_not {s : ByteArray} (h : ¬ (s.size ≤ 13 ∧ (bs s).isEmpty = false ∧ (bs s).all digit = true ∧ ((bs s)[0]? ≠ some 48 ∨ bs s = [48]))) : numOk (bs s) = false := by
  cases hk : numOk (bs s) with
  | false => rfl
  | true =>
    exfalso; apply h
    have hlen := bs_len s
    cases hb : bs s with
    | nil => rw [hb] at hk; cases hk
    | cons c r =>
      rw [hb] at hk
      have h13 := num_short hk
      have hk2 := hk
      unfold numOk at hk2
      simp only [Bool.and_eq_true, Bool.or_eq_true] at hk2
      refine ⟨by rw [← hlen, hb]; exact h13, rfl, hk2.1.1, ?_⟩
      rcases hk2.1.2 with h1 | h1
      · left; simp at h1 ⊢; exact h1
      · by_cases hc : c = 48
        · right; subst hc; cases r with
          | nil => rfl
          | cons _ _ => cases h1
        · left; simp; exact hc

set_option maxHeartbeats 4000000 in
theorem number_any (s : ByteArray) (w : World) (hs : s.size ≤ 9223372036854775807) :
    Calls Tryd.prog 17 #[.string s] w fun e w' => e = .returned (.tuple #[.int .i64 (numV (bs s)), .bool (numOk (bs s))]) ∧ w = w' := by
  by_cases hall : s.size ≤ 13 ∧ (bs s).isEmpty = false ∧ (bs s).all digit = true ∧ ((bs s)[0]? ≠ some 48 ∨ bs s = [48])
  · exact number_yes s w hall.1 hall.2.1 hall.2.2.1 hall.2.2.2
  · have hno := num_not hall
    have HO := Lib.hid hno
    have HV := Lib.hid (numV_no hno)
    clear hno
    have hlen := bs_len s
    have hspan := fun w => span_digit s w hs
    have HS := Lib.hid hspan
    clear hspan
    by_cases h0 : (bs s).isEmpty = true
    · have h1 : s.toList.isEmpty = true := by rw [bs_empty, h0]
      clear h0 hall hlen
      go_enter Tryd.func17, Tryd.ntmps17
      go_wp2
      go_ret2
      exact ⟨by rw [HV.out, HO.out]; rfl, rfl⟩
    · have h0' : (bs s).isEmpty = false := by simpa using h0
      have h1 : s.toList.isEmpty = false := by rw [bs_empty, h0']
      have hpos : 0 < s.size := by
        rw [← hlen]
        cases hb : bs s with
        | nil => rw [hb] at h0'; cases h0'
        | cons _ _ => simp
      have hle := span_le digit (bs s)
      by_cases hd : (bs s).all digit = true
      · have hm := all_span.2 hd
        rw [hm, hlen] at HS
        by_cases hz : (bs s)[0]? ≠ some 48 ∨ bs s = [48]
        · have h13 : ¬ s.size ≤ 13 := fun h => hall ⟨h, h0', hd, hz⟩
          clear hall hlen h0 h0' hd hm hz hle
          go_enter Tryd.func17, Tryd.ntmps17
          go_wp2_with (go_at_call 31; refine (HS.out _).mono ?_; rintro e w' ⟨rfl, rfl⟩)
          all_goals
            go_ret2
            exact ⟨by rw [HV.out, HO.out]; rfl, rfl⟩
        · have b1 : ((s[0].toNat : Int) == 48) = true := by
            have h := bs_get s 0 hpos
            have h48 : (bs s)[0]? = some 48 := by
              by_cases h : (bs s)[0]? = some 48
              · exact h
              · exact absurd (.inl h) hz
            rw [h] at h48
            injection h48 with h48
            rw [h48]; rfl
          have hne : bs s ≠ [48] := fun h => hz (.inr h)
          have b2 : ¬ s.toList = [48] := by rw [bs_toList]; exact hne
          have b3 : (s.toList == [48]) = false := by simpa using b2
          clear hall hlen h0 h0' hd hm hz hle hne
          go_enter Tryd.func17, Tryd.ntmps17
          go_wp2_with (go_at_call 31; refine (HS.out _).mono ?_; rintro e w' ⟨rfl, rfl⟩)
          all_goals
            go_ret2
            exact ⟨by rw [HV.out, HO.out]; rfl, rfl⟩
      · have hm : ((bs s).takeWhile digit).length ≠ s.size := by rw [← hlen]; exact fun h => hd (all_span.1 h)
        generalize ((bs s).takeWhile digit).length = m at *
        have b1 : ((m : Int) != s.size) = true := by simp; omega
        have b1' : ((m : Int) == s.size) = false := by simp; omega
        clear hall hlen h0 h0' hd hm
        go_enter Tryd.func17, Tryd.ntmps17
        go_wp2_with (go_at_call 31; refine (HS.out _).mono ?_; rintro e w' ⟨rfl, rfl⟩)
        all_goals
          go_ret2
          exact ⟨by rw [HV.out, HO.out]; rfl, rfl⟩

end Go.Proofs.YtmkeajeohkdieaaDoor
