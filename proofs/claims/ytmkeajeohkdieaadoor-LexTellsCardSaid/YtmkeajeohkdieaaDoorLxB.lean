/- span, names, numbers. -/
import Derived.Test.YtmkeajeohkdieaaDoorLxA
namespace Go.Proofs.YtmkeajeohkdieaaDoor
open Go.RowKit Lx
set_option linter.unusedSimpArgs false
set_option linter.unusedVariables false

/-- the bytes of a string -/
def bs (s : ByteArray) : List UInt8 := s.data.toList
theorem bs_len (s : ByteArray) : (bs s).length = s.size := by unfold bs; rw [Array.length_toList]; rfl
theorem bs_get (s : ByteArray) (k : Nat) (h : k < s.size) : (bs s)[k]? = some s[k] := by
  unfold bs
  rw [List.getElem?_eq_getElem (by rw [Array.length_toList]; exact h)]
  rfl

theorem span_le (p : UInt8 → Bool) (l : List UInt8) : (l.takeWhile p).length ≤ l.length := takeWhile_length_le p l
/-- k bytes of the kind, and the next one too -/
theorem span_next {p : UInt8 → Bool} {l : List UInt8} {k : Nat} {c : UInt8} (hk : k ≤ (l.takeWhile p).length) (hc : l[k]? = some c) (hp : p c = true) : k + 1 ≤ (l.takeWhile p).length := by
  induction l generalizing k with
  | nil => simp at hc
  | cons a l ih =>
    match k with
    | 0 => simp at hc; subst hc; exact takeWhile_pos hp
    | k + 1 =>
      rw [List.takeWhile_cons] at hk ⊢
      split at hk
      · rename_i ha
        rw [if_pos ha]
        simp at hk hc ⊢
        exact ih hk hc
      · simp at hk
theorem span_stop {p : UInt8 → Bool} {l : List UInt8} {k : Nat} {c : UInt8} (hk : k ≤ (l.takeWhile p).length) (hc : l[k]? = some c) (hp : p c = false) : (l.takeWhile p).length = k := by
  induction l generalizing k with
  | nil => simp at hc
  | cons a l ih =>
    match k with
    | 0 => simp at hc; subst hc; simp [hp]
    | k + 1 =>
      rw [List.takeWhile_cons] at hk ⊢
      split at hk
      · rename_i ha
        rw [if_pos ha]
        simp at hk hc ⊢
        exact ih hk hc
      · simp at hk

set_option maxHeartbeats 1000000 in
theorem span_inner (s : ByteArray) (w : World) (hs : s.size ≤ 9223372036854775807) :
    Calls Tryd.prog 31 #[.string s, .func (.func 37) #[] #[]] w fun e w' => e = .returned (.int .i64 (((bs s).takeWhile inner).length : Nat)) ∧ w = w' := by
  go_enter Tryd.func31, Tryd.ntmps31
  go_wp2
  go_loop [5] (fun i => ∃ n : Nat, i = .int .i64 n ∧ n ≤ s.size ∧ Hid (n ≤ ((bs s).takeWhile inner).length)) (fun i => s.size - (intOf i).toNat)
  case atStart => exact ⟨0, rfl, by omega, by show 0 ≤ _; omega⟩
  case round =>
    obtain ⟨n, rfl, hn, HN⟩ := hrel
    by_cases hlt : n < s.size
    · have hg := bs_get s n hlt
      have HG := Lib.hid hg
      clear hg
      cases hpc : inner s[n] with
      | true =>
        go_wp2_with (go_at_call 37; refine (inner_any _ _).mono ?_; rintro e w' ⟨rfl, rfl⟩)
        go_round
        case rel => exact ⟨n + 1, by go_num, by omega, span_next HN.out HG.out hpc⟩
        case measure => simp [intOf]; omega
      | false =>
        go_wp2_with (go_at_call 37; refine (inner_any _ _).mono ?_; rintro e w' ⟨rfl, rfl⟩)
        go_ret
        exact ⟨by rw [span_stop HN.out HG.out hpc]; rfl, rfl⟩
    · have hlen : n = ((bs s).takeWhile inner).length := by
        have := span_le inner (bs s)
        rw [bs_len] at this
        have := HN.out
        omega
      go_wp2
      go_ret
      exact ⟨by rw [← hlen]; rfl, rfl⟩

set_option maxHeartbeats 1000000 in
theorem span_digit (s : ByteArray) (w : World) (hs : s.size ≤ 9223372036854775807) :
    Calls Tryd.prog 31 #[.string s, .func (.func 32) #[] #[]] w fun e w' => e = .returned (.int .i64 (((bs s).takeWhile digit).length : Nat)) ∧ w = w' := by
  go_enter Tryd.func31, Tryd.ntmps31
  go_wp2
  go_loop [5] (fun i => ∃ n : Nat, i = .int .i64 n ∧ n ≤ s.size ∧ Hid (n ≤ ((bs s).takeWhile digit).length)) (fun i => s.size - (intOf i).toNat)
  case atStart => exact ⟨0, rfl, by omega, by show 0 ≤ _; omega⟩
  case round =>
    obtain ⟨n, rfl, hn, HN⟩ := hrel
    by_cases hlt : n < s.size
    · have hg := bs_get s n hlt
      have HG := Lib.hid hg
      clear hg
      cases hpc : digit s[n] with
      | true =>
        go_wp2_with (go_at_call 32; refine (digit_any _ _).mono ?_; rintro e w' ⟨rfl, rfl⟩)
        go_round
        case rel => exact ⟨n + 1, by go_num, by omega, span_next HN.out HG.out hpc⟩
        case measure => simp [intOf]; omega
      | false =>
        go_wp2_with (go_at_call 32; refine (digit_any _ _).mono ?_; rintro e w' ⟨rfl, rfl⟩)
        go_ret
        exact ⟨by rw [span_stop HN.out HG.out hpc]; rfl, rfl⟩
    · have hlen : n = ((bs s).takeWhile digit).length := by
        have := span_le digit (bs s)
        rw [bs_len] at this
        have := HN.out
        omega
      go_wp2
      go_ret
      exact ⟨by rw [← hlen]; rfl, rfl⟩

set_option maxHeartbeats 1000000 in
theorem span_plain (s : ByteArray) (w : World) (hs : s.size ≤ 9223372036854775807) :
    Calls Tryd.prog 31 #[.string s, .func (.func 34) #[] #[]] w fun e w' => e = .returned (.int .i64 (((bs s).takeWhile plain).length : Nat)) ∧ w = w' := by
  go_enter Tryd.func31, Tryd.ntmps31
  go_wp2
  go_loop [5] (fun i => ∃ n : Nat, i = .int .i64 n ∧ n ≤ s.size ∧ Hid (n ≤ ((bs s).takeWhile plain).length)) (fun i => s.size - (intOf i).toNat)
  case atStart => exact ⟨0, rfl, by omega, by show 0 ≤ _; omega⟩
  case round =>
    obtain ⟨n, rfl, hn, HN⟩ := hrel
    by_cases hlt : n < s.size
    · have hg := bs_get s n hlt
      have HG := Lib.hid hg
      clear hg
      cases hpc : plain s[n] with
      | true =>
        go_wp2_with (go_at_call 34; refine (plain_any _ _).mono ?_; rintro e w' ⟨rfl, rfl⟩)
        go_round
        case rel => exact ⟨n + 1, by go_num, by omega, span_next HN.out HG.out hpc⟩
        case measure => simp [intOf]; omega
      | false =>
        go_wp2_with (go_at_call 34; refine (plain_any _ _).mono ?_; rintro e w' ⟨rfl, rfl⟩)
        go_ret
        exact ⟨by rw [span_stop HN.out HG.out hpc]; rfl, rfl⟩
    · have hlen : n = ((bs s).takeWhile plain).length := by
        have := span_le plain (bs s)
        rw [bs_len] at this
        have := HN.out
        omega
      go_wp2
      go_ret
      exact ⟨by rw [← hlen]; rfl, rfl⟩

set_option maxHeartbeats 1000000 in
theorem span_blank (s : ByteArray) (w : World) (hs : s.size ≤ 9223372036854775807) :
    Calls Tryd.prog 31 #[.string s, .func (.func 39) #[] #[]] w fun e w' => e = .returned (.int .i64 (((bs s).takeWhile Lx.blank).length : Nat)) ∧ w = w' := by
  go_enter Tryd.func31, Tryd.ntmps31
  go_wp2
  go_loop [5] (fun i => ∃ n : Nat, i = .int .i64 n ∧ n ≤ s.size ∧ Hid (n ≤ ((bs s).takeWhile Lx.blank).length)) (fun i => s.size - (intOf i).toNat)
  case atStart => exact ⟨0, rfl, by omega, by show 0 ≤ _; omega⟩
  case round =>
    obtain ⟨n, rfl, hn, HN⟩ := hrel
    by_cases hlt : n < s.size
    · have hg := bs_get s n hlt
      have HG := Lib.hid hg
      clear hg
      cases hpc : Lx.blank s[n] with
      | true =>
        go_wp2_with (go_at_call 39; refine (blank_any _ _).mono ?_; rintro e w' ⟨rfl, rfl⟩)
        go_round
        case rel => exact ⟨n + 1, by go_num, by omega, span_next HN.out HG.out hpc⟩
        case measure => simp [intOf]; omega
      | false =>
        go_wp2_with (go_at_call 39; refine (blank_any _ _).mono ?_; rintro e w' ⟨rfl, rfl⟩)
        go_ret
        exact ⟨by rw [span_stop HN.out HG.out hpc]; rfl, rfl⟩
    · have hlen : n = ((bs s).takeWhile Lx.blank).length := by
        have := span_le Lx.blank (bs s)
        rw [bs_len] at this
        have := HN.out
        omega
      go_wp2
      go_ret
      exact ⟨by rw [← hlen]; rfl, rfl⟩

end Go.Proofs.YtmkeajeohkdieaaDoor
