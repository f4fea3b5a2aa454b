/- Name and Number of the program. -/
import Derived.Test.YtmkeajeohkdieaaDoorLxB
import Derived.Lib.Strings
namespace Go.Proofs.YtmkeajeohkdieaaDoor
open Go.RowKit Lx
set_option linter.unusedSimpArgs false
set_option linter.unusedVariables false

theorem bs_toList (s : ByteArray) : s.toList = bs s := Lib.toList_data s
theorem bs_empty (s : ByteArray) : s.toList.isEmpty = (bs s).isEmpty := by rw [bs_toList]

theorem all_span {p : UInt8 → Bool} {l : List UInt8} : (l.takeWhile p).length = l.length ↔ l.all p = true := by
  induction l with
  | nil => simp
  | cons a l ih =>
    rw [List.takeWhile_cons, List.all_cons, Bool.and_eq_true]
    split
    · rename_i h; simp only [List.length_cons, h, true_and, ← ih]; omega
    · rename_i h; simp [h]

/-- a name, in the order of the program's tests -/
theorem nameOk_eq (c : UInt8) (r : List UInt8) : nameOk (c :: r) = (letter c && decide ((c :: r).length ≤ 20) && decide (((c :: r).takeWhile inner).length = (c :: r).length)) := by
  rw [Bool.eq_iff_iff]
  simp only [nameOk, Bool.and_eq_true, decide_eq_true_eq, all_span]
  constructor
  · rintro ⟨⟨a, b⟩, c⟩; exact ⟨⟨a, c⟩, b⟩
  · rintro ⟨⟨a, c⟩, b⟩; exact ⟨⟨a, b⟩, c⟩

set_option maxHeartbeats 1000000 in
theorem name_any (s : ByteArray) (w : World) (hs : s.size ≤ 9223372036854775807) :
    Calls Tryd.prog 22 #[.string s] w fun e w' => e = .returned (.bool (nameOk (bs s))) ∧ w = w' := by
  have hlen := bs_len s
  cases hb : bs s with
  | nil =>
    have h0 : (!s.toList.isEmpty) = false := by rw [bs_empty, hb]; rfl
    have h0' : s.toList.isEmpty = true := by rw [bs_empty, hb]; rfl
    clear hlen
    go_enter Tryd.func22, Tryd.ntmps22
    go_wp2
    go_ret
    exact ⟨rfl, rfl⟩
  | cons c r =>
    have h0 : (!s.toList.isEmpty) = true := by rw [bs_empty, hb]; rfl
    have h0' : s.toList.isEmpty = false := by rw [bs_empty, hb]; rfl
    have hpos : 0 < s.size := by rw [← hlen, hb]; simp
    have hc : s[0] = c := by
      have := bs_get s 0 hpos
      rw [hb] at this
      simpa using this.symm
    have hsz : (c :: r).length = s.size := by rw [← hb]; exact hlen
    have hN := nameOk_eq c r
    rw [hsz] at hN
    have hspan := fun w => span_inner s w hs
    rw [hb] at hspan
    have HS := Lib.hid hspan
    have hle := span_le inner (c :: r)
    rw [hsz] at hle
    generalize ((c :: r).takeWhile inner).length = m at *
    have HN := Lib.hid hN
    clear hN hspan hb hlen hsz
    cases hl : letter c with
    | false =>
      rw [hl] at HN
      go_enter Tryd.func22, Tryd.ntmps22
      go_wp2_with (go_at_call 36; refine (letter_any c _).mono ?_; rintro e w' ⟨rfl, rfl⟩)
      go_ret
      exact ⟨ret_bool (by rw [HN.out]; rfl), rfl⟩
    | true =>
      rw [hl] at HN
      by_cases h20 : s.size ≤ 20
      · rw [decide_eq_true h20] at HN
        by_cases hm : m = s.size
        · rw [decide_eq_true hm] at HN
          have b1 : ((m : Int) == s.size) = true := by simp [hm]
          clear hm
          go_enter Tryd.func22, Tryd.ntmps22
          go_wp2_with (first | (go_at_call 36; refine (letter_any c _).mono ?_; rintro e w' ⟨rfl, rfl⟩) | (go_at_call 31; refine (HS.out _).mono ?_; rintro e w' ⟨rfl, rfl⟩))
          go_ret
          exact ⟨ret_bool (by rw [HN.out]; rfl), rfl⟩
        · rw [decide_eq_false hm] at HN
          have b1 : ((m : Int) == s.size) = false := by simp; omega
          clear hm
          go_enter Tryd.func22, Tryd.ntmps22
          go_wp2_with (first | (go_at_call 36; refine (letter_any c _).mono ?_; rintro e w' ⟨rfl, rfl⟩) | (go_at_call 31; refine (HS.out _).mono ?_; rintro e w' ⟨rfl, rfl⟩))
          go_ret
          exact ⟨ret_bool (by rw [HN.out]; rfl), rfl⟩
      · rw [decide_eq_false h20] at HN
        go_enter Tryd.func22, Tryd.ntmps22
        go_wp2_with (go_at_call 36; refine (letter_any c _).mono ?_; rintro e w' ⟨rfl, rfl⟩)
        go_ret
        exact ⟨ret_bool (by rw [HN.out]; rfl), rfl⟩

end Go.Proofs.YtmkeajeohkdieaaDoor
