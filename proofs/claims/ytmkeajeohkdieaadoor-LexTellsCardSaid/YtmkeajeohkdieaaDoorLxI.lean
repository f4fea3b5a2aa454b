/- gap, walked. -/
import Derived.Test.YtmkeajeohkdieaaDoorLxH
import Derived.Lib.IndexBytes
namespace Go.Proofs.YtmkeajeohkdieaaDoor
open Go.RowKit Lx
set_option linter.unusedSimpArgs false
set_option linter.unusedVariables false

theorem bs_from (s : ByteArray) (a : Nat) : bs (s.extract a s.size) = (bs s).drop a := Lib.extract_to_end s a

theorem is_byte (c d : UInt8) (m : Int) (hm : (d.toNat : Int) = m) : ((c.toNat : Int) == m) = (c == d) := by
  subst hm
  rw [Bool.eq_iff_iff]
  simp only [beq_iff_eq, eq8]
  constructor <;> (intro h; omega)

set_option maxHeartbeats 4000000 in
theorem gap_any (s : ByteArray) (w : World) (hs : s.size ≤ 4611686018427387904) :
    Calls Tryd.prog 25 #[.string s] w fun e w' => (∃ g : Nat, e = .returned (.int .i64 g) ∧ GapOf (bs s) g) ∧ w = w' := by
  have hlen := bs_len s
  have HG := Lib.hid (gap_start (bs s))
  have HL := Lib.hid hlen
  clear hlen
  go_enter Tryd.func25, Tryd.ntmps25
  go_wp2_with (go_at_call 31; refine (span_blank s _ (by omega)).mono ?_; rintro e w' ⟨rfl, rfl⟩)
  go_loop [3] (fun i => ∃ n : Nat, i = .int .i64 n ∧ n ≤ s.size ∧ Hid (GapOut (bs s) n)) (fun i => s.size - (intOf i).toNat)
  case atStart => exact ⟨_, rfl, by have := HG.out.1; rw [HL.out] at this; exact this, HG.out⟩
  case round =>
    obtain ⟨n, rfl, hn, HO⟩ := hrel
    by_cases hlt : n < s.size
    · have hg := bs_get s n hlt
      cases h35 : ((s[n].toNat : Int) == 35) with
      | false =>
        have hend : GapOf (bs s) n := gap_end HO.out (by
          intro c hc
          rw [hg] at hc
          injection hc with hc
          subst hc
          rw [is_byte s[n] 35 35 rfl] at h35
          simpa using h35)
        have HE := Lib.hid hend
        clear hend hg
        go_wp2
        go_ret
        exact ⟨⟨n, rfl, HE.out⟩, rfl⟩
      | true =>
        have hin : GapIn (bs s) n := gap_enter HO.out (by
          rw [is_byte s[n] 35 35 rfl] at h35
          rw [hg]; simp at h35; rw [h35])
        have HI := Lib.hid hin
        clear hin hg
        obtain ⟨n0, hn0⟩ : ∃ n0, n0 = n := ⟨_, rfl⟩
        have H0 := Lib.hid hn0
        clear hn0
        go_wp2
        go_loop [3] (fun i => ∃ m : Nat, i = .int .i64 m ∧ m ≤ s.size ∧ n ≤ m ∧ (m = n ∨ n < m) ∧ Hid (GapIn (bs s) m)) (fun i => s.size - (intOf i).toNat)
        case atStart => exact ⟨n, rfl, hn, by omega, .inl rfl, HI.out⟩
        case round =>
          obtain ⟨m, rfl, hm, hnm, _, HM⟩ := hrel
          by_cases hlm : m < s.size
          · have hgm := bs_get s m hlm
            cases h10 : ((s[m].toNat : Int) == 10) with
            | false =>
              have hne : s[m] ≠ 10 := by
                rw [is_byte s[m] 10 10 rfl] at h10
                simpa using h10
              have HN := Lib.hid (gap_more HM.out hgm hne)
              have h10' : ((s[m].toNat : Int) != 10) = true := by simp at h10 ⊢; exact h10
              clear hgm hne
              go_wp2
              go_round
              case rel => exact ⟨m + 1, by go_num, by omega, by omega, by omega, HN.out⟩
              case measure => simp [intOf]; omega
            | true =>
              have hmn : n < m := by
                rcases Nat.lt_or_ge n m with h | h
                · exact h
                · exfalso
                  obtain rfl : m = n := by omega
                  have e1 : (s[m].toNat : Int) = 35 := by simpa using h35
                  have e2 : (s[m].toNat : Int) = 10 := by simpa using h10
                  omega
              have h10' : ((s[m].toNat : Int) != 10) = false := by simp at h10 ⊢; exact h10
              have hl : (bs s)[m]? = some 10 := by
                rw [is_byte s[m] 10 10 rfl] at h10
                rw [hgm]; simp at h10; rw [h10]
              have HLV := Lib.hid hl
              clear hl hgm
              have hout : GapOut (bs s) (m + ((bs (s.extract m s.size)).takeWhile Lx.blank).length) := by
                rw [bs_from]
                exact gap_leave HM.out (.inr HLV.out)
              have hspan := fun wx => span_blank (s.extract m s.size) wx (by rw [← bs_len, bs_from, List.length_drop, HL.out]; omega)
              have hb : m + ((bs (s.extract m s.size)).takeWhile Lx.blank).length ≤ s.size := by have := hout.1; rw [HL.out] at this; exact this
              have HOUT := Lib.hid hout
              have HSP := Lib.hid hspan
              clear hout hspan
              generalize ((bs (s.extract m s.size)).takeWhile Lx.blank).length = d at *
              go_wp2_with (go_at_call 31; refine (HSP.out _).mono ?_; rintro e w' ⟨rfl, rfl⟩)
              go_round
              case rel => exact ⟨m + d, by go_num, by omega, HOUT.out⟩
              case measure => simp [intOf]; omega
          · have hmn : n < m := by omega
            have hout : GapOut (bs s) (m + ((bs (s.extract m s.size)).takeWhile Lx.blank).length) := by
              rw [bs_from]
              exact gap_leave HM.out (.inl (List.getElem?_eq_none_iff.2 (by rw [HL.out]; omega)))
            have hspan := fun wx => span_blank (s.extract m s.size) wx (by rw [← bs_len, bs_from, List.length_drop, HL.out]; omega)
            have hb : m + ((bs (s.extract m s.size)).takeWhile Lx.blank).length ≤ s.size := by have := hout.1; rw [HL.out] at this; exact this
            have HOUT := Lib.hid hout
            have HSP := Lib.hid hspan
            clear hout hspan
            generalize ((bs (s.extract m s.size)).takeWhile Lx.blank).length = d at *
            go_wp2_with (go_at_call 31; refine (HSP.out _).mono ?_; rintro e w' ⟨rfl, rfl⟩)
            go_round
            case rel => exact ⟨m + d, by go_num, by omega, HOUT.out⟩
            case measure => simp [intOf]; omega
    · have hend : GapOf (bs s) n := gap_end HO.out (by
        intro c hc
        have := (List.getElem?_eq_some_iff.1 hc).1
        rw [HL.out] at this; omega)
      have HE := Lib.hid hend
      clear hend
      go_wp2
      go_ret
      exact ⟨⟨n, rfl, HE.out⟩, rfl⟩

end Go.Proofs.YtmkeajeohkdieaaDoor
