/- The reference's small functions: Value, sign, Quote, Name, Number. -/
import Derived.Test.YtmkeajeohkdieaaDoorLxR
import Derived.Outline
namespace Go.Proofs.YtmkeajeohkdieaaDoor
open Go.RowKit Lx
set_option linter.unusedSimpArgs false
set_option linter.unusedVariables false

theorem all_at {p : UInt8 → Bool} {l : List UInt8} {k : Nat} {c : UInt8} (h : l[k]? = some c) : (l.take (k + 1)).all p = ((l.take k).all p && p c) := by
  rw [List.take_add_one, h]; simp
theorem all_not {p : UInt8 → Bool} {l : List UInt8} {k : Nat} {c : UInt8} (h : l[k]? = some c) (hp : p c = false) : l.all p = false := by
  rw [List.all_eq_false]
  exact ⟨c, List.mem_of_getElem? h, by simp [hp]⟩

set_option maxHeartbeats 2000000 in
theorem refValue_any (s : ByteArray) (w : World) (hs : s.size ≤ 9223372036854775807) :
    Calls Tryd.prog 35 #[.string s] w fun e w' => e = .returned (.bool (valueOk (bs s))) ∧ w = w' := by
  have HLB := Lib.hid (bs_len s)
  go_enter Tryd.func35, Tryd.ntmps35
  go_wp2_with fail
  go_loop [3] (fun i => ∃ k : Nat, i = .int .i64 k ∧ k ≤ s.size ∧ Hid (((bs s).take k).all plain = true)) (fun i => s.size - (intOf i).toNat)
  case atStart => exact ⟨0, rfl, by omega, rfl⟩
  case round =>
    obtain ⟨k, rfl, hk, HA⟩ := hrel
    by_cases hlt : k < s.size
    · have hg := bs_get s k hlt
      have hp : plain s[k] = (decide (32 ≤ s[k].toNat) && decide (s[k].toNat ≤ 126)) := by rw [Bool.eq_iff_iff]; simp [plain]
      have HN := Lib.hid (all_at (p := plain) hg)
      have HNO := Lib.hid (all_not (p := plain) hg)
      have HPL := Lib.hid hp
      clear hg hp
      by_cases h32 : (s[k].toNat : Int) < 32
      · have HX := Lib.hid (show valueOk (bs s) = false by unfold valueOk; rw [HNO.out (by rw [HPL.out]; simp; omega)]; rfl)
        have e32 : decide ((s[k].toNat : Int) < 32) = true := decide_eq_true h32
        go_wp2
        go_ret
        exact ⟨ret_bool HX.out.symm, rfl⟩
      · by_cases h126 : (126 : Int) < (s[k].toNat : Int)
        · have HX := Lib.hid (show valueOk (bs s) = false by unfold valueOk; rw [HNO.out (by rw [HPL.out]; simp; omega)]; rfl)
          have e32 : decide ((s[k].toNat : Int) < 32) = false := decide_eq_false h32
          have e126 : decide ((126 : Int) < (s[k].toNat : Int)) = true := decide_eq_true h126
          go_wp2
          go_ret
          exact ⟨ret_bool HX.out.symm, rfl⟩
        · have HX := Lib.hid (show ((bs s).take (k + 1)).all plain = true by rw [HN.out, HA.out, HPL.out]; simp; omega)
          have e32 : decide ((s[k].toNat : Int) < 32) = false := decide_eq_false h32
          have e126 : decide ((126 : Int) < (s[k].toNat : Int)) = false := decide_eq_false h126
          go_wp2
          go_round
          case rel => exact ⟨k + 1, by go_num, by omega, HX.out⟩
          case measure => simp [intOf]; omega
    · obtain rfl : k = s.size := by omega
      have hv : valueOk (bs s) = decide ((s.size : Int) ≤ 400) := by
        have h := HA.out
        rw [← HLB.out, List.take_length] at h
        unfold valueOk; rw [h, HLB.out, Bool.eq_iff_iff]; simp; omega
      have HV := Lib.hid hv
      clear hv
      go_wp2
      go_ret
      exact ⟨ret_bool HV.out.symm, rfl⟩

set_option maxHeartbeats 2000000 in
theorem refSign_any (c : UInt8) (w : World) :
    Calls Tryd.prog 46 #[.int .u8 (c.toNat : Int)] w fun e w' => e = .returned (.bool (sign c)) ∧ w = w' := by
  obtain ⟨t, ht⟩ : ∃ t : ByteArray, t = ⟨#[40, 41, 44, 59, 58, 61, 60, 43, 45, 42, 46, 123, 125]⟩ := ⟨_, rfl⟩
  have hz : t.size = 13 := by rw [ht]; rfl
  have hb : bs t = signs := by rw [ht]; rfl
  have HB := Lib.hid hb
  clear hb
  go_enter Tryd.func46, Tryd.ntmps46
  go_wp2_with fail
  rw [← ht]
  have hz1 : t.size ≤ 13 := by omega
  have hz2 : 13 ≤ t.size := by omega
  clear ht hz
  go_loop [4] (fun i => ∃ k : Nat, i = .int .i64 k ∧ k ≤ 13 ∧ Hid (∀ j d, j < k → signs[j]? = some d → d ≠ c)) (fun i => 13 - (intOf i).toNat)
  case atStart => exact ⟨0, rfl, by omega, fun j d h => by omega⟩
  case round =>
    obtain ⟨k, rfl, hk, HN⟩ := hrel
    by_cases hlt : k < t.size
    · have hg := bs_get t k hlt
      rw [HB.out] at hg
      have HG := Lib.hid hg
      clear hg
      cases hcd : ((t[k].toNat : Int) == (c.toNat : Int)) with
      | true =>
        have hy : sign c = true := by
          rw [is_byte t[k] c _ rfl] at hcd
          have he : t[k] = c := by simpa using hcd
          unfold sign
          rw [List.contains_iff_mem, ← he]
          exact List.mem_of_getElem? HG.out
        have HY := Lib.hid hy
        clear hy
        go_wp2
        go_ret
        exact ⟨ret_bool HY.out.symm, rfl⟩
      | false =>
        have hne : t[k] ≠ c := by
          intro e
          rw [is_byte t[k] c _ rfl] at hcd
          rw [e] at hcd; simp at hcd
        have HN' := Lib.hid (show ∀ j d', j < k + 1 → signs[j]? = some d' → d' ≠ c from fun j d' hj he => by
          by_cases hjk : j = k
          · subst hjk
            have := HG.out
            rw [he] at this
            injection this with this
            rw [this]
            exact hne
          · exact HN.out j d' (by omega) he)
        clear hne
        go_wp2
        go_round
        case rel => exact ⟨k + 1, by go_num, by omega, HN'.out⟩
        case measure => simp [intOf]; omega
    · have hno : sign c = false := by
        cases h : sign c with
        | false => rfl
        | true =>
          exfalso
          unfold sign at h
          rw [List.contains_iff_mem] at h
          obtain ⟨j, hj⟩ := List.mem_iff_getElem?.1 h
          have hl13 : j < 13 := (List.getElem?_eq_some_iff.1 hj).1
          exact HN.out j _ (by omega) hj rfl
      have HY := Lib.hid hno
      clear hno
      go_wp2
      go_ret
      exact ⟨ret_bool HY.out.symm, rfl⟩

set_option maxHeartbeats 2000000 in
theorem refQuote_any (s : ByteArray) (w : World) (hs : s.size ≤ 1000000) :
    Calls Tryd.prog 20 #[.string s] w fun e w' => e = .returned (.tuple #[.string ⟨(quoteV (bs s)).toArray⟩, .bool (valueOk (bs s))]) ∧ w = w' := by
  have hval := fun wx => refValue_any s wx (by omega)
  have hesc := fun wx => refEscaped_any s wx hs
  cases hv : valueOk (bs s) with
  | true =>
    rw [hv] at hval
    have hq : quote (bs s) = quoteV (bs s) := by unfold quoteV; rw [if_pos hv]
    rw [hq] at hesc
    have HV := Lib.hid hval
    have HE := Lib.hid hesc
    clear hval hesc hv hq
    go_enter Tryd.func20, Tryd.ntmps20
    go_wp2_with (first | (go_at_call 35; refine (HV.out _).mono ?_; rintro e w' ⟨rfl, rfl⟩) | (go_at_call 14; refine (HE.out _).mono ?_; rintro e w' ⟨rfl, rfl⟩))
    go_ret2
    exact ⟨rfl, rfl⟩
  | false =>
    rw [hv] at hval
    have HQ := Lib.hid (show quoteV (bs s) = [] by unfold quoteV; rw [hv]; rfl)
    have HV := Lib.hid hval
    clear hval hesc hv
    go_enter Tryd.func20, Tryd.ntmps20
    go_wp2_with (go_at_call 35; refine (HV.out _).mono ?_; rintro e w' ⟨rfl, rfl⟩)
    go_ret2
    exact ⟨by rw [HQ.out]; rfl, rfl⟩

end Go.Proofs.YtmkeajeohkdieaaDoor
